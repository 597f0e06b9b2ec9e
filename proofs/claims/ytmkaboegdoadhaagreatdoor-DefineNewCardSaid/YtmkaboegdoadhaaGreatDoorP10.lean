/- A part of the proof; shortened by program. -/
import Derived.Test.YtmkaboegdoadhaaGreatDoorP09
set_option maxRecDepth 100000
set_option maxHeartbeats 4000000
set_option linter.unusedSimpArgs false
set_option linter.unusedVariables false
namespace Go.AM
open Go
abbrev SM(α:Type):=List (Str×α)
def kS(s:Str):Key:=.str (s.map UInt8.toNat)
def Cn{α:Type}(enc:α->AV)(m:SM α):List (Key×AV):=m.map fun p=>(kS p.1,enc p.2)
def SM.get{α:Type}:SM α->Str->Option α
 |[],_=>none
 |(k,v)::r,s=>if s=k then some v else SM.get r s
def SM.set{α:Type}:SM α->Str->α->SM α
 |[],_,_=>[]
 |(k,v)::r,s,x=>if s=k then(k,x)::r else(k,v)::SM.set r s x
def SM.ins{α:Type}:SM α->Str->α->SM α
 |[],s,x=>[(s,x)]
 |(k,v)::r,s,x=>if Key.lt (kS s) (kS k)then(s,x)::(k,v)::r else(k,v)::SM.ins r s x
def SM.put{α:Type}(m:SM α)(s:Str)(x:α):SM α:=match m.get s with|some _=>m.set s x|none=>m.ins s x
def SM.has(m:SM Bool)(s:Str):Bool:=(m.get s).getD false
theorem Abl(a b):Key.eq (kS a) (kS b)=decide (a=b):=by
 show Fm _ _=_
 by_cases h:a=b
 ·rw[decide_eq_true h];subst h;exact(Gu _ _).2 rfl
 ·rw[decide_eq_false h];cases hb:Fm (a.map UInt8.toNat) (b.map UInt8.toNat)with
  |true=>exact absurd (Fu.1 ((Gu _ _).1 hb)) h
  |false=>rfl
section
variable {α:Type}{enc:α->AV}{m:SM α}{s t:Str}{x:α}
theorem Ih:∀{m:SM α},D5 (kS s) (Cn enc m)=(m.get s).map enc
 |[]=>rfl
 |(k,v)::r=>by
  show cond (Key.eq (kS s) (kS k)) (some (enc v)) (D5 (kS s) (Cn enc r))=_
  rw[Abl,SM.get]
  by_cases h:s=k
  ·rw[decide_eq_true h,cond_true,if_pos h];rfl
  ·rw[decide_eq_false h,cond_false,if_neg h];exact Ih
theorem Abm:∀{m:SM α},Ph (kS s) (enc x) (Cn enc m)=Cn enc (m.set s x)
 |[]=>rfl
 |(k,v)::r=>by
  show cond (Key.eq (kS s) (kS k)) ((kS k,enc x)::Cn enc r) ((kS k,enc v)::Ph (kS s) (enc x) (Cn enc r))=_
  rw[Abl,SM.set]
  by_cases h:s=k
  ·rw[decide_eq_true h,cond_true,if_pos h];rfl
  ·rw[decide_eq_false h,cond_false,if_neg h,Abm];rfl
theorem Abn:∀{m:SM α},Nx (kS s) (enc x) (Cn enc m)=Cn enc (m.ins s x)
 |[]=>rfl
 |(k,v)::r=>by
  show cond (Key.lt (kS s) (kS k)) ((kS s,enc x)::(kS k,enc v)::Cn enc r) ((kS k,enc v)::Nx (kS s) (enc x) (Cn enc r))=_
  rw[SM.ins];cases h:Key.lt (kS s) (kS k)
  ·rw[cond_false,if_neg (by simp),Abn];rfl
  ·rw[cond_true,if_pos rfl];rfl
theorem Aq7:Aot (kS s) (enc x) (Cn enc m)=Cn enc (m.put s x):=by
 unfold Aot SM.put;rw[Ih];cases m.get s with
 |none=>exact Abn
 |some y=>exact Abm
theorem SM.get_set:∀{m:SM α},(m.set s x).get t=if t=s/\(m.get s).isSome then some x else m.get t
 |[]=>by simp[SM.set,SM.get]
 |(k,v)::r=>by
  unfold SM.set
  by_cases h:s=k
  ·subst h;rw[if_pos rfl];simp only[SM.get,if_true,ew_,and_true]
   by_cases ht:t=s
   ·simp[ht]
   ·simp[ht]
  ·rw[if_neg h];simp only[SM.get,if_neg h]
   by_cases ht:t=k
   ·subst ht;rw[if_pos rfl,if_pos rfl,if_neg (fun hh=>h hh.1.symm)]
   ·rw[if_neg ht,if_neg ht];exact SM.get_set
theorem SM.get_ins:∀{m:SM α},m.get s=none->(m.ins s x).get t=if t=s then some x else m.get t
 |[],_=>by simp[SM.ins,SM.get]
 |(k,v)::r,hn=>by
  have hk:s≠k:=fun h=>by simp[SM.get,h]at hn
  have hr:SM.get r s=none:=by simpa[SM.get,hk]using hn
  unfold SM.ins
  split
  ·simp only[SM.get]
  ·simp only[SM.get]
   by_cases ht:t=k
   ·subst ht;rw[if_pos rfl,if_neg (fun h=>hk h.symm),if_pos rfl]
   ·rw[if_neg ht,if_neg ht];exact SM.get_ins hr
theorem SM.get_put:(m.put s x).get t=if t=s then some x else m.get t:=by
 unfold SM.put;cases h:m.get s with
 |none=>exact SM.get_ins h
 |some y=>simp only[SM.get_set,h,ew_,and_true]
abbrev ch_:=@SM.get_put
theorem SM.has_put{m:SM Bool}:(m.put s true).has t=(decide (t=s)||m.has t):=by
 unfold SM.has;rw[ch_]
 by_cases h:t=s
 ·rw[if_pos h,decide_eq_true h];rfl
 ·rw[if_neg h,decide_eq_false h];rfl
abbrev fo_:=@SM.has_put
theorem Aey{N}(h:∀a,AV.und N (enc a)=true)(m):Jc N (Cn enc m)=true:=by
 unfold Jc Cn;rw[List.all_map,b_];intro p _;exact h p.2
end
def B8{α:Type}(enc:α->AV)(σ:Sto)(r:Nat)(m:SM α):Prop:=∃ver,σ.get r=some (.map 9 (Cn enc m) ver)
abbrev Fi(σ:Sto)(r:Nat)(m:SM Bool):Prop:=B8 bV σ r m
section
variable {E:Env}{ρ:Ad}{σ σ':Sto}{Rr:Rec}{t:Nat}{x y w:Operand}{α:Type}{enc:α->AV}{m:SM α}{s:Str}{r:Nat}
theorem keyS(h:Fs E.P 9=true):D4 E.P 9 (sV s)=some (kS s):=by
 unfold Fs at h
 split at h
 ·rename_i ti hti
  split at h
  ·rename_i hd
   unfold D4;simp only[hti,hd]
   rfl
  ·cases h
 ·cases h
theorem W4{z sz agg}(h9:Fs E.P 9=true)(hi:mpI E.P t=some (9,z,sz,agg))(hx:Ah E ρ x=some (.mp r))(hm:B8 enc σ r m)(hy:Ah E ρ y=some (sV s)):
  As E Rr (.lookup t x y false) ρ σ (((m.get s).map enc).getD z) σ:=by
 have:=Aet (Rr:=Rr) hi hx (show Xz σ 9 (Cn enc m) (.mp r)from hm) hy (keyS h9)
 rwa[Ih]at this
theorem Ag1{z sz agg}(h9:Fs E.P 9=true)(hi:mpI E.P t=some (9,z,sz,agg))(hx:Ah E ρ x=some (.mp r))(hm:B8 enc σ r m)(hy:Ah E ρ y=some (sV s)):
  As E Rr (.lookup t x y true) ρ σ (.tup [((m.get s).map enc).getD z,.bool (m.get s).isSome]) σ:=by
 have:=Abf (Rr:=Rr) hi hx (show Xz σ 9 (Cn enc m) (.mp r)from hm) hy (keyS h9)
 rwa[Ih,Option.isSome_map]at this
theorem De{sz agg m}(h9:Fs E.P 9=true)(hi:mpI E.P t=some (9,.bool false,sz,agg))(hx:Ah E ρ x=some (.mp r))(hm:Fi σ r m)(hy:Ah E ρ y=some (sV s)):
  As E Rr (.lookup t x y false) ρ σ (.bool (m.has s)) σ:=by
 have:=W4 (Rr:=Rr) h9 hi hx hm hy
 have e:((m.get s).map bV).getD (.bool false)=.bool (m.has s):=by unfold SM.has;cases m.get s<;>rfl
 rwa[e]at this
theorem Gh{z sz ver agg v}(h9:Fs E.P 9=true)(hi:mpI E.P t=some (9,z,sz,agg))(hx:Ah E ρ x=some (.mp r))(hm:σ.get r=some (.map 9 (Cn enc m) ver))
  (hy:Ah E ρ y=some (sV s))(hw:Ah E ρ w=some (enc v))(hf:∀te:TI,te.size=sz->te.isAgg=agg->Je te (enc v)=true):
  As E Rr (.mapUpdate t x y w) ρ σ An (σ.set r (.map 9 (Cn enc (m.put s v)) (ver+1))):=by
 have:=Aeu (Rr:=Rr) hi hx hm hy (keyS h9) hw hf
 rwa[Aq7]at this
end
theorem I0{te n b}(_:te.size=n)(h:te.isAgg=false):Je te (bV b)=true:=by unfold bV Je;rw[h];rfl
theorem I1{te n s}(_:te.size=n)(h:te.isAgg=false):Je te (sV s)=true:=by unfold sV Je;rw[h];rfl
theorem I2{te n k i}(_:te.size=n)(h:te.isAgg=false):Je te (.int k i)=true:=by unfold Je;rw[h];rfl
theorem Jn{te n r}(_:te.size=n)(h:te.isAgg=false):Je te (.mp r)=true:=by unfold Je;rw[h];rfl
theorem H6{te n cs}(hn:te.size=n)(h:te.isAgg=true)(hc:cs.length=n):Je te (.agg cs)=true:=by
 show(te.isAgg&&Nat.beq cs.length te.size)=true
 rw[h,hn,hc,aw_];rfl
section
variable {σ σ':Sto}{α:Type}{enc:α->AV}{m:SM α}{r a:Nat}
theorem B8.lt(hw:WFS σ)(h:B8 enc σ r m):r<nx σ:=by obtain⟨v,h⟩:=h;exact(hw _ _ h).1
theorem B8.of_get(h:B8 enc σ r m)(hg:σ'.get r=σ.get r):B8 enc σ' r m:=by obtain⟨v,h⟩:=h;exact⟨v,hg.trans h⟩
theorem B8.new(h:B8 enc σ r m)(hw:r<nx σ){o}:B8 enc (σ.new o) r m:=h.of_get (by rw[ag_,if_neg Om])
theorem B8.set(h:B8 enc σ r m){o}(hne:r≠a):B8 enc (σ.set a o) r m:=h.of_get (by rw[aa_,if_neg Om])
theorem B8.put{ver}:B8 enc (σ.set r (.map 9 (Cn enc m) ver)) r m:=⟨ver,by rw[aa_,if_pos rfl]⟩
abbrev dz_:=@B8.put
theorem B8.fresh{ver}:B8 enc (σ.new (.map 9 (Cn enc m) ver)) (nx σ) m:=⟨ver,by rw[ag_,if_pos rfl]⟩
end
section
variable {E:Env}{nt B:Nat}{df:List (Nat×List AV)}{Q:Cc}{Rr:Rec}{ops r:List Oper}{K:KD}{ρ:Ad}{σ τ:Sto}{eps:List Sto}{log:List (Ad×AV)}
theorem Amp{o b}(hg:∀tm,Has tm ρ->Bn ops o tm=some false)(he:B5 (Bc E o.op)=b)(hd:B0 nt o.dst=true)
  (k:TD E nt Rr ops r K (Dt o.dst An ρ) σ (cond b (σ::eps) eps) ((ρ,An)::log)):TD E nt Rr ops (o::r) K ρ σ eps log:=by
 intro tm df dl ht hl;obtain⟨tm',h1,h2⟩:=C6 (dst:=o.dst) hd ht An
 have:Rc E ops o Rr ⟨⟨tm,nt,df,σ⟩,eps,dl⟩=some ⟨⟨tm',nt,df,σ⟩,cond b (σ::eps) eps,(tm,An)::dl⟩:=by
  unfold Rc;simp only[hg tm ht,h1,he];cases b<;>rfl
 obtain⟨d',k1,k2⟩:=k tm' df ((tm,An)::dl) h2 ⟨ht,rfl,hl⟩
 exact⟨d',by simp only[T9,this];exact k1,k2⟩
theorem Ta{o oj}{j d:Nat}{b want e}(hg:o.guard=some (j,want))(hj:ops[j]? =some oj)(hdj:oj.dst=some d)(hb:Ad.at ρ d=some (.bool b))(hw:cond b want (!want)=false)
  (he:B5 (Bc E o.op)=e)(hd:B0 nt o.dst=true)
  (k:TD E nt Rr ops r K (Dt o.dst An ρ) σ (cond e (σ::eps) eps) ((ρ,An)::log)):TD E nt Rr ops (o::r) K ρ σ eps log:=
 Amp (fun tm ht=>by rw[Hf ht hg hj hdj hb,hw]) he hd k
theorem Zy{o oj}{j d:Nat}{want e}(hg:o.guard=some (j,want))(hj:ops[j]? =some oj)(hdj:oj.dst=some d)(hb:Ad.at ρ d=some An)
  (he:B5 (Bc E o.op)=e)(hd:B0 nt o.dst=true)
  (k:TD E nt Rr ops r K (Dt o.dst An ρ) σ (cond e (σ::eps) eps) ((ρ,An)::log)):TD E nt Rr ops (o::r) K ρ σ eps log:=
 Amp (fun tm ht=>by simp only[Bn,hg,hj,hdj,ht d _ hb];rfl) he hd k
theorem Uu{α enc t sz by' a zz}{l:List α}{x lo k}(hel:elI E.P t=some (sz,by',zz))(he:∀a,(enc a).length=sz)
  (hx:Ah E ρ x=some (slV enc sz l))(h1:Iz E ρ lo=some (some (.int k (.ofNat a))))(ha:a<=l.length):As E Rr (.slice t x lo none none) ρ σ (slV enc sz (l.drop a)) σ:=by
 have hb:Do l.length none (some (.int k (.ofNat a))) none none=some (a,l.length,none):=by
  have h2:Nat.ble a l.length=true:=ar_ ha;have h3:Nat.ble l.length l.length=true:=ar_ nl;simp only[Do,My,h2,Li,h3,cond_true,be_,Mz]
 have:=Ag0 (Rr:=Rr) (σ:=σ) (lo:=lo) (hi:=none) (mx:=none) hel he hx h1 rfl rfl hb ha nl;rw[List.take_length]at this
 rwa[show slV enc sz (l.drop a)=.sv ((l.drop a).flatMap enc) sz (l.length-a) none by rw[←dp_];rfl]
theorem Bo{c}(h:WFS σ->T E nt df B c Q ρ σ):T E nt df B c Q ρ σ:=fun ro n hn C w tm a ht st hB=>h st.sim.wfs ro n hn C w tm a ht st hB
theorem Av4{c i v}(hi:Ad.at ρ i=some v)(h:AV.und (nx σ) v=true->T E nt df B c Q ρ σ):T E nt df B c Q ρ σ:=fun ro n hn C w tm a ht st hB=>h (R.und _ _ (st.tmps i v (ht i v hi))) ro n hn C w tm a ht st hB
def cutQ(L:Ad)(τ:Sto):Cc
 |.normal=>fun ρ σ=>Km L ρ/\σ=τ
 |_=>fun _ _=>False
theorem Aoy{x y}(L τ)(h:T E nt df B x (cutQ L τ) ρ σ)(k:T E nt df B y Q L τ):T E nt df B (.seq x y) Q ρ σ:=by
 refine Aew (h.mono fun e ρ' σ' hq=>?_)
 cases e with
 |normal=>obtain⟨h1,rfl⟩:=hq;exact k.sub h1
 |exit _=>exact hq.elim
 |ret=>exact hq.elim
theorem Ad.at_app:∀(L ρ:Ad) (i:Nat),Ad.at (L++ρ) i=(Ad.at L i).or (Ad.at ρ i)
 |[],ρ,i=>rfl
 |(j,v)::r,ρ,i=>by
  show cond (Nat.beq j i) (some v) (Ad.at (r++ρ) i)=(cond (Nat.beq j i) (some v) (Ad.at r i)).or _
  cases Nat.beq j i with
  |true=>rfl
  |false=>exact Ad.at_app r ρ i
abbrev ga_:=@Ad.at_app
def addQ(L ρ:Ad)(τ:Sto):Cc
 |.normal=>fun ρ' σ=>Km L ρ'/\Hy ρ ρ'/\σ=τ
 |_=>fun _ _=>False
theorem Gg{x y}(L)(h:T E nt df B x (addQ L ρ σ) ρ σ)(k:T E nt df B y Q (L++ρ) σ):T E nt df B (.seq x y) Q ρ σ:=by
 refine Aew (h.mono fun e ρ' σ' hq=>?_)
 cases e with
 |normal=>
  obtain⟨h1,h2,rfl⟩:=hq;refine fun ro n hn C w tm a ht st hB=>k ro n hn C w tm a (fun i v hv=>?_) st hB
  rw[ga_]at hv;cases hL:Ad.at L i with
  |some u=>rw[hL]at hv;cases hv;exact ht i _ (h1.at i _ hL)
  |none=>rw[hL]at hv;exact ht i v (h2 i v hv)
 |exit _=>exact hq.elim
 |ret=>exact hq.elim
def cutP(P:Ad->Sto->Prop):Cc
 |.normal=>fun ρ σ=>∃L,Km L ρ/\P L σ
 |_=>fun _ _=>False
theorem Ak6{x y}(P)(h:T E nt df B x (cutP P) ρ σ)(k:∀L τ,P L τ->T E nt df B y Q L τ):T E nt df B (.seq x y) Q ρ σ:=by
 refine Aew (h.mono fun e ρ' σ' hq=>?_)
 cases e with
 |normal=>obtain⟨L,h1,h2⟩:=hq;exact(k L σ' h2).sub h1
 |exit _=>exact hq.elim
 |ret=>exact hq.elim
end
def ltS(a b:Str):Bool:=C8 (a.map UInt8.toNat) (b.map UInt8.toNat)
section
variable {E:Env}{ρ:Ad}{σ σ':Sto}{Rr:Rec}{t ty n:Nat}{x y:Operand}
theorem boolI{P}(h:Zv P t=true):∃ti,Ay P t=some ti/\ti.desc=.bool:=by
 unfold Zv at h
 split at h
 ·rename_i ti hti
  split at h
  ·rename_i hd;exact⟨ti,hti,hd⟩
  ·cases h
 ·cases h
theorem Aw2{a b}(hi:Zv E.P t=true)(hx:Ah E ρ x=some (.bool a))(hy:Ah E ρ y=some (.bool b)):As E Rr (.binOp .eql t x y ty) ρ σ (.bool (a==b)) σ:=fun tm h=>by
 obtain⟨ti,h1,h2⟩:=boolI hi;simp only[opA,Aw,h.opd hx,h.opd hy,Wb,h1,h2,Sx];cases a<;>cases b<;>rfl
theorem Abo{a b}(hi:okI E.P t=true)(hx:Ah E ρ x=some (sV a))(hy:Ah E ρ y=some (sV b)):As E Rr (.binOp .geq t x y ty) ρ σ (.bool (!ltS a b)) σ:=Agp hi hx hy rfl
theorem Amq{a b}(hi:okI E.P t=true)(hx:Ah E ρ x=some (sV a))(hy:Ah E ρ y=some (sV b))(hl:a.length+b.length<=Aaa):As E Rr (.binOp .add t x y ty) ρ σ (sV (a++b)) σ:=by
 refine Agp hi hx hy ?_
 have h1:Nat.ble ((a.map UInt8.toNat).length+(b.map UInt8.toNat).length) Aaa=true:=by rw[cx_,cx_];exact ar_ hl
 simp only[T3,h1,cond_true,sV,co_]
theorem Aw3{l m a b}(hi:okI E.P t=true)(hx:Ah E ρ x=some (.agg l))(hy:Ah E ρ y=some (.agg m))(hcx:Cm x=false)(hcy:Cm y=false)(h1:D4 E.P t (.agg l)=some a)(h2:D4 E.P t (.agg m)=some b):
  As E Rr (.binOp .neq t x y ty) ρ σ (.bool (!Key.eq a b)) σ:=fun tm h=>by
 obtain⟨ti,hti⟩:=Nl hi;simp only[opA,Aw,h.opd hx,h.opd hy,hcx,hcy,Wb,hti,Ir,Bool.or_self,cond_false,Pn,h1,h2,Sx]
theorem Aq8{kt sz agg z}(hi:mpI E.P t=some (kt,z,sz,agg)):∃ti et,Ay E.P t=some ti/\ti.desc=.map kt et:=by
 obtain⟨ti,et,te,h1,h2,_⟩:=Abe hi;exact⟨ti,et,h1,h2⟩
theorem Aul{α enc}{m:SM α}{r kt sz agg z}(hi:mpI E.P t=some (kt,z,sz,agg))(hx:Ah E ρ x=some (.mp r))(hm:B8 enc σ r m):
  As E Rr (.call ⟨.builtin .len,#[x],#[t]⟩) ρ σ (.int .i64 (.ofNat m.length)) σ:=fun tm h=>by
 obtain⟨ti,et,h1,h2⟩:=Aq8 hi;obtain⟨ver,hv⟩:=hm;simp only[opA,Aw,h1,Ee,h2,h.opd hx,opds,T6,hv,Ak,Cn,cx_]
theorem Aq9{r kt sz agg z}(hi:mpI E.P t=some (kt,z,sz,agg))(hx:Ah E ρ x=some (.mp r)):As E Rr (.binOp .eql t x (.const (.map none)) ty) ρ σ (.bool false) σ:=fun tm h=>by
 obtain⟨ti,et,h1,h2⟩:=Aq8 hi;simp only[opA,Aw,h.opd hx,Cm,Wb,h1,Bool.or_true,Ir,cond_true];simp only[h2]
 rfl
theorem Ara{kt sz agg z}(hi:mpI E.P t=some (kt,z,sz,agg))(hx:Ah E ρ x=some (.nil (.map none))):As E Rr (.binOp .eql t x (.const (.map none)) ty) ρ σ (.bool true) σ:=fun tm h=>by
 obtain⟨ti,et,h1,h2⟩:=Aq8 hi;simp only[opA,Aw,h.opd hx,Cm,Wb,h1,Bool.or_true,Ir,cond_true];simp only[h2]
 rfl
theorem Aoz{α enc}{m:SM α}{r kt sz ver agg z}(hi:mpI E.P t=some (kt,z,sz,agg))(hx:Ah E ρ x=some (.mp r))(hm:σ.get r=some (.map 9 (Cn enc m) ver)):
  As E Rr (.call ⟨.builtin .clear,#[x],#[t]⟩) ρ σ An (σ.set r (.map 9 [] (ver+1))):=fun tm h=>by
 obtain⟨ti,et,h1,h2⟩:=Aq8 hi;simp only[opA,Aw,h1,Ee,h2,h.opd hx,opds,Q9,hm,Ak]
theorem Ao0(a b):Aag a b=min a b:=by
 unfold Aag;have:=Ec (a:=a) (b:=b);rw[this]
 by_cases h:a<=b
 ·rw[decide_eq_true h,cond_true];omega
 ·rw[decide_eq_false h,cond_false];omega
theorem Ao1(a b):Ll a b=max a b:=by
 unfold Ll;have:=Ec (a:=b) (b:=a);rw[this]
 by_cases h:b<=a
 ·rw[decide_eq_true h,cond_true];omega
 ·rw[decide_eq_false h,cond_false];omega
theorem Aw4{k p q}(hi:okI E.P t=true){tys:Nat}(hx:Ah E ρ x=some (.int k p))(hy:Ah E ρ y=some (.int k q)):As E Rr (.call ⟨.builtin .max,#[x,y],#[t,tys]⟩) ρ σ (.int k (max p q)) σ:=fun tm h=>by
 obtain⟨ti,hti⟩:=Nl hi;simp only[opA,Aw,hti,Ee,h.opd hx,h.opd hy,opds,Xm,Qd,cond_true,Ao1]
theorem Ak7{k p q}(hi:okI E.P t=true){tys:Nat}(hx:Ah E ρ x=some (.int k p))(hy:Ah E ρ y=some (.int k q)):As E Rr (.call ⟨.builtin .min,#[x,y],#[t,tys]⟩) ρ σ (.int k (min p q)) σ:=fun tm h=>by
 obtain⟨ti,hti⟩:=Nl hi;simp only[opA,Aw,hti,Ee,h.opd hx,h.opd hy,opds,Xm,Qd,cond_true,Ao0]
end
section
variable {E:Env}{ρ:Ad}{σ σ':Sto}{Rr:Rec}{t ty n a i:Nat}{x y:Operand}{α:Type}{enc:α->List AV}{sz by':Nat}{l:List α}
theorem Ro:∀{p q u v:List AV},u.length=q.length->Et (p++q++v) p.length u=some (p++u++v)
 |[],q,u,v,h=>by
  simp only[bd_,cu_];exact go h
 |x::p,q,u,v,h=>by
  simp only[ay_,as_,Et,Ro h]
 where
 go:∀{q u v:List AV},u.length=q.length->Et (q++v) 0 u=some (u++v)
  |[],[],v,_=>by cases v<;>rfl
  |y::q,z::u,v,h=>by
   have:=go (q:=q) (u:=u) (v:=v) (by simpa using h)
   simp only[ay_,Et,this]
  |[],_::_,_,h=>by simp at h
  |_::_,[],_,h=>by simp at h
theorem Arb(he:∀a,(enc a).length=sz){b}(hi:i<l.length)(tl):Et (l.flatMap enc++tl) (i*sz) (enc b)=some ((l.set i b).flatMap enc++tl):=by
 have h1:l=l.take i++l[i]::l.drop (i+1):=by rw[←bj_ hi,cc_]
 have h2:l.set i b=l.take i++b::l.drop (i+1):=List.set_eq_take_append_cons_drop▸by rw[if_pos hi]
 have h3:((l.take i).flatMap enc).length=i*sz:=by rw[Dl he,cb_,du_ (gb_ hi)]
 have h4:l.flatMap enc++tl=(l.take i).flatMap enc++enc l[i]++((l.drop (i+1)).flatMap enc++tl):=by
  refine(congrArg (fun k=>List.flatMap enc k++tl) h1).trans ?_
  simp only[da_,bs_,ca_]
 rw[h4,h2,←h3,Ro (by rw[he,he])]
 simp only[da_,bs_,ca_]
theorem Br{zz k m cap}(hi:elI E.P t=some (sz,by',zz))(hx:Ah E ρ x=some (.sr a 0 sz m cap))(hy:Ah E ρ y=some (.int k (.ofNat i)))(hm:i<m):
  As E Rr (.indexAddr t x y) ρ σ (.pr a (i*sz)) σ:=by
 have h:=Aif (Rr:=Rr) (σ:=σ) hi hx hy (m:=m) rfl rfl hm
 have e:Aie (.sr a 0 sz m cap) (i*sz)=.pr a (i*sz):=by show AV.pr a (0+i*sz)=_;rw[bn_]
 rwa[e]at h
theorem Dg{u v agg tl}(he:∀a,(enc a).length=sz)(hi:ldI E.P t=some (sz,agg))(hx:Ah E ρ x=some (.pr a (i*sz)))(hg:σ.get a=some (.cells (l.flatMap enc++tl)))(hu:l[i]? =some u)(hv:∀r,Cz sz agg (enc u++r)=some v):
  As E Rr (.load t x) ρ σ v σ:=by
 refine Ac (cs:=(l.flatMap enc++tl).drop (i*sz)) hi hx (by simp only[Em,Sto.cells,hg]) ?_
 have hi:=(ae_.1 hu).1
 have h0:i*sz<=(l.flatMap enc).length:=by rw[Dl he];exact el_ _ (gb_ hi)
 rw[fj_ h0,Aml he hu,ca_];exact hv _
theorem Tb{u v agg tl}(he:∀a,(enc a).length=sz)(hi:ldI E.P t=some (sz,agg))(hx:Ah E ρ x=some (.pr a (i*sz)))(hy:Ah E ρ y=some v)(hc:v.cellsN sz=some (enc u))(hg:σ.get a=some (.cells (l.flatMap enc++tl)))(hl:i<l.length):
  As E Rr (.store t x y) ρ σ An (σ.set a (.cells ((l.set i u).flatMap enc++tl))):=
 By hi hx hy hc (by simp only[Sto.cells,hg]) (Arb he hl tl)
theorem Aim{zz k m b lo}(hel:elI E.P t=some (sz,by',zz))(hx:Ah E ρ x=some (.sr a 0 sz m none))(h1:Iz E ρ lo=some (some (.int k (.ofNat b))))(hb:b<=m):
  As E Rr (.slice t x lo none none) ρ σ (.sr a (b*sz) sz (m-b) none) σ:=fun tm h=>by
 obtain⟨ti,e,te,k1,k2,k3,k4,k5,k6⟩:=Qc hel;subst k4
 have hbd:Do m none (some (.int k (.ofNat b))) none none=some (b,m,none):=by
  have h2:Nat.ble b m=true:=ar_ hb;have h3:Nat.ble m m=true:=ar_ nl;simp only[Do,My,h2,Li,h3,cond_true,be_,Mz]
 have e0:opdO E tm none=none:=rfl;simp only[opA,Aw,k1,k2,k3,h.opd hx,h.opdO h1,e0,Lj,aw_,hbd,Ak,bn_]
theorem Uv{zz k m b hi cap}(hel:elI E.P t=some (sz,by',zz))(hx:Ah E ρ x=some (.sr a 0 sz m cap))(h1:Iz E ρ hi=some (some (.int k (.ofNat b))))(hb:b<=m):
  As E Rr (.slice t x none hi none) ρ σ (.sr a 0 sz b (Mz cap 0)) σ:=fun tm h=>by
 obtain⟨ti,e,te,k1,k2,k3,k4,k5,k6⟩:=Qc hel;subst k4
 have hbd:Do m cap none (some (.int k (.ofNat b))) none=some (0,b,Mz cap 0):=by
  have h2:Nat.ble b m=true:=ar_ hb;have h3:Nat.ble 0 b=true:=ar_ (aq_ _);simp only[Do,My,h3,Li,h2,cond_true,be_]
 have e0:opdO E tm none=none:=rfl;simp only[opA,Aw,k1,k2,k3,h.opd hx,h.opdO h1,e0,Lj,aw_,hbd,Ak,dw_,fd_,es_]
theorem Amr{z}:∀n,(rep z n).length=n*z.length
 |0=>by simp[rep]
 |n+1=>by simp only[rep,bx_,Amr n,fw_];omega
theorem Aez{z tl m b cap}(he:∀a,(enc a).length=sz)(hel:elI E.P t=some (sz,by',some z))(hz:Nat.beq z.length sz=true)(hx:Ah E ρ x=some (.sr a (b*sz) sz m cap))(hg:σ.get a=some (.cells (l.flatMap enc++tl)))(hl:b+m=l.length):
  As E Rr (.call ⟨.builtin .clear,#[x],#[t]⟩) ρ σ An (σ.set a (.cells ((l.take b).flatMap enc++(rep z m++tl)))):=fun tm h=>by
 obtain⟨ti,e,te,k1,k2,k3,k4,k5,k6⟩:=Qc hel;subst k4
 have h2:l.flatMap enc++tl=(l.take b).flatMap enc++(l.drop b).flatMap enc++tl:=by rw[←da_,cc_]
 have h3:((l.take b).flatMap enc).length=b*te.size:=by rw[Dl he,cb_];congr 1;omega
 have h4:(rep z m).length=((l.drop b).flatMap enc).length:=by rw[Amr,Dl he,dp_,ac_ hz];congr 1;omega
 have h5:=Ro (p:=(l.take b).flatMap enc) (v:=tl) h4;rw[h3,←h2,ca_]at h5;simp only[opA,Aw,k1,Ee,k2,k3,k6,hz,h.opd hx,opds,Af6,aw_,Sto.cells,hg,h5]
end
def Own(σ:Sto)(N:Nat){α:Type}(enc:α->List AV)(sz:Nat)(l:List α)(v:AV):Prop:=
 (l=[]/\(v=.nil (.slice none 0 0)∨v=.sv [] sz 0 (some 0)))∨∃a tl,N<=a/\a<nx σ/\v=.sr a 0 sz l.length none/\σ.get a=some (.cells (l.flatMap enc++tl))
section
variable {E:Env}{ρ:Ad}{σ σ' τ:Sto}{Rr:Rec}{t ty n a i N:Nat}{x y:Operand}{α:Type}{enc:α->List AV}{sz by':Nat}{l m:List α}{v:AV}
theorem Own.nil:Own σ N enc sz ([]:List α) (.nil (.slice none 0 0)):=.inl ⟨rfl,.inl rfl⟩
theorem Own.emp:Own σ N enc sz ([]:List α) (.sv [] sz 0 (some 0)):=.inl ⟨rfl,.inr rfl⟩
theorem Own.lenA(h:Own σ N enc sz l v):lenA v=some l.length/\Ad9 v=true:=by
 rcases h with⟨rfl,rfl|rfl⟩|⟨a,tl,_,_,rfl,_⟩<;>exact⟨rfl,rfl⟩
theorem Own.mono(h:Own σ N enc sz l v)(hn:nx σ<=nx σ')(hg:∀a tl,v=.sr a 0 sz l.length none->N<=a->a<nx σ->σ.get a=some (.cells (l.flatMap enc++tl))->σ'.get a=σ.get a):Own σ' N enc sz l v:=by
 rcases h with h|⟨a,tl,h1,h2,h3,h4⟩
 ·exact .inl h
 ·exact .inr ⟨a,tl,h1,by omega,h3,(hg a tl h3 h1 h2 h4).trans h4⟩
theorem Own.app(he:∀a,(enc a).length=sz)(hN:N<=nx σ)(h:Own σ N enc sz l v)(m)(bn:(l.length+m.length)*(by'+1)<=sizeLim):
  ∃v' σ',B6 σ sz by' v m.length (m.flatMap enc)=some (v',σ')/\Own σ' N enc sz (l++m) v'/\Below N σ σ'/\
   (∀b,b<nx σ->(∀c,v=.sr c 0 sz l.length none->b≠c)->σ'.get b=σ.get b):=by
 cases m with
 |nil=>
  refine⟨v,σ,?_,by simpa using h,fn_,fun _ _ _=>rfl⟩
  simp only[cu_,B6]
  rcases h with⟨_,rfl|rfl⟩|⟨a,tl,_,_,rfl,_⟩<;>rfl
 |cons b m=>
  have hb:Nat.ble ((l.length+(b::m).length)*(by'+1)) sizeLim=true:=ar_ bn
  have fresh:∀(c:List α) (τ:Sto),N<=nx τ->Own (τ.new (.cells (c.flatMap enc))) N enc sz c (.sr (nx τ) 0 sz c.length none):=fun c τ hτ=>
   .inr ⟨nx τ,[],hτ,by rw[Ao];omega,rfl,by rw[ag_,if_pos rfl,bh_]⟩
  rcases h with⟨rfl,rfl|rfl⟩|⟨a,tl,h1,h2,rfl,h3⟩
  ·have hb':Nat.ble ((m.length+1)*(by'+1)) sizeLim=true:=ar_ (by simpa using bn)
   refine⟨.sr (nx σ) 0 sz (b::m).length none,σ.new (.cells ((b::m).flatMap enc)),?_,fresh _ _ hN,⟨by rw[Ao];omega,fun c hc=>by rw[ag_,if_neg Om]⟩,fun c hc _=>by rw[ag_,if_neg Om]⟩
   simp only[as_,B6,Ja,bn_,hb',cond_true,Ak,bd_]
  ·have hb':Nat.ble ((m.length+1)*(by'+1)) sizeLim=true:=ar_ (by simpa using bn)
   have h0:Nat.ble (m.length+1) 0=false:=rfl
   refine⟨.sr (nx σ) 0 sz (b::m).length none,σ.new (.cells ((b::m).flatMap enc)),?_,fresh _ _ hN,⟨by rw[Ao];omega,fun c hc=>by rw[ag_,if_neg Om]⟩,fun c hc _=>by rw[ag_,if_neg Om]⟩
   simp only[as_,B6,aw_,h0,fc_,be_,cond_true,Ja,bn_,hb',Ak,bd_]
  ·have ev:σ.cells a=some (l.flatMap enc++tl):=by unfold Sto.cells;rw[h3]
   have b9:Dr (l.length*sz) ((l.flatMap enc++tl).drop 0)=some (l.flatMap enc):=by
    have:=D0 (l:=l.flatMap enc) (r:=tl)
    rwa[Dl he]at this
   simp only[as_]at hb
   refine⟨.sr (nx σ) 0 sz (l++b::m).length none,(σ.kill a).new (.cells (l.flatMap enc++(b::m).flatMap enc)),?_,?_,⟨by rw[Ao,B3];omega,fun c hc=>?_⟩,fun c hc hne=>?_⟩
   ·simp only[as_,B6,aw_,cond_true,ev,b9,Ja,hb,Ak,B3,bx_]
   ·rw[←da_]
    have:=fresh (l++b::m) (σ.kill a) (by rw[B3];exact hN)
    rwa[B3]at this
   ·rw[ag_,B3,if_neg Om,bf_,if_neg Om]
   ·rw[ag_,B3,if_neg Om,bf_,if_neg (hne a rfl)]
abbrev ex_:=@Own.app
theorem Own.fz(he:∀a,(enc a).length=sz)(h:Own σ N enc sz l v)(hτ:∀a,N<=a->τ.get a=none)(hu:AV.unds (nx τ) (l.flatMap enc)=true):Fz σ τ v (slV enc sz l):=by
 rcases h with⟨rfl,rfl|rfl⟩|⟨a,tl,h1,_,rfl,h3⟩
 ·exact .nils (fun q hq=>by cases hq)
 ·exact .sv (fun q hq=>by cases hq) .nil
 ·have b9:Dr (l.length*sz) ((l.flatMap enc++tl).drop 0)=some (l.flatMap enc):=by
   have:=D0 (l:=l.flatMap enc) (r:=tl)
   rwa[Dl he]at this
  exact .sr h3 (hτ a h1) b9 (dj_ hu)
def Ad0(σ:Sto)(N:Nat){α:Type}(enc:α->List AV)(sz:Nat)(l:List α)(v:AV):Prop:=v=.sv (l.flatMap enc) sz l.length (some l.length)∨Own σ N enc sz l v
theorem Ad0.app(he:∀a,(enc a).length=sz)(hN:N<=nx σ)(h:Ad0 σ N enc sz l v)(m)(bn:(l.length+m.length)*(by'+1)<=sizeLim):
  ∃v' σ',B6 σ sz by' v m.length (m.flatMap enc)=some (v',σ')/\Ad0 σ' N enc sz (l++m) v'/\Below N σ σ'/\
   (∀b,b<nx σ->(∀c,v=.sr c 0 sz l.length none->b≠c)->σ'.get b=σ.get b):=by
 rcases h with rfl|h
 ·cases m with
  |nil=>exact⟨_,σ,rfl,.inl (by rw[bh_]),fn_,fun _ _ _=>rfl⟩
  |cons b m=>
   have hb:Nat.ble ((l.length+(m.length+1))*(by'+1)) sizeLim=true:=ar_ bn
   have h0:Nat.ble (l.length+(m.length+1)) l.length=false:=by
    cases hh:Nat.ble (l.length+(m.length+1)) l.length with
    |true=>exact absurd (al_ hh) Om
    |false=>rfl
   refine⟨.sr (nx σ) 0 sz (l++b::m).length none,σ.new (.cells ((l++b::m).flatMap enc)),?_,.inr (.inr ⟨nx σ,[],hN,by rw[Ao];omega,rfl,by rw[ag_,if_pos rfl,bh_]⟩),⟨by rw[Ao];omega,fun c hc=>by rw[ag_,if_neg Om]⟩,fun c hc _=>by rw[ag_,if_neg Om]⟩
   simp only[as_,B6,aw_,h0,fc_,be_,cond_true,Ja,hb,Ak,bx_,da_]
 ·obtain⟨v',σ',h1,h2,h3,h4⟩:=h.app he hN m bn;exact⟨v',σ',h1,.inr h2,h3,h4⟩
theorem Ad0.fz(he:∀a,(enc a).length=sz)(h:Ad0 σ N enc sz l v)(hτ:∀a,N<=a->τ.get a=none)(hu:AV.unds (nx τ) (l.flatMap enc)=true):Fz σ τ v (slV enc sz l):=by
 rcases h with rfl|h
 ·exact .sv (fun q hq=>by cases hq) (dj_ hu)
 ·exact h.fz he hτ hu
theorem WFS.none(hw:WFS σ){a}(h:nx σ<=a):σ.get a=none:=by
 cases hg:σ.get a with
 |none=>rfl
 |some O=>exact absurd (hw a O hg).1 Om
theorem X7(he:∀a,(enc a).length=sz)(σ l):F9 σ sz (slV enc sz l) l.length=some (l.flatMap enc):=by
 have:=D0 (l:=l.flatMap enc) (r:=[]);rw[Dl he,bh_]at this;exact this
end
def Ak8(P:Program)(t:Nat):Bool:=match Ay P t with|some ti=>(match ti.desc with|.int _=>true|_=>false)|none=>false
section
variable {E:Env}{ρ:Ad}{σ σ' τ:Sto}{Rr:Rec}{t t2 ty n a i N:Nat}{x y:Operand}{sz by':Nat}{v:AV}{A B:AO}
theorem Zz(hi:Mk E.P t=true)(hx:Ah E ρ x=some (.nil (.slice none 0 0))):As E Rr (.call ⟨.builtin .cap,#[x],#[t]⟩) ρ σ (.int .i64 (.ofNat 0)) σ:=fun tm h=>by
 unfold Mk at hi
 split at hi
 ·rename_i ti hti
  split at hi
  ·rename_i e hd
   simp only[opA,Aw,hti,Ee,hd,h.opd hx,opds,Kj]
   rfl
  ·cases hi
 ·cases hi
theorem Ams{zz hi k}(hel:elI E.P t=some (sz,by',zz))(hx:Ah E ρ x=some (.nil (.slice none 0 0)))(h1:Iz E ρ hi=some (some (.int k (.ofNat 0)))):
  As E Rr (.slice t x none hi none) ρ σ (.nil (.slice none 0 0)) σ:=fun tm h=>by
 obtain⟨ti,e,te,k1,k2,k3,k4,k5,k6⟩:=Qc hel;have e0:opdO E tm none=none:=rfl;have hb:Do 0 (some 0) none (some (.int k (.ofNat 0))) none=some (0,0,some 0):=rfl;simp only[opA,Aw,k1,k2,k3,h.opd hx,h.opdO h1,e0,Lj,hb]
theorem Ain{z}(hi:elI E.P t=some (sz,by',some z))(hl:Nat.beq z.length sz=true)(h2:Ak8 E.P t2=true)(hx:Ah E ρ x=some (.nil (.slice none 0 0)))(hy:Ah E ρ y=some (.int .i64 (.ofNat (n+1))))(hn:(n+1)*(by'+1)<=sizeLim):
  As E Rr (.call ⟨.builtin .append,#[x,y],#[t,t2]⟩) ρ σ (.sr (nx σ) 0 sz (n+1) none) (σ.new (.cells (rep z (n+1)))):=fun tm h=>by
 obtain⟨ti,e,te,h1,hd,h3,h4,h5,h6⟩:=Qc hi;subst h4 h5;have hb:Nat.ble ((n+1)*(te.bytes+1)) sizeLim=true:=ar_ hn;unfold Ak8 at h2
 split at h2
 ·rename_i t2i ht2
  split at h2
  ·rename_i k hd2
   simp only[opA,Aw,h1,Ee,hd,h3,ht2,h6,hl,hd2,h.opd hx,h.opd hy,opds,T8,hb,cond_true,B6,Ja,bn_,Ak,bd_]
  ·cases h2
 ·cases h2
theorem Av5:((σ.new A).new B).get (nx σ)=some A:=gr
theorem Aio{cs}(h:σ.get a=some (.cells cs)):σ.cells a=some cs:=by unfold Sto.cells;rw[h]
end
def Yv(σ τ:Sto):Prop:=∀a O,σ.get a=some O->τ.get a=some O
theorem Yv.refl{σ}:Yv σ σ:=fun _ _ h=>h
theorem Yv.below{σ τ}(hw:WFS σ)(h:Below (nx σ) σ τ):Yv σ τ:=fun a O ha=>(h.2 a (hw a O ha).1).trans ha
def rdOk:Op->Bool
 |.load .. =>true
 |.lookup .. =>true
 |_=>false
theorem Ao2{σ τ}(h:Yv σ τ){a vs}(hc:σ.cells a=some vs):τ.cells a=some vs:=by
 unfold Sto.cells at hc⊢
 split at hc
 ·rename_i us hg;rw[h _ _ hg];exact hc
 ·cases hc
theorem Ao3{σ τ σ₁ ti x v}(h:Yv σ τ)(hs:Na ti x σ=some (v,σ₁)):Na ti x τ=some (v,τ):=by
 unfold Na at hs⊢
 split at hs
 ·split at hs
  ·rename_i vs hvs
   split at hs
   ·rename_i u hu;cases hs;simp only[Ao2 h hvs,hu]
   ·cases hs
  ·cases hs
 ·split at hs
  ·rename_i u hu;cases hs;simp only[hu]
  ·cases hs
 ·cases hs
theorem Aip{σ τ σ₁ kt key z m v ok}(h:Yv σ τ)(hs:Ky kt key z ok m σ=some (v,σ₁)):Ky kt key z ok m τ=some (v,τ):=by
 unfold Ky at hs⊢
 split at hs
 ·split at hs
  ·split at hs
   ·rename_i kt' es ver hg
    rw[h _ _ hg];simp only
    split at hs
    ·rename_i hb
     try simp only[hb]
     split at hs<;>rename_i hf<;>cases hs<;>simp only[hb,hf]
    ·cases hs
   ·cases hs
  ·cases hs;rfl
  ·cases hs
 ·cases hs
theorem Arc{E σ τ σ₁ op tm v}(hr:rdOk op=true)(h:Yv σ τ)(hs:Aw E op tm σ=some (v,σ₁)):∃τ₁,Aw E op tm τ=some (v,τ₁):=by
 unfold rdOk at hr
 split at hr
 ·simp only[Aw]at hs⊢
  split at hs
  ·rename_i ti hti;exact⟨τ,Ao3 h hs⟩
  ·cases hs
 ·simp only[Aw]at hs⊢
  split at hs
  ·rename_i ti hti
   split at hs
   ·rename_i kt et hd
    try simp only[hd]
    split at hs
    ·rename_i te hte
     try simp only[hd,hte]
     split at hs
     ·rename_i z hz
      try simp only[hd,hte,hz]
      exact⟨τ,Aip h hs⟩
     ·cases hs
    ·cases hs
   ·cases hs
  ·cases hs
 ·cases hr
def Jo(E:Env)(m:Nat):List Ann->List Oper->Bool->Bool
 |a::az,o::os,late=>(match a.cls with
  |.read=> !late&&Nat.ble a.hi m&&rdOk o.op
  |_=>true)&&Jo E m az os (late||B5 (Bc E o.op))
 |_,_,_=>true
theorem Qj{E m}:∀{az:List Ann} {os:List Oper} {late:Bool},Jo E m az os late=true->∀(j:Nat) (a:Ann) (o:Oper),az[j]? =some a->os[j]? =some o->a.cls=.read->late=false/\cnt E os j=0/\a.hi<=m/\rdOk o.op=true
 |a::az,o::os,late,h,0,a',o',ha,ho,hc=>by
  simp at ha ho;subst ha ho
  simp only[Jo,hc,ad_]at h
  exact⟨by simpa using h.1.1.1,rfl,al_ h.1.1.2,h.1.2⟩
 |a::az,o::os,late,h,j+1,a',o',ha,ho,hc=>by
  simp only[Jo,ad_]at h
  obtain⟨h1,h2,h3⟩:=Qj h.2 j a' o' (by simpa using ha) (by simpa using ho) hc
  simp only[bv_]at h1;refine⟨h1.1,?_,h3⟩;simp only[cnt,h1.2,h2]
  simp
 |[],_,_,_,_,_,_,h,_,_=>by simp at h
 |_::_,[],_,_,_,_,_,_,h,_=>by simp at h
section
variable {E:Env}{nt B:Nat}{df:List (Nat×List AV)}{Q:Cc}{Rr:Rec}{ρ:Ad}{σ:Sto}
def KDX(Q:Cc)(m:Nat)(σ:Sto):KD:=fun ρ' σ' eps _=>(∀e∈eps.reverse.take (m+1),Yv σ e)/\Q .normal ρ' σ'
theorem Amt(m){id ops anns}(hm:E.P.follows .mixedOrders=true)(hR:Bk E Rr)(ha:Lo E ops=some anns)(hp:Jo E m anns ops.toList false=true)
  (h:TD E nt Rr ops.toList ops.toList (KDX Q m σ) ρ σ [σ] []):T E nt df B (.region id ops true) Q ρ σ:=by
 intro ro n hn C w tm a ht st hB;obtain⟨c1,c2,c3,c4⟩:=Jm ha;obtain⟨d,k1,k2,k3,ρ',log',k4,k5,k6,k7⟩:=h tm df [] ht trivial;refine wpIn_mono (Aic hm hR st c1 c2 c3 k1 fun j o t v ho hl hcl hg σk hσ=>?_) fun e a' w' he=>?_
 ·have cv:=Ix (E:=E) (b:=(Region.before ops).toList) (effs:=A8 E ops.toList 0) ops.toList 0 j o (by simpa using ho)
  rw[←c4]at cv;simp only[bn_]at cv
  obtain⟨_,q1,q2,q3⟩:=Qj hp j _ o cv (by simpa using ho) hcl
  simp only[Gc]at q2
  have cu:Yv σ σk:=by
   refine k6 σk ?_;obtain⟨i,hi⟩:=au_.1 hσ;rw[ea_]at hi
   split at hi
   ·rename_i hlt
    rw[g_]at hi;exact au_.2 ⟨_,(List.getElem?_take_of_lt Om).trans hi⟩
   ·cases hi
  obtain⟨log,eps,lex,g2,g3,g4,g5⟩:=Lz k1;simp only[dy_,bd_,d_]at g2 g3;obtain⟨x1,x2,x3,x4,x5⟩:=Wq lex
  obtain⟨t',v',t₁,σ₀,σ₁,y1,y2,y3,y4,y5,y6⟩:=x5 j o (by simpa using ho)
  rw[g2]at hl;rw[hl]at y1;cases y1
  have h0:σ₀=σ:=by
   rw[q1]at y3
   simpa using y3.symm
  subst h0
  have hne:B5 (Bc E o.op)=false:=by rw[hcl];rfl
  rcases y5 with⟨z1,z2⟩|⟨z1,z2⟩
  ·rw[Iy hcl]at z2;exact Arc q3 cu z2
  ·rw[z1]at hg;cases hg
 ·obtain⟨y,hy,C',h1,h2,h3⟩:=he;rw[ao_]at hy;subst hy;obtain⟨⟨tm',nt',df',σ'⟩,eps',dl'⟩:=d;simp only at k2 k3;subst k2 k3;exact⟨.normal,tm',ρ',σ',C',h1,k4,k7,h2,ai_ hB h3.next,h3.base hB⟩
theorem K4{o}(hw:WFS σ):Yv σ (σ.new o):=Yv.below hw (Below.rfl'.new nl o)
def newQ(d:Nat)(z cs:List AV)(L ρ:Ad)(τ:Sto):Cc
 |.normal=>fun ρ' σ'=>Km L ρ'/\Hy ρ ρ'/\Ad.at ρ' d=some (.pr (nx τ) 0)/\σ'=(τ.new (.cells z)).set (nx τ) (.cells cs)
 |_=>fun _ _=>False
theorem Gz[Se E]{x y}(d z cs L)(hu:AV.unds (nx σ) cs=true)(hL:AV.unds (nx σ) (L.map (·.2))=true)(h:WFS σ->T E nt [] B x (newQ d z cs L ρ σ) ρ σ)(k:T E nt [] B y Q ((d,.pv cs)::L++ρ) σ):T E nt [] B (.seq x y) Q ρ σ:=by
 intro ro n hn C w tm a ht st hB;have hwf:=st.sim.wfs;have em:∀i u,Ad.at ρ i=some u->AV.und (nx σ) u=true:=fun i u hu=>R.und _ _ (st.tmps i u (ht i u hu))
 have hLu:∀(L:Ad),AV.unds (nx σ) (L.map (·.2))=true->∀i u,Ad.at L i=some u->AV.und (nx σ) u=true:=by
  intro L
  induction L with
  |nil=>intro _ i u hh;cases hh
  |cons p r ih=>
   obtain⟨j,v⟩:=p;intro hL i u hh;simp only[cn_,AV.unds,ad_]at hL;simp only[Ad.at]at hh;cases hb:Nat.beq j i with
   |true=>rw[hb]at hh;cases hh;exact hL.1
   |false=>rw[hb]at hh;exact ih hL.2 i u hh
 refine Aew ((h hwf).mono fun e ρ' σ' hq=>?_) ro n hn C w tm a ht st hB
 cases e with
 |exit _=>exact hq.elim
 |ret=>exact hq.elim
 |normal=>
  obtain⟨h1,h2,h3,rfl⟩:=hq
  have hf:Ds ((σ.new (.cells z)).set (nx σ) (.cells cs)) σ:=a_ hwf (by rw[Aq,Ao];exact dm_ _) fun b hb=>by rw[aa_,if_neg Om,ag_,if_neg Om]
  intro ro n hn C₁ w₁ tm₁ a₁ ht₁ st₁ hB₁;refine wpIn_mono (k ro n hn (C₁.keep σ) w₁ _ a₁ (Kf _) (st₁.frz ht₁ hf fun i u hi=>?_) hB) fun e a' w' he=>he.from (en_ C₁ σ B w₁)
  simp only[ay_,Ad.at]at hi;cases hb:Nat.beq d i with
  |true=>
   rw[hb]at hi;cases hi;have:=ac_ hb;subst this
   exact⟨_,h3,.pr (vs:=cs) (by rw[aa_,if_pos rfl]) (hwf.none nl) (dj_ hu)⟩
  |false=>
   rw[hb]at hi;simp only[cond_false]at hi;rw[ga_]at hi;cases hc:Ad.at L i with
   |some u'=>rw[hc]at hi;cases hi;exact⟨_,h1.at i _ hc,.same (hLu L hL i _ hc)⟩
   |none=>rw[hc]at hi;exact⟨_,h2 i u hi,.same (em i u hi)⟩
end
section
variable {E:Env}{nt B:Nat}{df:List (Nat×List AV)}{Q:Cc}{Rr:Rec}{ops r:List Oper}{K:KD}{ρ:Ad}{σ τ:Sto}{eps:List Sto}{log:List (Ad×AV)}
theorem TD_opF{op dst}{ty:Nat}{pos after v σ₁}(he:B5 (Bc E op)=false)(hd:B0 nt dst=true)(h:As E Rr op ρ σ v σ₁)
  (k:TD E nt Rr ops r K (Dt dst v ρ) σ eps ((ρ,v)::log)):TD E nt Rr ops ({ dst:=dst,op:=op,type:=ty,pos:=pos,after:=after,guard:=none }::r) K ρ σ eps log:=Amn (b:=false) he hd h k
theorem TD_opT{op dst}{ty:Nat}{pos after v σ₁}(he:B5 (Bc E op)=true)(hd:B0 nt dst=true)(h:As E Rr op ρ σ v σ₁)
  (k:TD E nt Rr ops r K (Dt dst v ρ) σ₁ (σ₁::eps) ((ρ,v)::log)):TD E nt Rr ops ({ dst:=dst,op:=op,type:=ty,pos:=pos,after:=after,guard:=none }::r) K ρ σ eps log:=Amn (b:=true) he hd h k
theorem Bg{o oj v σ₁}{j d:Nat}{b want}(hg:o.guard=some (j,want))(hj:ops[j]? =some oj)(hdj:oj.dst=some d)(hb:Ad.at ρ d=some (.bool b))(hw:cond b want (!want)=true)
  (he:B5 (Bc E o.op)=false)(hd:B0 nt o.dst=true)(h:As E Rr o.op ρ σ v σ₁)
  (k:TD E nt Rr ops r K (Dt o.dst v ρ) σ eps ((ρ,v)::log)):TD E nt Rr ops (o::r) K ρ σ eps log:=Qi (e:=false) hg hj hdj hb hw he hd h k
theorem Ol{o oj v σ₁}{j d:Nat}{b want}(hg:o.guard=some (j,want))(hj:ops[j]? =some oj)(hdj:oj.dst=some d)(hb:Ad.at ρ d=some (.bool b))(hw:cond b want (!want)=true)
  (he:B5 (Bc E o.op)=true)(hd:B0 nt o.dst=true)(h:As E Rr o.op ρ σ v σ₁)
  (k:TD E nt Rr ops r K (Dt o.dst v ρ) σ₁ (σ₁::eps) ((ρ,v)::log)):TD E nt Rr ops (o::r) K ρ σ eps log:=Qi (e:=true) hg hj hdj hb hw he hd h k
theorem Bx{o oj}{j d:Nat}{b want}(hg:o.guard=some (j,want))(hj:ops[j]? =some oj)(hdj:oj.dst=some d)(hb:Ad.at ρ d=some (.bool b))(hw:cond b want (!want)=false)
  (he:B5 (Bc E o.op)=false)(hd:B0 nt o.dst=true)
  (k:TD E nt Rr ops r K (Dt o.dst An ρ) σ eps ((ρ,An)::log)):TD E nt Rr ops (o::r) K ρ σ eps log:=Ta (e:=false) hg hj hdj hb hw he hd k
theorem K5{o oj}{j d:Nat}{b want}(hg:o.guard=some (j,want))(hj:ops[j]? =some oj)(hdj:oj.dst=some d)(hb:Ad.at ρ d=some (.bool b))(hw:cond b want (!want)=false)
  (he:B5 (Bc E o.op)=true)(hd:B0 nt o.dst=true)
  (k:TD E nt Rr ops r K (Dt o.dst An ρ) σ (σ::eps) ((ρ,An)::log)):TD E nt Rr ops (o::r) K ρ σ eps log:=Ta (e:=true) hg hj hdj hb hw he hd k
end
theorem Abp{N M}(h:N<=M){es}(k:Jc N es=true):Jc M es=true:=by
 unfold Jc at k⊢;rw[b_]at k⊢;exact fun x hx=>AV.und_mono h x.2 (k x hx)
theorem Aiq{N M}(h:N<=M):∀{c:Option (Key×AV)},Ak3 N c=true->Ak3 M c=true
 |none,_=>rfl
 |some x,k=>AV.und_mono h x.2 k
theorem AO.und_mono{N M}(h:N<=M):∀{O:AO},AO.und N O=true->AO.und M O=true
 |.cells vs,k=>AV.unds_mono h vs k
 |.map _ es _,k=>Abp h k
 |.iter none _ _ _,_=>rfl
 |.iter (some r) _ _ _,k=>Ce (ak_ (Gy k) h)
 |.stamp _ _ _,k=>Ce (ak_ (Gy k) h)
 |.loop _,_=>rfl
theorem WFS.new{σ}(hw:WFS σ){X}(hX:AO.und (nx σ+1) X=true)(hI:Agt (σ.new X) X):WFS (σ.new X):=by
 intro a O hg;rw[ag_]at hg;rw[Ao]
 split at hg
 ·grind
 ·obtain⟨h1,h2,h3⟩:=hw a O hg;refine⟨Nat.lt_succ_of_lt h1,AO.und_mono (dm_ _) h2,?_⟩;cases O with
  |iter m ver left cur=>
   cases m with
   |none=>trivial
   |some r=>
    intro kt es hr;have hlt:r<nx σ:=Gy h2;rw[ag_,if_neg Om]at hr;obtain⟨k1,k2⟩:=h3 kt es hr;rw[Ao];exact⟨Abp (dm_ _) k1,Aiq (dm_ _) k2⟩
  |cells _=>trivial
  |map _ _ _=>trivial
  |stamp _ _ _=>trivial
  |loop _=>trivial
theorem Ds.newMap{σ τ kt ver es}(hw:WFS σ)(hb:Below (nx σ) σ τ)(hg:τ.get (nx σ)=some (.map kt es ver))(hn:nx σ<nx τ)(hu:Jc (nx σ+1) es=true):Ds τ (σ.new (.map kt es ver)):=by
 refine a_ (hw.new hu trivial) gr fun a ha=>?_
 rw[Ao]at ha;rw[ag_]
 split
 ·grind
 ·exact hb.2 a Om
def aP(i j:Nat):Ann:=⟨.pure,i,j⟩
def aR(i j:Nat):Ann:=⟨.read,i,j⟩
def aE(i j:Nat):Ann:=⟨.eff,i,j⟩
theorem sb{ρ ρ'}(h:Hy ρ' ρ:=by repeat (first|exact .refl|refine .cons rfl ?_)):Hy ρ' ρ:=h
section
variable {E:Env}{nt B:Nat}{df:List (Nat×List AV)}{Q:Cc}{ρ:Ad}{σ:Sto}{K:Ad->Sto->Prop}
theorem O1{ops r op dst}{ty:Nat}{pos after v σ₁}(h:As E (fun _ _ _=>none) op ρ σ v σ₁)
  (k:TO E nt df B ops r K (Dt dst v ρ) σ₁)(hn:Ga op=true:=by exact rfl)(hd:B0 nt dst=true:=by exact rfl):TO E nt df B ops ({ dst:=dst,op:=op,type:=ty,pos:=pos,after:=after,guard:=none }::r) K ρ σ:=X4 noR hn hd h k
theorem OM{ops r x dst}{ty:Nat}{pos after v}(h:Ah E ρ x=some v)
  (k:TO E nt df B ops r K (Dt dst v ρ) σ)(hd:B0 nt dst=true:=by exact rfl):TO E nt df B ops ({ dst:=dst,op:=.move x,type:=ty,pos:=pos,after:=after,guard:=none }::r) K ρ σ:=X4 noR rfl hd (Ag h) k
theorem OA{ops r x dst}{ty:Nat}{pos after v}(h:Ah E ρ x=some v)
  (k:TO E nt df B ops r K (Dt dst v ρ) σ)(hd:B0 nt dst=true:=by exact rfl):TO E nt df B ops ({ dst:=dst,op:=.assign x,type:=ty,pos:=pos,after:=after,guard:=none }::r) K ρ σ:=X4 noR rfl hd (Gd h) k
theorem Of{ops r o oj}{j d:Nat}{b b' want}(hgb:b=b')(k:TO E nt df B ops r K (Dt o.dst An ρ) σ)(hg:o.guard=some (j,want):=by exact rfl)(hj:ops[j]? =some oj:=by exact rfl)(hdj:oj.dst=some d:=by exact rfl)(hb:Ad.at ρ d=some (.bool b):=by exact rfl)(hw:cond b' want (!want)=false:=by exact rfl)
  (hd:B0 nt o.dst=true:=by exact rfl):TO E nt df B ops (o::r) K ρ σ:=Co hg hj hdj hb (by rw[hgb];exact hw) hd k
theorem On{ops r o oj v σ₁}{j d:Nat}{b b' want}(hgb:b=b')(h:As E (fun _ _ _=>none) o.op ρ σ v σ₁)(k:TO E nt df B ops r K (Dt o.dst v ρ) σ₁)(hg:o.guard=some (j,want):=by exact rfl)(hj:ops[j]? =some oj:=by exact rfl)(hdj:oj.dst=some d:=by exact rfl)(hb:Ad.at ρ d=some (.bool b):=by exact rfl)(hw:cond b' want (!want)=true:=by exact rfl)
  (hn:Ga o.op=true:=by exact rfl)(hd:B0 nt o.dst=true:=by exact rfl):TO E nt df B ops (o::r) K ρ σ:=Bi hg hj hdj hb (by rw[hgb];exact hw) noR hn hd h k
theorem Ou{ops r o oj}{j d:Nat}{want}(k:TO E nt df B ops r K (Dt o.dst An ρ) σ)(hg:o.guard=some (j,want):=by exact rfl)(hj:ops[j]? =some oj:=by exact rfl)(hdj:oj.dst=some d:=by exact rfl)(hb:Ad.at ρ d=some An:=by exact rfl)(hd:B0 nt o.dst=true:=by exact rfl):TO E nt df B ops (o::r) K ρ σ:=Auf hg hj hdj hb hd k
theorem DF{Rr ops r Kd eps log op dst}{ty:Nat}{pos after v σ₁}(h:As E Rr op ρ σ v σ₁)
  (k:TD E nt Rr ops r Kd (Dt dst v ρ) σ eps ((ρ,v)::log))(he:B5 (Bc E op)=false:=by exact rfl)(hd:B0 nt dst=true:=by exact rfl):TD E nt Rr ops ({ dst:=dst,op:=op,type:=ty,pos:=pos,after:=after,guard:=none }::r) Kd ρ σ eps log:=Amn (b:=false) he hd h k
theorem DT{Rr ops r Kd eps log op dst}{ty:Nat}{pos after v σ₁}(h:As E Rr op ρ σ v σ₁)
  (k:TD E nt Rr ops r Kd (Dt dst v ρ) σ₁ (σ₁::eps) ((ρ,v)::log))(he:B5 (Bc E op)=true:=by exact rfl)(hd:B0 nt dst=true:=by exact rfl):TD E nt Rr ops ({ dst:=dst,op:=op,type:=ty,pos:=pos,after:=after,guard:=none }::r) Kd ρ σ eps log:=Amn (b:=true) he hd h k
theorem B4{fn ρ' vs}{P:AV->Prop}(hw:WFS σ)(hr:Us E ρ' σ fn.results.toList=some vs)(h:P (Akq vs))(hu:AV.und (nx σ) (Akq vs)=true:=by exact rfl):Agw E fn (nx σ) (fun v τ=>P v/\τ=σ) ρ' σ:=
 ⟨vs,hr,Akq vs,σ,a_ hw nl (fun _ _=>rfl),nl,.same hu,h,rfl⟩
theorem Dx{Rr ops r Kd eps log}{o oj:Oper}{j d:Nat}{b want}(hg:o.guard=some (j,want))(hj:ops[j]? =some oj)(hdj:oj.dst=some d)(hb:Ad.at ρ d=some (.bool b))(hw:cond b want (!want)=false)
  (k:TD E nt Rr ops r Kd (Dt o.dst An ρ) σ eps ((ρ,An)::log))(he:B5 (Bc E o.op)=false:=by exact rfl)(hd:B0 nt o.dst=true:=by exact rfl):TD E nt Rr ops (o::r) Kd ρ σ eps log:=Ta (e:=false) hg hj hdj hb hw he hd k
theorem Dn{Rr ops r Kd eps log}{o oj:Oper}{v σ₁}{j d:Nat}{b want}(hg:o.guard=some (j,want))(hj:ops[j]? =some oj)(hdj:oj.dst=some d)(hb:Ad.at ρ d=some (.bool b))(hw:cond b want (!want)=true)
  (h:As E Rr o.op ρ σ v σ₁)(k:TD E nt Rr ops r Kd (Dt o.dst v ρ) σ eps ((ρ,v)::log))(he:B5 (Bc E o.op)=false:=by exact rfl)(hd:B0 nt o.dst=true:=by exact rfl):TD E nt Rr ops (o::r) Kd ρ σ eps log:=Qi (e:=false) hg hj hdj hb hw he hd h k
theorem Du{Rr ops r Kd eps log o oj}{j d:Nat}{want}(k:TD E nt Rr ops r Kd (Dt o.dst An ρ) σ eps ((ρ,An)::log))(hg:o.guard=some (j,want):=by exact rfl)(hj:ops[j]? =some oj:=by exact rfl)(hdj:oj.dst=some d:=by exact rfl)(hb:Ad.at ρ d=some An:=by exact rfl)
  (he:B5 (Bc E o.op)=false:=by exact rfl)(hd:B0 nt o.dst=true:=by exact rfl):TD E nt Rr ops (o::r) Kd ρ σ eps log:=Zy (e:=false) hg hj hdj hb he hd k
end
section
open Go Go.Proofs
instance:Se Ew:=⟨fun g cs h=>(by
 have h:glW g=some cs:=h;unfold glW at h
 split at h
 ·cases h;rfl
 ·cases h),rfl⟩
theorem Aj{f fn c args σ Post}(hfn:Tryz.prog.funcs[f]? =some fn)(hc:fn.body=some c)(hle:Nat.ble args.length fn.ntmps=true)
  (h:WFS σ->AV.unds (nx σ) args=true->T Ew fn.ntmps [] (nx σ) c (Aox (Agw Ew fn (nx σ) Post)) (Hg args 0) σ):Al Ew f args σ Post:=
 Aw1 hfn (Ke f fn hfn) hc hle h
end
section
variable {E:Env}{nt B:Nat}{df:List (Nat×List AV)}{Q:Cc}{ρ:Ad}{σ:Sto}
theorem Ard{id ops r x}{d ty:Nat}{pos after a ver m left cur}
  (ew:ops.toList={ dst:=some d,op:=.next x false,type:=ty,pos:=pos,after:=after,guard:=none }::r)(hd:Nat.blt d nt=true)
  (hx:Ah E ρ x=some (.it a))(hg:σ.get a=some (.iter m ver left cur))(hv:Aga σ m ver=true)
  (h0:left=[]->TO E nt df B ops.toList r (fun ρ σ=>Q .normal ρ σ) ((d,.tup [.bool false])::ρ) (σ.set a (.iter m ver [] none)))
  (h1:∀p,p∈Ht left->TO E nt df B ops.toList r (fun ρ σ=>Q .normal ρ σ) ((d,.tup [.bool true,T2 p.1.1,p.1.2])::ρ) (σ.set a (.iter m ver p.2 (some p.1)))):T E nt df B (.region id ops false) Q ρ σ:=by
 intro ro n hn C w tm act ht st hB
 obtain⟨hn1,hn2⟩:=L1 (by rw[←ew];exact hn)
 have hX:=Be st.glob st.tmps x;rw[ht.opd hx]at hX
 have ho:ops[0]? =some { dst:=some d,op:=.next x false,type:=ty,pos:=pos,after:=after,guard:=none }:=by rw[←bw_,ew];rfl
 have hsz:ops.size=r.length+1:=by rw[←cd_,ew];rfl
 obtain⟨y,w₁,bq,cu,fh⟩:=Akx (P:=E.P) (ty:=ty) st.sim hX hg hv
 have my:(execOp act.eval { dst:=some d,op:=.next x false,type:=ty,pos:=pos,after:=after,guard:=none }).run E.P w=.ok (.value y) w₁:=by
  simp[execOp,bq]
 refine wpIn_region ?_;rw[hsz,dr_,cj_];simp only[wpOpsIn,ho]
 rw[if_pos (by unfold Region.wanted;rfl)]
 refine Ev hn1 ?_;unfold Oper.wp;rw[my,Oper.upon_value]
 have hr:∀j,j<r.length->r[j]? =ops[0+1+j]? :=fun j _=>by
  rw[←bw_,ew,show 0+1+j=j+1 by omega];rfl
 have fin:∀(v:AV) (left':List (Key×AV)) (cur':Option (Key×AV)),TO E nt df B ops.toList r (fun ρ σ=>Q .normal ρ σ) ((d,v)::ρ) (σ.set a (.iter m ver left' cur'))->Sim E.P C w₁ (σ.set a (.iter m ver left' cur'))->R C (nx σ) w₁ v y->
   wpOpsIn (Cy ro) n E.P ops (Sd E nt df B Q C w) (List.range' (0+1) r.length) (act.put (some d) y) w₁:=by
  intro v left' cur' hto hs' hv'
  obtain⟨tm',htm,ck⟩:=C6 (nt:=nt) (dst:=some d) (by exact hd) ht v
  have i7:Ext C (nx σ) w C (nx (σ.set a (.iter m ver left' cur'))) w₁:=by rw[Aq];exact cu
  have st':=st.put (x:=y) hs' i7 (by rw[Aq];exact hv') htm
  have:=hto ro n hn2 C w₁ tm' _ ck st' (by rw[Aq];exact hB) ops (0+1) (Sd E nt df B Q C w) [] rfl hr fun C' w' a' tm'' ρ' σ' q1 q2 q3 q4 q5=>
   ⟨.normal,tm'',ρ',σ',C',rfl,q1,q2,q3,q4,(i7.base hB).trans q5⟩
  rwa[bh_]at this
 rcases fh with⟨h,hs',hv'⟩|⟨p,hp,hs',hv'⟩
 ·exact fin _ _ _ (h0 h) hs' hv'
 ·exact fin _ _ _ (h1 p hp) hs' hv'
variable {Rr:Rec}
theorem Air{t r kt kt' sz ver agg z x es}(hi:mpI E.P t=some (kt',z,sz,agg))(hx:Ah E ρ x=some (.mp r))(hm:σ.get r=some (.map kt es ver)):
  As E Rr (.range t x) ρ σ (.it (nx σ)) (σ.new (.iter (some r) ver es none)):=fun tm h=>by
 obtain⟨ti,et,h1,h2⟩:=Aq8 hi;simp only[opA,Aw,h1,h2,h.opd hx,Af5,hm]
theorem Ais{x a r ver kt left es k v}(hx:Ah E ρ x=some (.it a))(hg:σ.get a=some (.iter (some r) ver left (some (k,v))))(hm:σ.get r=some (.map kt es ver)):
  As E Rr (.entry x) ρ σ (.tup [T2 k,v]) σ:=fun tm h=>by
 simp only[opA,Aw,h.opd hx,Aaf,hg,hm,aw_,cond_true]
end
theorem Tc{α enc}:∀{m:SM α} {p:(Key×AV)×List (Key×AV)},p∈Ht (Cn enc m)->∃q,q∈Ht m/\p=((kS q.1.1,enc q.1.2),Cn enc q.2)
 |[],p,h=>by simp[Cn,Ht]at h
 |x::m,p,h=>by
  simp only[Cn,cn_,Ht,an_,bt_]at h
  rcases h with rfl|⟨y,hy,rfl⟩
  ·exact⟨(x,m),by simp[Ht],rfl⟩
  ·obtain⟨q,h1,rfl⟩:=Tc (m:=m) hy
   exact⟨(q.1,x::q.2),by simp only[Ht,an_,bt_];exact .inr ⟨q,h1,rfl⟩,rfl⟩
theorem Rp{α}:∀{l:List α} {p:α×List α},p∈Ht l->p.1∈l/\(∀x,x∈l↔x=p.1∨x∈p.2)/\p.2.length+1=l.length
 |[],p,h=>by simp[Ht]at h
 |x::m,p,h=>by
  simp only[Ht,an_,bt_]at h
  rcases h with rfl|⟨q,hq,rfl⟩
  ·exact⟨ap_ ..,fun y=>an_,rfl⟩
  ·obtain⟨h1,h2,h3⟩:=Rp hq
   refine⟨aj_ _ h1,fun y=>?_,by simp only[as_];omega⟩
   simp only[an_,h2]
   constructor
   ·rintro(h|h|h)
    ·exact .inr (.inl h)
    ·exact .inl h
    ·exact .inr (.inr h)
   ·rintro(h|h|h)
    ·exact .inr (.inl h)
    ·exact .inl h
    ·exact .inr (.inr h)
end Go.AM
