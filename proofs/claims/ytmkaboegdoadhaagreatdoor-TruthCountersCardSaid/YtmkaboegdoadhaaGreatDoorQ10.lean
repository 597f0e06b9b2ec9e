/- A part of the proof; shortened by program. -/
import Derived.Test.YtmkaboegdoadhaaGreatDoorQ07
set_option maxRecDepth 100000
set_option maxHeartbeats 4000000
set_option linter.unusedSimpArgs false
set_option linter.unusedVariables false
namespace Go.AM
open Go
abbrev SM(α:Type):=List (Str×α)
def kS(s:Str):Key:=.str (s.map UInt8.toNat)
def Cn{α:Type}(enc:α->AV)(m:SM α):List (Key×AV):=m.map fun p=>(kS p.1,enc p.2)
def SM.get{α:Type}:SM α->Str->Option α
 |[],_=>none
 |(k,v)::r,s=>if s=k then some v else SM.get r s
def SM.set{α:Type}:SM α->Str->α->SM α
 |[],_,_=>[]
 |(k,v)::r,s,x=>if s=k then(k,x)::r else(k,v)::SM.set r s x
def SM.ins{α:Type}:SM α->Str->α->SM α
 |[],s,x=>[(s,x)]
 |(k,v)::r,s,x=>if Key.lt (kS s) (kS k)then(s,x)::(k,v)::r else(k,v)::SM.ins r s x
def SM.put{α:Type}(m:SM α)(s:Str)(x:α):SM α:=match m.get s with|some _=>m.set s x|none=>m.ins s x
def SM.has(m:SM Bool)(s:Str):Bool:=(m.get s).getD false
theorem Abl(a b):Key.eq (kS a) (kS b)=decide (a=b):=by
 show Fm _ _=_
 by_cases h:a=b
 ·rw[decide_eq_true h];subst h;exact(Gu _ _).2 rfl
 ·rw[decide_eq_false h];cases hb:Fm (a.map UInt8.toNat) (b.map UInt8.toNat)with
  |true=>exact absurd (Fu.1 ((Gu _ _).1 hb)) h
  |false=>rfl
section
variable {α:Type}{enc:α->AV}{m:SM α}{s t:Str}{x:α}
theorem Ih:∀{m:SM α},D5 (kS s) (Cn enc m)=(m.get s).map enc
 |[]=>rfl
 |(k,v)::r=>by
  show cond (Key.eq (kS s) (kS k)) (some (enc v)) (D5 (kS s) (Cn enc r))=_
  rw[Abl,SM.get]
  by_cases h:s=k
  ·rw[decide_eq_true h,cond_true,if_pos h];rfl
  ·rw[decide_eq_false h,cond_false,if_neg h];exact Ih
theorem Abm:∀{m:SM α},Ph (kS s) (enc x) (Cn enc m)=Cn enc (m.set s x)
 |[]=>rfl
 |(k,v)::r=>by
  show cond (Key.eq (kS s) (kS k)) ((kS k,enc x)::Cn enc r) ((kS k,enc v)::Ph (kS s) (enc x) (Cn enc r))=_
  rw[Abl,SM.set]
  by_cases h:s=k
  ·rw[decide_eq_true h,cond_true,if_pos h];rfl
  ·rw[decide_eq_false h,cond_false,if_neg h,Abm];rfl
theorem Abn:∀{m:SM α},Nx (kS s) (enc x) (Cn enc m)=Cn enc (m.ins s x)
 |[]=>rfl
 |(k,v)::r=>by
  show cond (Key.lt (kS s) (kS k)) ((kS s,enc x)::(kS k,enc v)::Cn enc r) ((kS k,enc v)::Nx (kS s) (enc x) (Cn enc r))=_
  rw[SM.ins];cases h:Key.lt (kS s) (kS k)
  ·rw[cond_false,if_neg (by simp),Abn];rfl
  ·rw[cond_true,if_pos rfl];rfl
theorem Aq7:Aot (kS s) (enc x) (Cn enc m)=Cn enc (m.put s x):=by
 unfold Aot SM.put;rw[Ih];cases m.get s with
 |none=>exact Abn
 |some y=>exact Abm
theorem SM.get_set:∀{m:SM α},(m.set s x).get t=if t=s/\(m.get s).isSome then some x else m.get t
 |[]=>by simp[SM.set,SM.get]
 |(k,v)::r=>by
  unfold SM.set
  by_cases h:s=k
  ·subst h;rw[if_pos rfl];simp only[SM.get,if_true,ew_,and_true]
   by_cases ht:t=s
   ·simp[ht]
   ·simp[ht]
  ·rw[if_neg h];simp only[SM.get,if_neg h]
   by_cases ht:t=k
   ·subst ht;rw[if_pos rfl,if_pos rfl,if_neg (fun hh=>h hh.1.symm)]
   ·rw[if_neg ht,if_neg ht];exact SM.get_set
theorem SM.get_ins:∀{m:SM α},m.get s=none->(m.ins s x).get t=if t=s then some x else m.get t
 |[],_=>by simp[SM.ins,SM.get]
 |(k,v)::r,hn=>by
  have hk:s≠k:=fun h=>by simp[SM.get,h]at hn
  have hr:SM.get r s=none:=by simpa[SM.get,hk]using hn
  unfold SM.ins
  split
  ·simp only[SM.get]
  ·simp only[SM.get]
   by_cases ht:t=k
   ·subst ht;rw[if_pos rfl,if_neg (fun h=>hk h.symm),if_pos rfl]
   ·rw[if_neg ht,if_neg ht];exact SM.get_ins hr
theorem SM.get_put:(m.put s x).get t=if t=s then some x else m.get t:=by
 unfold SM.put;cases h:m.get s with
 |none=>exact SM.get_ins h
 |some y=>simp only[SM.get_set,h,ew_,and_true]
abbrev ch_:=@SM.get_put
theorem SM.has_put{m:SM Bool}:(m.put s true).has t=(decide (t=s)||m.has t):=by
 unfold SM.has;rw[ch_]
 by_cases h:t=s
 ·rw[if_pos h,decide_eq_true h];rfl
 ·rw[if_neg h,decide_eq_false h];rfl
abbrev fo_:=@SM.has_put
theorem Aey{N}(h:∀a,AV.und N (enc a)=true)(m):Jc N (Cn enc m)=true:=by
 unfold Jc Cn;rw[List.all_map,b_];intro p _;exact h p.2
end
def B8{α:Type}(enc:α->AV)(J:Sto)(r:Nat)(m:SM α):Prop:=∃ver,J.get r=some (.map 9 (Cn enc m) ver)
abbrev Fi(J:Sto)(r:Nat)(m:SM Bool):Prop:=B8 bV J r m
section
variable {E:Env}{ρ:Ad}{J J':Sto}{Rr:Rec}{t:Nat}{x y w:Operand}{α:Type}{enc:α->AV}{m:SM α}{s:Str}{r:Nat}
theorem keyS(h:Fs E.P 9=true):D4 E.P 9 (sV s)=some (kS s):=by
 unfold Fs at h
 split at h
 ·rename_i ti hti
  split at h
  ·rename_i hd
   unfold D4;simp only[hti,hd]
   rfl
  ·cases h
 ·cases h
theorem W4{z sz agg}(h9:Fs E.P 9=true)(hi:mpI E.P t=some (9,z,sz,agg))(hx:Ah E ρ x=some (.mp r))(hm:B8 enc J r m)(hy:Ah E ρ y=some (sV s)):
  As E Rr (.lookup t x y false) ρ J (((m.get s).map enc).getD z) J:=by
 have:=Aet (Rr:=Rr) hi hx (show Xz J 9 (Cn enc m) (.mp r)from hm) hy (keyS h9)
 rwa[Ih]at this
theorem Ag1{z sz agg}(h9:Fs E.P 9=true)(hi:mpI E.P t=some (9,z,sz,agg))(hx:Ah E ρ x=some (.mp r))(hm:B8 enc J r m)(hy:Ah E ρ y=some (sV s)):
  As E Rr (.lookup t x y true) ρ J (.tup [((m.get s).map enc).getD z,.bool (m.get s).isSome]) J:=by
 have:=Abf (Rr:=Rr) hi hx (show Xz J 9 (Cn enc m) (.mp r)from hm) hy (keyS h9)
 rwa[Ih,Option.isSome_map]at this
theorem De{sz agg m}(h9:Fs E.P 9=true)(hi:mpI E.P t=some (9,.bool false,sz,agg))(hx:Ah E ρ x=some (.mp r))(hm:Fi J r m)(hy:Ah E ρ y=some (sV s)):
  As E Rr (.lookup t x y false) ρ J (.bool (m.has s)) J:=by
 have:=W4 (Rr:=Rr) h9 hi hx hm hy
 have e:((m.get s).map bV).getD (.bool false)=.bool (m.has s):=by unfold SM.has;cases m.get s<;>rfl
 rwa[e]at this
theorem Gh{z sz ver agg v}(h9:Fs E.P 9=true)(hi:mpI E.P t=some (9,z,sz,agg))(hx:Ah E ρ x=some (.mp r))(hm:J.get r=some (.map 9 (Cn enc m) ver))
  (hy:Ah E ρ y=some (sV s))(hw:Ah E ρ w=some (enc v))(hf:∀te:TI,te.size=sz->te.isAgg=agg->Je te (enc v)=true):
  As E Rr (.mapUpdate t x y w) ρ J An (J.set r (.map 9 (Cn enc (m.put s v)) (ver+1))):=by
 have:=Aeu (Rr:=Rr) hi hx hm hy (keyS h9) hw hf
 rwa[Aq7]at this
end
theorem I0{te n b}(_:te.size=n)(h:te.isAgg=false):Je te (bV b)=true:=by unfold bV Je;rw[h];rfl
theorem I1{te n s}(_:te.size=n)(h:te.isAgg=false):Je te (sV s)=true:=by unfold sV Je;rw[h];rfl
theorem I2{te n k i}(_:te.size=n)(h:te.isAgg=false):Je te (.int k i)=true:=by unfold Je;rw[h];rfl
theorem Jn{te n r}(_:te.size=n)(h:te.isAgg=false):Je te (.mp r)=true:=by unfold Je;rw[h];rfl
theorem H6{te n cs}(hn:te.size=n)(h:te.isAgg=true)(hc:cs.length=n):Je te (.agg cs)=true:=by
 show(te.isAgg&&Nat.beq cs.length te.size)=true
 rw[h,hn,hc,aw_];rfl
section
variable {J J':Sto}{α:Type}{enc:α->AV}{m:SM α}{r a:Nat}
theorem B8.lt(hw:WFS J)(h:B8 enc J r m):r<nx J:=by obtain⟨v,h⟩:=h;exact(hw _ _ h).1
theorem B8.of_get(h:B8 enc J r m)(hg:J'.get r=J.get r):B8 enc J' r m:=by obtain⟨v,h⟩:=h;exact⟨v,hg.trans h⟩
theorem B8.new(h:B8 enc J r m)(hw:r<nx J){o}:B8 enc (J.new o) r m:=h.of_get (by rw[ag_,if_neg Om])
theorem B8.set(h:B8 enc J r m){o}(hne:r≠a):B8 enc (J.set a o) r m:=h.of_get (by rw[aa_,if_neg Om])
theorem B8.put{ver}:B8 enc (J.set r (.map 9 (Cn enc m) ver)) r m:=⟨ver,by rw[aa_,if_pos rfl]⟩
abbrev dz_:=@B8.put
theorem B8.fresh{ver}:B8 enc (J.new (.map 9 (Cn enc m) ver)) (nx J) m:=⟨ver,by rw[ag_,if_pos rfl]⟩
end
section
variable {E:Env}{nt B:Nat}{df:List (Nat×List AV)}{Q:Cc}{Rr:Rec}{ops r:List Oper}{K:KD}{ρ:Ad}{J U:Sto}{eps:List Sto}{log:List (Ad×AV)}
theorem Amp{o b}(hg:∀tm,Has tm ρ->Bn ops o tm=some false)(he:B5 (Bc E o.op)=b)(hd:B0 nt o.dst=true)
  (k:TD E nt Rr ops r K (Dt o.dst An ρ) J (cond b (J::eps) eps) ((ρ,An)::log)):TD E nt Rr ops (o::r) K ρ J eps log:=by
 intro tm df dl ht hl;obtain⟨tm',h1,h2⟩:=C6 (dst:=o.dst) hd ht An
 have:Rc E ops o Rr ⟨⟨tm,nt,df,J⟩,eps,dl⟩=some ⟨⟨tm',nt,df,J⟩,cond b (J::eps) eps,(tm,An)::dl⟩:=by
  unfold Rc;simp only[hg tm ht,h1,he];cases b<;>rfl
 obtain⟨d',k1,k2⟩:=k tm' df ((tm,An)::dl) h2 ⟨ht,rfl,hl⟩
 exact⟨d',by simp only[T9,this];exact k1,k2⟩
theorem Ta{o oj}{j d:Nat}{b want e}(hg:o.guard=some (j,want))(hj:ops[j]? =some oj)(hdj:oj.dst=some d)(hb:Ad.at ρ d=some (.bool b))(hw:cond b want (!want)=false)
  (he:B5 (Bc E o.op)=e)(hd:B0 nt o.dst=true)
  (k:TD E nt Rr ops r K (Dt o.dst An ρ) J (cond e (J::eps) eps) ((ρ,An)::log)):TD E nt Rr ops (o::r) K ρ J eps log:=
 Amp (fun tm ht=>by rw[Hf ht hg hj hdj hb,hw]) he hd k
theorem Zy{o oj}{j d:Nat}{want e}(hg:o.guard=some (j,want))(hj:ops[j]? =some oj)(hdj:oj.dst=some d)(hb:Ad.at ρ d=some An)
  (he:B5 (Bc E o.op)=e)(hd:B0 nt o.dst=true)
  (k:TD E nt Rr ops r K (Dt o.dst An ρ) J (cond e (J::eps) eps) ((ρ,An)::log)):TD E nt Rr ops (o::r) K ρ J eps log:=
 Amp (fun tm ht=>by simp only[Bn,hg,hj,hdj,ht d _ hb];rfl) he hd k
theorem Uu{α enc t sz by' a zz}{l:List α}{x lo k}(hel:elI E.P t=some (sz,by',zz))(he:∀a,(enc a).length=sz)
  (hx:Ah E ρ x=some (slV enc sz l))(h1:Iz E ρ lo=some (some (.int k (.ofNat a))))(ha:a<=l.length):As E Rr (.slice t x lo none none) ρ J (slV enc sz (l.drop a)) J:=by
 have hb:Do l.length none (some (.int k (.ofNat a))) none none=some (a,l.length,none):=by
  have h2:Nat.ble a l.length=true:=ar_ ha;have h3:Nat.ble l.length l.length=true:=ar_ nl;simp only[Do,My,h2,Li,h3,cond_true,be_,Mz]
 have:=Ag0 (Rr:=Rr) (J:=J) (lo:=lo) (hi:=none) (mx:=none) hel he hx h1 rfl rfl hb ha nl;rw[List.take_length]at this
 rwa[show slV enc sz (l.drop a)=.sv ((l.drop a).flatMap enc) sz (l.length-a) none by rw[←dp_];rfl]
theorem Bo{c}(h:WFS J->T E nt df B c Q ρ J):T E nt df B c Q ρ J:=fun ro n hn C w tm a ht st hB=>h st.sim.wfs ro n hn C w tm a ht st hB
theorem Av4{c i v}(hi:Ad.at ρ i=some v)(h:AV.und (nx J) v=true->T E nt df B c Q ρ J):T E nt df B c Q ρ J:=fun ro n hn C w tm a ht st hB=>h (R.und _ _ (st.tmps i v (ht i v hi))) ro n hn C w tm a ht st hB
def cutQ(L:Ad)(U:Sto):Cc
 |.normal=>fun ρ J=>Km L ρ/\J=U
 |_=>fun _ _=>False
theorem Aoy{x y}(L U)(h:T E nt df B x (cutQ L U) ρ J)(k:T E nt df B y Q L U):T E nt df B (.seq x y) Q ρ J:=by
 refine Aew (h.mono fun e ρ' J' hq=>?_)
 cases e with
 |normal=>obtain⟨h1,rfl⟩:=hq;exact k.sub h1
 |exit _=>exact hq.elim
 |ret=>exact hq.elim
theorem Ad.at_app:∀(L ρ:Ad) (i:Nat),Ad.at (L++ρ) i=(Ad.at L i).or (Ad.at ρ i)
 |[],ρ,i=>rfl
 |(j,v)::r,ρ,i=>by
  show cond (Nat.beq j i) (some v) (Ad.at (r++ρ) i)=(cond (Nat.beq j i) (some v) (Ad.at r i)).or _
  cases Nat.beq j i with
  |true=>rfl
  |false=>exact Ad.at_app r ρ i
abbrev ga_:=@Ad.at_app
def addQ(L ρ:Ad)(U:Sto):Cc
 |.normal=>fun ρ' J=>Km L ρ'/\Hy ρ ρ'/\J=U
 |_=>fun _ _=>False
theorem Gg{x y}(L)(h:T E nt df B x (addQ L ρ J) ρ J)(k:T E nt df B y Q (L++ρ) J):T E nt df B (.seq x y) Q ρ J:=by
 refine Aew (h.mono fun e ρ' J' hq=>?_)
 cases e with
 |normal=>
  obtain⟨h1,h2,rfl⟩:=hq;refine fun ro n hn C w tm a ht st hB=>k ro n hn C w tm a (fun i v hv=>?_) st hB
  rw[ga_]at hv;cases hL:Ad.at L i with
  |some u=>rw[hL]at hv;cases hv;exact ht i _ (h1.at i _ hL)
  |none=>rw[hL]at hv;exact ht i v (h2 i v hv)
 |exit _=>exact hq.elim
 |ret=>exact hq.elim
def cutP(P:Ad->Sto->Prop):Cc
 |.normal=>fun ρ J=>∃L,Km L ρ/\P L J
 |_=>fun _ _=>False
theorem Ak6{x y}(P)(h:T E nt df B x (cutP P) ρ J)(k:∀L U,P L U->T E nt df B y Q L U):T E nt df B (.seq x y) Q ρ J:=by
 refine Aew (h.mono fun e ρ' J' hq=>?_)
 cases e with
 |normal=>obtain⟨L,h1,h2⟩:=hq;exact(k L J' h2).sub h1
 |exit _=>exact hq.elim
 |ret=>exact hq.elim
end
def ltS(a b:Str):Bool:=C8 (a.map UInt8.toNat) (b.map UInt8.toNat)
section
variable {E:Env}{ρ:Ad}{J J':Sto}{Rr:Rec}{t ty n:Nat}{x y:Operand}
theorem boolI{P}(h:Zv P t=true):∃ti,Ay P t=some ti/\ti.desc=.bool:=by
 unfold Zv at h
 split at h
 ·rename_i ti hti
  split at h
  ·rename_i hd;exact⟨ti,hti,hd⟩
  ·cases h
 ·cases h
theorem Aw2{a b}(hi:Zv E.P t=true)(hx:Ah E ρ x=some (.bool a))(hy:Ah E ρ y=some (.bool b)):As E Rr (.binOp .eql t x y ty) ρ J (.bool (a==b)) J:=fun tm h=>by
 obtain⟨ti,h1,h2⟩:=boolI hi;simp only[opA,Aw,h.opd hx,h.opd hy,Wb,h1,h2,Sx];cases a<;>cases b<;>rfl
theorem Abo{a b}(hi:okI E.P t=true)(hx:Ah E ρ x=some (sV a))(hy:Ah E ρ y=some (sV b)):As E Rr (.binOp .geq t x y ty) ρ J (.bool (!ltS a b)) J:=Agp hi hx hy rfl
theorem Aw3{l m a b}(hi:okI E.P t=true)(hx:Ah E ρ x=some (.agg l))(hy:Ah E ρ y=some (.agg m))(hcx:Cm x=false)(hcy:Cm y=false)(h1:D4 E.P t (.agg l)=some a)(h2:D4 E.P t (.agg m)=some b):
  As E Rr (.binOp .neq t x y ty) ρ J (.bool (!Key.eq a b)) J:=fun tm h=>by
 obtain⟨ti,hti⟩:=Nl hi;simp only[opA,Aw,h.opd hx,h.opd hy,hcx,hcy,Wb,hti,Ir,Bool.or_self,cond_false,Pn,h1,h2,Sx]
theorem Aq8{kt sz agg z}(hi:mpI E.P t=some (kt,z,sz,agg)):∃ti et,Ay E.P t=some ti/\ti.desc=.map kt et:=by
 obtain⟨ti,et,te,h1,h2,_⟩:=Abe hi;exact⟨ti,et,h1,h2⟩
theorem Aul{α enc}{m:SM α}{r kt sz agg z}(hi:mpI E.P t=some (kt,z,sz,agg))(hx:Ah E ρ x=some (.mp r))(hm:B8 enc J r m):
  As E Rr (.call ⟨.builtin .len,#[x],#[t]⟩) ρ J (.int .i64 (.ofNat m.length)) J:=fun tm h=>by
 obtain⟨ti,et,h1,h2⟩:=Aq8 hi;obtain⟨ver,hv⟩:=hm;simp only[opA,Aw,h1,Ee,h2,h.opd hx,opds,T6,hv,Ak,Cn,cx_]
theorem Aq9{r kt sz agg z}(hi:mpI E.P t=some (kt,z,sz,agg))(hx:Ah E ρ x=some (.mp r)):As E Rr (.binOp .eql t x (.const (.map none)) ty) ρ J (.bool false) J:=fun tm h=>by
 obtain⟨ti,et,h1,h2⟩:=Aq8 hi;simp only[opA,Aw,h.opd hx,Cm,Wb,h1,Bool.or_true,Ir,cond_true];simp only[h2]
 rfl
theorem Ara{kt sz agg z}(hi:mpI E.P t=some (kt,z,sz,agg))(hx:Ah E ρ x=some (.nil (.map none))):As E Rr (.binOp .eql t x (.const (.map none)) ty) ρ J (.bool true) J:=fun tm h=>by
 obtain⟨ti,et,h1,h2⟩:=Aq8 hi;simp only[opA,Aw,h.opd hx,Cm,Wb,h1,Bool.or_true,Ir,cond_true];simp only[h2]
 rfl
theorem Aoz{α enc}{m:SM α}{r kt sz ver agg z}(hi:mpI E.P t=some (kt,z,sz,agg))(hx:Ah E ρ x=some (.mp r))(hm:J.get r=some (.map 9 (Cn enc m) ver)):
  As E Rr (.call ⟨.builtin .clear,#[x],#[t]⟩) ρ J An (J.set r (.map 9 [] (ver+1))):=fun tm h=>by
 obtain⟨ti,et,h1,h2⟩:=Aq8 hi;simp only[opA,Aw,h1,Ee,h2,h.opd hx,opds,Q9,hm,Ak]
theorem Ao0(a b):Aag a b=min a b:=by
 unfold Aag;have:=Ec (a:=a) (b:=b);rw[this]
 by_cases h:a<=b
 ·rw[decide_eq_true h,cond_true];omega
 ·rw[decide_eq_false h,cond_false];omega
theorem Ao1(a b):Ll a b=max a b:=by
 unfold Ll;have:=Ec (a:=b) (b:=a);rw[this]
 by_cases h:b<=a
 ·rw[decide_eq_true h,cond_true];omega
 ·rw[decide_eq_false h,cond_false];omega
theorem Aw4{k p q}(hi:okI E.P t=true){tys:Nat}(hx:Ah E ρ x=some (.int k p))(hy:Ah E ρ y=some (.int k q)):As E Rr (.call ⟨.builtin .max,#[x,y],#[t,tys]⟩) ρ J (.int k (max p q)) J:=fun tm h=>by
 obtain⟨ti,hti⟩:=Nl hi;simp only[opA,Aw,hti,Ee,h.opd hx,h.opd hy,opds,Xm,Qd,cond_true,Ao1]
theorem Ak7{k p q}(hi:okI E.P t=true){tys:Nat}(hx:Ah E ρ x=some (.int k p))(hy:Ah E ρ y=some (.int k q)):As E Rr (.call ⟨.builtin .min,#[x,y],#[t,tys]⟩) ρ J (.int k (min p q)) J:=fun tm h=>by
 obtain⟨ti,hti⟩:=Nl hi;simp only[opA,Aw,hti,Ee,h.opd hx,h.opd hy,opds,Xm,Qd,cond_true,Ao0]
end
section
variable {E:Env}{ρ:Ad}{J J':Sto}{Rr:Rec}{t ty n a i:Nat}{x y:Operand}{α:Type}{enc:α->List AV}{sz by':Nat}{l:List α}
theorem Ro:∀{p q u v:List AV},u.length=q.length->Et (p++q++v) p.length u=some (p++u++v)
 |[],q,u,v,h=>by
  simp only[bd_,cu_];exact go h
 |x::p,q,u,v,h=>by
  simp only[ay_,as_,Et,Ro h]
 where
 go:∀{q u v:List AV},u.length=q.length->Et (q++v) 0 u=some (u++v)
  |[],[],v,_=>by cases v<;>rfl
  |y::q,z::u,v,h=>by
   have:=go (q:=q) (u:=u) (v:=v) (by simpa using h)
   simp only[ay_,Et,this]
  |[],_::_,_,h=>by simp at h
  |_::_,[],_,h=>by simp at h
theorem Arb(he:∀a,(enc a).length=sz){b}(hi:i<l.length)(tl):Et (l.flatMap enc++tl) (i*sz) (enc b)=some ((l.set i b).flatMap enc++tl):=by
 have h1:l=l.take i++l[i]::l.drop (i+1):=by rw[←bj_ hi,cc_]
 have h2:l.set i b=l.take i++b::l.drop (i+1):=List.set_eq_take_append_cons_drop▸by rw[if_pos hi]
 have h3:((l.take i).flatMap enc).length=i*sz:=by rw[Dl he,cb_,du_ (gb_ hi)]
 have h4:l.flatMap enc++tl=(l.take i).flatMap enc++enc l[i]++((l.drop (i+1)).flatMap enc++tl):=by
  refine(congrArg (fun k=>List.flatMap enc k++tl) h1).trans ?_
  simp only[da_,bs_,ca_]
 rw[h4,h2,←h3,Ro (by rw[he,he])]
 simp only[da_,bs_,ca_]
theorem Br{zz k m cap}(hi:elI E.P t=some (sz,by',zz))(hx:Ah E ρ x=some (.sr a 0 sz m cap))(hy:Ah E ρ y=some (.int k (.ofNat i)))(hm:i<m):
  As E Rr (.indexAddr t x y) ρ J (.pr a (i*sz)) J:=by
 have h:=Aif (Rr:=Rr) (J:=J) hi hx hy (m:=m) rfl rfl hm
 have e:Aie (.sr a 0 sz m cap) (i*sz)=.pr a (i*sz):=by show AV.pr a (0+i*sz)=_;rw[bn_]
 rwa[e]at h
theorem Dg{u v agg tl}(he:∀a,(enc a).length=sz)(hi:ldI E.P t=some (sz,agg))(hx:Ah E ρ x=some (.pr a (i*sz)))(hg:J.get a=some (.cells (l.flatMap enc++tl)))(hu:l[i]? =some u)(hv:∀r,Cz sz agg (enc u++r)=some v):
  As E Rr (.load t x) ρ J v J:=by
 refine Ac (cs:=(l.flatMap enc++tl).drop (i*sz)) hi hx (by simp only[Em,Sto.cells,hg]) ?_
 have hi:=(ae_.1 hu).1
 have h0:i*sz<=(l.flatMap enc).length:=by rw[Dl he];exact el_ _ (gb_ hi)
 rw[fj_ h0,Aml he hu,ca_];exact hv _
theorem Tb{u v agg tl}(he:∀a,(enc a).length=sz)(hi:ldI E.P t=some (sz,agg))(hx:Ah E ρ x=some (.pr a (i*sz)))(hy:Ah E ρ y=some v)(hc:v.cellsN sz=some (enc u))(hg:J.get a=some (.cells (l.flatMap enc++tl)))(hl:i<l.length):
  As E Rr (.store t x y) ρ J An (J.set a (.cells ((l.set i u).flatMap enc++tl))):=
 By hi hx hy hc (by simp only[Sto.cells,hg]) (Arb he hl tl)
theorem Aim{zz k m b lo}(hel:elI E.P t=some (sz,by',zz))(hx:Ah E ρ x=some (.sr a 0 sz m none))(h1:Iz E ρ lo=some (some (.int k (.ofNat b))))(hb:b<=m):
  As E Rr (.slice t x lo none none) ρ J (.sr a (b*sz) sz (m-b) none) J:=fun tm h=>by
 obtain⟨ti,e,te,k1,k2,k3,k4,k5,k6⟩:=Qc hel;subst k4
 have hbd:Do m none (some (.int k (.ofNat b))) none none=some (b,m,none):=by
  have h2:Nat.ble b m=true:=ar_ hb;have h3:Nat.ble m m=true:=ar_ nl;simp only[Do,My,h2,Li,h3,cond_true,be_,Mz]
 have e0:opdO E tm none=none:=rfl;simp only[opA,Aw,k1,k2,k3,h.opd hx,h.opdO h1,e0,Lj,aw_,hbd,Ak,bn_]
theorem Uv{zz k m b hi cap}(hel:elI E.P t=some (sz,by',zz))(hx:Ah E ρ x=some (.sr a 0 sz m cap))(h1:Iz E ρ hi=some (some (.int k (.ofNat b))))(hb:b<=m):
  As E Rr (.slice t x none hi none) ρ J (.sr a 0 sz b (Mz cap 0)) J:=fun tm h=>by
 obtain⟨ti,e,te,k1,k2,k3,k4,k5,k6⟩:=Qc hel;subst k4
 have hbd:Do m cap none (some (.int k (.ofNat b))) none=some (0,b,Mz cap 0):=by
  have h2:Nat.ble b m=true:=ar_ hb;have h3:Nat.ble 0 b=true:=ar_ (aq_ _);simp only[Do,My,h3,Li,h2,cond_true,be_]
 have e0:opdO E tm none=none:=rfl;simp only[opA,Aw,k1,k2,k3,h.opd hx,h.opdO h1,e0,Lj,aw_,hbd,Ak,dw_,fd_,es_]
theorem Amr{z}:∀n,(rep z n).length=n*z.length
 |0=>by simp[rep]
 |n+1=>by simp only[rep,bx_,Amr n,fw_];omega
theorem Aez{z tl m b cap}(he:∀a,(enc a).length=sz)(hel:elI E.P t=some (sz,by',some z))(hz:Nat.beq z.length sz=true)(hx:Ah E ρ x=some (.sr a (b*sz) sz m cap))(hg:J.get a=some (.cells (l.flatMap enc++tl)))(hl:b+m=l.length):
  As E Rr (.call ⟨.builtin .clear,#[x],#[t]⟩) ρ J An (J.set a (.cells ((l.take b).flatMap enc++(rep z m++tl)))):=fun tm h=>by
 obtain⟨ti,e,te,k1,k2,k3,k4,k5,k6⟩:=Qc hel;subst k4
 have h2:l.flatMap enc++tl=(l.take b).flatMap enc++(l.drop b).flatMap enc++tl:=by rw[←da_,cc_]
 have h3:((l.take b).flatMap enc).length=b*te.size:=by rw[Dl he,cb_];congr 1;omega
 have h4:(rep z m).length=((l.drop b).flatMap enc).length:=by rw[Amr,Dl he,dp_,ac_ hz];congr 1;omega
 have h5:=Ro (p:=(l.take b).flatMap enc) (v:=tl) h4;rw[h3,←h2,ca_]at h5;simp only[opA,Aw,k1,Ee,k2,k3,k6,hz,h.opd hx,opds,Af6,aw_,Sto.cells,hg,h5]
end
def Own(J:Sto)(N:Nat){α:Type}(enc:α->List AV)(sz:Nat)(l:List α)(v:AV):Prop:=
 (l=[]/\(v=.nil (.slice none 0 0)∨v=.sv [] sz 0 (some 0)))∨∃a tl,N<=a/\a<nx J/\v=.sr a 0 sz l.length none/\J.get a=some (.cells (l.flatMap enc++tl))
section
variable {E:Env}{ρ:Ad}{J J' U:Sto}{Rr:Rec}{t ty n a i N:Nat}{x y:Operand}{α:Type}{enc:α->List AV}{sz by':Nat}{l m:List α}{v:AV}
theorem Own.nil:Own J N enc sz ([]:List α) (.nil (.slice none 0 0)):=.inl ⟨rfl,.inl rfl⟩
theorem Own.emp:Own J N enc sz ([]:List α) (.sv [] sz 0 (some 0)):=.inl ⟨rfl,.inr rfl⟩
theorem Own.lenA(h:Own J N enc sz l v):lenA v=some l.length/\Ad9 v=true:=by
 rcases h with⟨rfl,rfl|rfl⟩|⟨a,tl,_,_,rfl,_⟩<;>exact⟨rfl,rfl⟩
theorem Own.mono(h:Own J N enc sz l v)(hn:nx J<=nx J')(hg:∀a tl,v=.sr a 0 sz l.length none->N<=a->a<nx J->J.get a=some (.cells (l.flatMap enc++tl))->J'.get a=J.get a):Own J' N enc sz l v:=by
 rcases h with h|⟨a,tl,h1,h2,h3,h4⟩
 ·exact .inl h
 ·exact .inr ⟨a,tl,h1,by omega,h3,(hg a tl h3 h1 h2 h4).trans h4⟩
theorem Own.app(he:∀a,(enc a).length=sz)(hN:N<=nx J)(h:Own J N enc sz l v)(m)(bn:(l.length+m.length)*(by'+1)<=sizeLim):
  ∃v' J',B6 J sz by' v m.length (m.flatMap enc)=some (v',J')/\Own J' N enc sz (l++m) v'/\Below N J J'/\
   (∀b,b<nx J->(∀c,v=.sr c 0 sz l.length none->b≠c)->J'.get b=J.get b):=by
 cases m with
 |nil=>
  refine⟨v,J,?_,by simpa using h,fn_,fun _ _ _=>rfl⟩
  simp only[cu_,B6]
  rcases h with⟨_,rfl|rfl⟩|⟨a,tl,_,_,rfl,_⟩<;>rfl
 |cons b m=>
  have hb:Nat.ble ((l.length+(b::m).length)*(by'+1)) sizeLim=true:=ar_ bn
  have fresh:∀(c:List α) (U:Sto),N<=nx U->Own (U.new (.cells (c.flatMap enc))) N enc sz c (.sr (nx U) 0 sz c.length none):=fun c U hτ=>
   .inr ⟨nx U,[],hτ,by rw[Ao];omega,rfl,by rw[ag_,if_pos rfl,bh_]⟩
  rcases h with⟨rfl,rfl|rfl⟩|⟨a,tl,h1,h2,rfl,h3⟩
  ·have hb':Nat.ble ((m.length+1)*(by'+1)) sizeLim=true:=ar_ (by simpa using bn)
   refine⟨.sr (nx J) 0 sz (b::m).length none,J.new (.cells ((b::m).flatMap enc)),?_,fresh _ _ hN,⟨by rw[Ao];omega,fun c hc=>by rw[ag_,if_neg Om]⟩,fun c hc _=>by rw[ag_,if_neg Om]⟩
   simp only[as_,B6,Ja,bn_,hb',cond_true,Ak,bd_]
  ·have hb':Nat.ble ((m.length+1)*(by'+1)) sizeLim=true:=ar_ (by simpa using bn)
   have h0:Nat.ble (m.length+1) 0=false:=rfl
   refine⟨.sr (nx J) 0 sz (b::m).length none,J.new (.cells ((b::m).flatMap enc)),?_,fresh _ _ hN,⟨by rw[Ao];omega,fun c hc=>by rw[ag_,if_neg Om]⟩,fun c hc _=>by rw[ag_,if_neg Om]⟩
   simp only[as_,B6,aw_,h0,fc_,be_,cond_true,Ja,bn_,hb',Ak,bd_]
  ·have ev:J.cells a=some (l.flatMap enc++tl):=by unfold Sto.cells;rw[h3]
   have b9:Dr (l.length*sz) ((l.flatMap enc++tl).drop 0)=some (l.flatMap enc):=by
    have:=D0 (l:=l.flatMap enc) (r:=tl)
    rwa[Dl he]at this
   simp only[as_]at hb
   refine⟨.sr (nx J) 0 sz (l++b::m).length none,(J.kill a).new (.cells (l.flatMap enc++(b::m).flatMap enc)),?_,?_,⟨by rw[Ao,B3];omega,fun c hc=>?_⟩,fun c hc hne=>?_⟩
   ·simp only[as_,B6,aw_,cond_true,ev,b9,Ja,hb,Ak,B3,bx_]
   ·rw[←da_]
    have:=fresh (l++b::m) (J.kill a) (by rw[B3];exact hN)
    rwa[B3]at this
   ·rw[ag_,B3,if_neg Om,bf_,if_neg Om]
   ·rw[ag_,B3,if_neg Om,bf_,if_neg (hne a rfl)]
abbrev ex_:=@Own.app
theorem Own.fz(he:∀a,(enc a).length=sz)(h:Own J N enc sz l v)(hτ:∀a,N<=a->U.get a=none)(hu:AV.unds (nx U) (l.flatMap enc)=true):Fz J U v (slV enc sz l):=by
 rcases h with⟨rfl,rfl|rfl⟩|⟨a,tl,h1,_,rfl,h3⟩
 ·exact .nils (fun q hq=>by cases hq)
 ·exact .sv (fun q hq=>by cases hq) .nil
 ·have b9:Dr (l.length*sz) ((l.flatMap enc++tl).drop 0)=some (l.flatMap enc):=by
   have:=D0 (l:=l.flatMap enc) (r:=tl)
   rwa[Dl he]at this
  exact .sr h3 (hτ a h1) b9 (dj_ hu)
def Ad0(J:Sto)(N:Nat){α:Type}(enc:α->List AV)(sz:Nat)(l:List α)(v:AV):Prop:=v=.sv (l.flatMap enc) sz l.length (some l.length)∨Own J N enc sz l v
theorem Ad0.app(he:∀a,(enc a).length=sz)(hN:N<=nx J)(h:Ad0 J N enc sz l v)(m)(bn:(l.length+m.length)*(by'+1)<=sizeLim):
  ∃v' J',B6 J sz by' v m.length (m.flatMap enc)=some (v',J')/\Ad0 J' N enc sz (l++m) v'/\Below N J J'/\
   (∀b,b<nx J->(∀c,v=.sr c 0 sz l.length none->b≠c)->J'.get b=J.get b):=by
 rcases h with rfl|h
 ·cases m with
  |nil=>exact⟨_,J,rfl,.inl (by rw[bh_]),fn_,fun _ _ _=>rfl⟩
  |cons b m=>
   have hb:Nat.ble ((l.length+(m.length+1))*(by'+1)) sizeLim=true:=ar_ bn
   have h0:Nat.ble (l.length+(m.length+1)) l.length=false:=by
    cases hh:Nat.ble (l.length+(m.length+1)) l.length with
    |true=>exact absurd (al_ hh) Om
    |false=>rfl
   refine⟨.sr (nx J) 0 sz (l++b::m).length none,J.new (.cells ((l++b::m).flatMap enc)),?_,.inr (.inr ⟨nx J,[],hN,by rw[Ao];omega,rfl,by rw[ag_,if_pos rfl,bh_]⟩),⟨by rw[Ao];omega,fun c hc=>by rw[ag_,if_neg Om]⟩,fun c hc _=>by rw[ag_,if_neg Om]⟩
   simp only[as_,B6,aw_,h0,fc_,be_,cond_true,Ja,hb,Ak,bx_,da_]
 ·obtain⟨v',J',h1,h2,h3,h4⟩:=h.app he hN m bn;exact⟨v',J',h1,.inr h2,h3,h4⟩
theorem Ad0.fz(he:∀a,(enc a).length=sz)(h:Ad0 J N enc sz l v)(hτ:∀a,N<=a->U.get a=none)(hu:AV.unds (nx U) (l.flatMap enc)=true):Fz J U v (slV enc sz l):=by
 rcases h with rfl|h
 ·exact .sv (fun q hq=>by cases hq) (dj_ hu)
 ·exact h.fz he hτ hu
theorem WFS.none(hw:WFS J){a}(h:nx J<=a):J.get a=none:=by
 cases hg:J.get a with
 |none=>rfl
 |some O=>exact absurd (hw a O hg).1 Om
theorem X7(he:∀a,(enc a).length=sz)(J l):F9 J sz (slV enc sz l) l.length=some (l.flatMap enc):=by
 have:=D0 (l:=l.flatMap enc) (r:=[]);rw[Dl he,bh_]at this;exact this
end
def Ak8(P:Program)(t:Nat):Bool:=match Ay P t with|some ti=>(match ti.desc with|.int _=>true|_=>false)|none=>false
section
variable {E:Env}{ρ:Ad}{J J' U:Sto}{Rr:Rec}{t t2 ty n a i N:Nat}{x y:Operand}{sz by':Nat}{v:AV}{A B:AO}
theorem Zz(hi:Mk E.P t=true)(hx:Ah E ρ x=some (.nil (.slice none 0 0))):As E Rr (.call ⟨.builtin .cap,#[x],#[t]⟩) ρ J (.int .i64 (.ofNat 0)) J:=fun tm h=>by
 unfold Mk at hi
 split at hi
 ·rename_i ti hti
  split at hi
  ·rename_i e hd
   simp only[opA,Aw,hti,Ee,hd,h.opd hx,opds,Kj]
   rfl
  ·cases hi
 ·cases hi
theorem Ams{zz hi k}(hel:elI E.P t=some (sz,by',zz))(hx:Ah E ρ x=some (.nil (.slice none 0 0)))(h1:Iz E ρ hi=some (some (.int k (.ofNat 0)))):
  As E Rr (.slice t x none hi none) ρ J (.nil (.slice none 0 0)) J:=fun tm h=>by
 obtain⟨ti,e,te,k1,k2,k3,k4,k5,k6⟩:=Qc hel;have e0:opdO E tm none=none:=rfl;have hb:Do 0 (some 0) none (some (.int k (.ofNat 0))) none=some (0,0,some 0):=rfl;simp only[opA,Aw,k1,k2,k3,h.opd hx,h.opdO h1,e0,Lj,hb]
theorem Ain{z}(hi:elI E.P t=some (sz,by',some z))(hl:Nat.beq z.length sz=true)(h2:Ak8 E.P t2=true)(hx:Ah E ρ x=some (.nil (.slice none 0 0)))(hy:Ah E ρ y=some (.int .i64 (.ofNat (n+1))))(hn:(n+1)*(by'+1)<=sizeLim):
  As E Rr (.call ⟨.builtin .append,#[x,y],#[t,t2]⟩) ρ J (.sr (nx J) 0 sz (n+1) none) (J.new (.cells (rep z (n+1)))):=fun tm h=>by
 obtain⟨ti,e,te,h1,hd,h3,h4,h5,h6⟩:=Qc hi;subst h4 h5;have hb:Nat.ble ((n+1)*(te.bytes+1)) sizeLim=true:=ar_ hn;unfold Ak8 at h2
 split at h2
 ·rename_i t2i ht2
  split at h2
  ·rename_i k hd2
   simp only[opA,Aw,h1,Ee,hd,h3,ht2,h6,hl,hd2,h.opd hx,h.opd hy,opds,T8,hb,cond_true,B6,Ja,bn_,Ak,bd_]
  ·cases h2
 ·cases h2
theorem Av5:((J.new A).new B).get (nx J)=some A:=gr
theorem Aio{cs}(h:J.get a=some (.cells cs)):J.cells a=some cs:=by unfold Sto.cells;rw[h]
end
def Yv(J U:Sto):Prop:=∀a O,J.get a=some O->U.get a=some O
theorem Yv.refl{J}:Yv J J:=fun _ _ h=>h
theorem Yv.below{J U}(hw:WFS J)(h:Below (nx J) J U):Yv J U:=fun a O ha=>(h.2 a (hw a O ha).1).trans ha
def rdOk:Op->Bool
 |.load .. =>true
 |.lookup .. =>true
 |_=>false
theorem Ao2{J U}(h:Yv J U){a vs}(hc:J.cells a=some vs):U.cells a=some vs:=by
 unfold Sto.cells at hc⊢
 split at hc
 ·rename_i us hg;rw[h _ _ hg];exact hc
 ·cases hc
theorem Ao3{J U J₁ ti x v}(h:Yv J U)(hs:Na ti x J=some (v,J₁)):Na ti x U=some (v,U):=by
 unfold Na at hs⊢
 split at hs
 ·split at hs
  ·rename_i vs hvs
   split at hs
   ·rename_i u hu;cases hs;simp only[Ao2 h hvs,hu]
   ·cases hs
  ·cases hs
 ·split at hs
  ·rename_i u hu;cases hs;simp only[hu]
  ·cases hs
 ·cases hs
theorem Aip{J U J₁ kt key z m v ok}(h:Yv J U)(hs:Ky kt key z ok m J=some (v,J₁)):Ky kt key z ok m U=some (v,U):=by
 unfold Ky at hs⊢
 split at hs
 ·split at hs
  ·split at hs
   ·rename_i kt' es ver hg
    rw[h _ _ hg];simp only
    split at hs
    ·rename_i hb
     try simp only[hb]
     split at hs<;>rename_i hf<;>cases hs<;>simp only[hb,hf]
    ·cases hs
   ·cases hs
  ·cases hs;rfl
  ·cases hs
 ·cases hs
theorem Arc{E J U J₁ op tm v}(hr:rdOk op=true)(h:Yv J U)(hs:Aw E op tm J=some (v,J₁)):∃U₁,Aw E op tm U=some (v,U₁):=by
 unfold rdOk at hr
 split at hr
 ·simp only[Aw]at hs⊢
  split at hs
  ·rename_i ti hti;exact⟨U,Ao3 h hs⟩
  ·cases hs
 ·simp only[Aw]at hs⊢
  split at hs
  ·rename_i ti hti
   split at hs
   ·rename_i kt et hd
    try simp only[hd]
    split at hs
    ·rename_i te hte
     try simp only[hd,hte]
     split at hs
     ·rename_i z hz
      try simp only[hd,hte,hz]
      exact⟨U,Aip h hs⟩
     ·cases hs
    ·cases hs
   ·cases hs
  ·cases hs
 ·cases hr
def Jo(E:Env)(m:Nat):List Ann->List Oper->Bool->Bool
 |a::az,o::os,late=>(match a.cls with
  |.read=> !late&&Nat.ble a.hi m&&rdOk o.op
  |_=>true)&&Jo E m az os (late||B5 (Bc E o.op))
 |_,_,_=>true
theorem Qj{E m}:∀{az:List Ann} {os:List Oper} {late:Bool},Jo E m az os late=true->∀(j:Nat) (a:Ann) (o:Oper),az[j]? =some a->os[j]? =some o->a.cls=.read->late=false/\cnt E os j=0/\a.hi<=m/\rdOk o.op=true
 |a::az,o::os,late,h,0,a',o',ha,ho,hc=>by
  simp at ha ho;subst ha ho
  simp only[Jo,hc,ad_]at h
  exact⟨by simpa using h.1.1.1,rfl,al_ h.1.1.2,h.1.2⟩
 |a::az,o::os,late,h,j+1,a',o',ha,ho,hc=>by
  simp only[Jo,ad_]at h
  obtain⟨h1,h2,h3⟩:=Qj h.2 j a' o' (by simpa using ha) (by simpa using ho) hc
  simp only[bv_]at h1;refine⟨h1.1,?_,h3⟩;simp only[cnt,h1.2,h2]
  simp
 |[],_,_,_,_,_,_,h,_,_=>by simp at h
 |_::_,[],_,_,_,_,_,_,h,_=>by simp at h
section
variable {E:Env}{nt B:Nat}{df:List (Nat×List AV)}{Q:Cc}{Rr:Rec}{ρ:Ad}{J:Sto}
def KDX(Q:Cc)(m:Nat)(J:Sto):KD:=fun ρ' J' eps _=>(∀e∈eps.reverse.take (m+1),Yv J e)/\Q .normal ρ' J'
theorem Amt(m){id ops anns}(hm:E.P.follows .mixedOrders=true)(hR:Bk E Rr)(ha:Lo E ops=some anns)(hp:Jo E m anns ops.toList false=true)
  (h:TD E nt Rr ops.toList ops.toList (KDX Q m J) ρ J [J] []):T E nt df B (.region id ops true) Q ρ J:=by
 intro ro n hn C w tm a ht st hB;obtain⟨c1,c2,c3,c4⟩:=Jm ha;obtain⟨d,k1,k2,k3,ρ',log',k4,k5,k6,k7⟩:=h tm df [] ht trivial;refine wpIn_mono (Aic hm hR st c1 c2 c3 k1 fun j o t v ho hl hcl hg σk hσ=>?_) fun e a' w' he=>?_
 ·have cv:=Ix (E:=E) (b:=(Region.before ops).toList) (effs:=A8 E ops.toList 0) ops.toList 0 j o (by simpa using ho)
  rw[←c4]at cv;simp only[bn_]at cv
  obtain⟨_,q1,q2,q3⟩:=Qj hp j _ o cv (by simpa using ho) hcl
  simp only[Gc]at q2
  have cu:Yv J σk:=by
   refine k6 σk ?_;obtain⟨i,hi⟩:=au_.1 hσ;rw[ea_]at hi
   split at hi
   ·rename_i hlt
    rw[g_]at hi;exact au_.2 ⟨_,(List.getElem?_take_of_lt Om).trans hi⟩
   ·cases hi
  obtain⟨log,eps,lex,g2,g3,g4,g5⟩:=Lz k1;simp only[dy_,bd_,d_]at g2 g3;obtain⟨x1,x2,x3,x4,x5⟩:=Wq lex
  obtain⟨t',v',t₁,J₀,J₁,y1,y2,y3,y4,y5,y6⟩:=x5 j o (by simpa using ho)
  rw[g2]at hl;rw[hl]at y1;cases y1
  have h0:J₀=J:=by
   rw[q1]at y3
   simpa using y3.symm
  subst h0
  have hne:B5 (Bc E o.op)=false:=by rw[hcl];rfl
  rcases y5 with⟨z1,z2⟩|⟨z1,z2⟩
  ·rw[Iy hcl]at z2;exact Arc q3 cu z2
  ·rw[z1]at hg;cases hg
 ·obtain⟨y,hy,C',h1,h2,h3⟩:=he;rw[ao_]at hy;subst hy;obtain⟨⟨tm',nt',df',J'⟩,eps',dl'⟩:=d;simp only at k2 k3;subst k2 k3;exact⟨.normal,tm',ρ',J',C',h1,k4,k7,h2,ai_ hB h3.next,h3.base hB⟩
theorem K4{o}(hw:WFS J):Yv J (J.new o):=Yv.below hw (Below.rfl'.new nl o)
def newQ(d:Nat)(z cs:List AV)(L ρ:Ad)(U:Sto):Cc
 |.normal=>fun ρ' J'=>Km L ρ'/\Hy ρ ρ'/\Ad.at ρ' d=some (.pr (nx U) 0)/\J'=(U.new (.cells z)).set (nx U) (.cells cs)
 |_=>fun _ _=>False
theorem Gz[Se E]{x y}(d z cs L)(hu:AV.unds (nx J) cs=true)(hL:AV.unds (nx J) (L.map (·.2))=true)(h:WFS J->T E nt [] B x (newQ d z cs L ρ J) ρ J)(k:T E nt [] B y Q ((d,.pv cs)::L++ρ) J):T E nt [] B (.seq x y) Q ρ J:=by
 intro ro n hn C w tm a ht st hB;have hwf:=st.sim.wfs;have em:∀i u,Ad.at ρ i=some u->AV.und (nx J) u=true:=fun i u hu=>R.und _ _ (st.tmps i u (ht i u hu))
 have hLu:∀(L:Ad),AV.unds (nx J) (L.map (·.2))=true->∀i u,Ad.at L i=some u->AV.und (nx J) u=true:=by
  intro L
  induction L with
  |nil=>intro _ i u hh;cases hh
  |cons p r ih=>
   obtain⟨j,v⟩:=p;intro hL i u hh;simp only[cn_,AV.unds,ad_]at hL;simp only[Ad.at]at hh;cases hb:Nat.beq j i with
   |true=>rw[hb]at hh;cases hh;exact hL.1
   |false=>rw[hb]at hh;exact ih hL.2 i u hh
 refine Aew ((h hwf).mono fun e ρ' J' hq=>?_) ro n hn C w tm a ht st hB
 cases e with
 |exit _=>exact hq.elim
 |ret=>exact hq.elim
 |normal=>
  obtain⟨h1,h2,h3,rfl⟩:=hq
  have hf:Ds ((J.new (.cells z)).set (nx J) (.cells cs)) J:=a_ hwf (by rw[Aq,Ao];exact dm_ _) fun b hb=>by rw[aa_,if_neg Om,ag_,if_neg Om]
  intro ro n hn C₁ w₁ tm₁ a₁ ht₁ st₁ hB₁;refine wpIn_mono (k ro n hn (C₁.keep J) w₁ _ a₁ (Kf _) (st₁.frz ht₁ hf fun i u hi=>?_) hB) fun e a' w' he=>he.from (en_ C₁ J B w₁)
  simp only[ay_,Ad.at]at hi;cases hb:Nat.beq d i with
  |true=>
   rw[hb]at hi;cases hi;have:=ac_ hb;subst this
   exact⟨_,h3,.pr (vs:=cs) (by rw[aa_,if_pos rfl]) (hwf.none nl) (dj_ hu)⟩
  |false=>
   rw[hb]at hi;simp only[cond_false]at hi;rw[ga_]at hi;cases hc:Ad.at L i with
   |some u'=>rw[hc]at hi;cases hi;exact⟨_,h1.at i _ hc,.same (hLu L hL i _ hc)⟩
   |none=>rw[hc]at hi;exact⟨_,h2 i u hi,.same (em i u hi)⟩
end
section
variable {E:Env}{nt B:Nat}{df:List (Nat×List AV)}{Q:Cc}{Rr:Rec}{ops r:List Oper}{K:KD}{ρ:Ad}{J U:Sto}{eps:List Sto}{log:List (Ad×AV)}
theorem TD_opF{op dst}{ty:Nat}{pos after v J₁}(he:B5 (Bc E op)=false)(hd:B0 nt dst=true)(h:As E Rr op ρ J v J₁)
  (k:TD E nt Rr ops r K (Dt dst v ρ) J eps ((ρ,v)::log)):TD E nt Rr ops ({ dst:=dst,op:=op,type:=ty,pos:=pos,after:=after,guard:=none }::r) K ρ J eps log:=Amn (b:=false) he hd h k
theorem TD_opT{op dst}{ty:Nat}{pos after v J₁}(he:B5 (Bc E op)=true)(hd:B0 nt dst=true)(h:As E Rr op ρ J v J₁)
  (k:TD E nt Rr ops r K (Dt dst v ρ) J₁ (J₁::eps) ((ρ,v)::log)):TD E nt Rr ops ({ dst:=dst,op:=op,type:=ty,pos:=pos,after:=after,guard:=none }::r) K ρ J eps log:=Amn (b:=true) he hd h k
theorem Bg{o oj v J₁}{j d:Nat}{b want}(hg:o.guard=some (j,want))(hj:ops[j]? =some oj)(hdj:oj.dst=some d)(hb:Ad.at ρ d=some (.bool b))(hw:cond b want (!want)=true)
  (he:B5 (Bc E o.op)=false)(hd:B0 nt o.dst=true)(h:As E Rr o.op ρ J v J₁)
  (k:TD E nt Rr ops r K (Dt o.dst v ρ) J eps ((ρ,v)::log)):TD E nt Rr ops (o::r) K ρ J eps log:=Qi (e:=false) hg hj hdj hb hw he hd h k
theorem Ol{o oj v J₁}{j d:Nat}{b want}(hg:o.guard=some (j,want))(hj:ops[j]? =some oj)(hdj:oj.dst=some d)(hb:Ad.at ρ d=some (.bool b))(hw:cond b want (!want)=true)
  (he:B5 (Bc E o.op)=true)(hd:B0 nt o.dst=true)(h:As E Rr o.op ρ J v J₁)
  (k:TD E nt Rr ops r K (Dt o.dst v ρ) J₁ (J₁::eps) ((ρ,v)::log)):TD E nt Rr ops (o::r) K ρ J eps log:=Qi (e:=true) hg hj hdj hb hw he hd h k
theorem Bx{o oj}{j d:Nat}{b want}(hg:o.guard=some (j,want))(hj:ops[j]? =some oj)(hdj:oj.dst=some d)(hb:Ad.at ρ d=some (.bool b))(hw:cond b want (!want)=false)
  (he:B5 (Bc E o.op)=false)(hd:B0 nt o.dst=true)
  (k:TD E nt Rr ops r K (Dt o.dst An ρ) J eps ((ρ,An)::log)):TD E nt Rr ops (o::r) K ρ J eps log:=Ta (e:=false) hg hj hdj hb hw he hd k
theorem K5{o oj}{j d:Nat}{b want}(hg:o.guard=some (j,want))(hj:ops[j]? =some oj)(hdj:oj.dst=some d)(hb:Ad.at ρ d=some (.bool b))(hw:cond b want (!want)=false)
  (he:B5 (Bc E o.op)=true)(hd:B0 nt o.dst=true)
  (k:TD E nt Rr ops r K (Dt o.dst An ρ) J (J::eps) ((ρ,An)::log)):TD E nt Rr ops (o::r) K ρ J eps log:=Ta (e:=true) hg hj hdj hb hw he hd k
end
theorem Abp{N M}(h:N<=M){es}(k:Jc N es=true):Jc M es=true:=by
 unfold Jc at k⊢;rw[b_]at k⊢;exact fun x hx=>AV.und_mono h x.2 (k x hx)
theorem Aiq{N M}(h:N<=M):∀{c:Option (Key×AV)},Ak3 N c=true->Ak3 M c=true
 |none,_=>rfl
 |some x,k=>AV.und_mono h x.2 k
theorem AO.und_mono{N M}(h:N<=M):∀{O:AO},AO.und N O=true->AO.und M O=true
 |.cells vs,k=>AV.unds_mono h vs k
 |.map _ es _,k=>Abp h k
 |.iter none _ _ _,_=>rfl
 |.iter (some r) _ _ _,k=>Ce (ak_ (Gy k) h)
 |.stamp _ _ _,k=>Ce (ak_ (Gy k) h)
 |.loop _,_=>rfl
theorem WFS.new{J}(hw:WFS J){X}(hX:AO.und (nx J+1) X=true)(hI:Agt (J.new X) X):WFS (J.new X):=by
 intro a O hg;rw[ag_]at hg;rw[Ao]
 split at hg
 ·grind
 ·obtain⟨h1,h2,h3⟩:=hw a O hg;refine⟨Nat.lt_succ_of_lt h1,AO.und_mono (dm_ _) h2,?_⟩;cases O with
  |iter m ver left cur=>
   cases m with
   |none=>trivial
   |some r=>
    intro kt es hr;have hlt:r<nx J:=Gy h2;rw[ag_,if_neg Om]at hr;obtain⟨k1,k2⟩:=h3 kt es hr;rw[Ao];exact⟨Abp (dm_ _) k1,Aiq (dm_ _) k2⟩
  |cells _=>trivial
  |map _ _ _=>trivial
  |stamp _ _ _=>trivial
  |loop _=>trivial
theorem Ds.newMap{J U kt ver es}(hw:WFS J)(hb:Below (nx J) J U)(hg:U.get (nx J)=some (.map kt es ver))(hn:nx J<nx U)(hu:Jc (nx J+1) es=true):Ds U (J.new (.map kt es ver)):=by
 refine a_ (hw.new hu trivial) gr fun a ha=>?_
 rw[Ao]at ha;rw[ag_]
 split
 ·grind
 ·exact hb.2 a Om
def aP(i j:Nat):Ann:=⟨.pure,i,j⟩
def aR(i j:Nat):Ann:=⟨.read,i,j⟩
def aE(i j:Nat):Ann:=⟨.eff,i,j⟩
theorem sb{ρ ρ'}(h:Hy ρ' ρ:=by repeat (first|exact .refl|refine .cons rfl ?_)):Hy ρ' ρ:=h
section
variable {E:Env}{nt B:Nat}{df:List (Nat×List AV)}{Q:Cc}{ρ:Ad}{J:Sto}{K:Ad->Sto->Prop}
theorem O1{ops r op dst}{ty:Nat}{pos after v J₁}(h:As E (fun _ _ _=>none) op ρ J v J₁)
  (k:TO E nt df B ops r K (Dt dst v ρ) J₁)(hn:Ga op=true:=by exact rfl)(hd:B0 nt dst=true:=by exact rfl):TO E nt df B ops ({ dst:=dst,op:=op,type:=ty,pos:=pos,after:=after,guard:=none }::r) K ρ J:=X4 noR hn hd h k
theorem OM{ops r x dst}{ty:Nat}{pos after v}(h:Ah E ρ x=some v)
  (k:TO E nt df B ops r K (Dt dst v ρ) J)(hd:B0 nt dst=true:=by exact rfl):TO E nt df B ops ({ dst:=dst,op:=.move x,type:=ty,pos:=pos,after:=after,guard:=none }::r) K ρ J:=X4 noR rfl hd (Ag h) k
theorem OA{ops r x dst}{ty:Nat}{pos after v}(h:Ah E ρ x=some v)
  (k:TO E nt df B ops r K (Dt dst v ρ) J)(hd:B0 nt dst=true:=by exact rfl):TO E nt df B ops ({ dst:=dst,op:=.assign x,type:=ty,pos:=pos,after:=after,guard:=none }::r) K ρ J:=X4 noR rfl hd (Gd h) k
theorem Of{ops r o oj}{j d:Nat}{b b' want}(hgb:b=b')(k:TO E nt df B ops r K (Dt o.dst An ρ) J)(hg:o.guard=some (j,want):=by exact rfl)(hj:ops[j]? =some oj:=by exact rfl)(hdj:oj.dst=some d:=by exact rfl)(hb:Ad.at ρ d=some (.bool b):=by exact rfl)(hw:cond b' want (!want)=false:=by exact rfl)
  (hd:B0 nt o.dst=true:=by exact rfl):TO E nt df B ops (o::r) K ρ J:=Co hg hj hdj hb (by rw[hgb];exact hw) hd k
theorem On{ops r o oj v J₁}{j d:Nat}{b b' want}(hgb:b=b')(h:As E (fun _ _ _=>none) o.op ρ J v J₁)(k:TO E nt df B ops r K (Dt o.dst v ρ) J₁)(hg:o.guard=some (j,want):=by exact rfl)(hj:ops[j]? =some oj:=by exact rfl)(hdj:oj.dst=some d:=by exact rfl)(hb:Ad.at ρ d=some (.bool b):=by exact rfl)(hw:cond b' want (!want)=true:=by exact rfl)
  (hn:Ga o.op=true:=by exact rfl)(hd:B0 nt o.dst=true:=by exact rfl):TO E nt df B ops (o::r) K ρ J:=Bi hg hj hdj hb (by rw[hgb];exact hw) noR hn hd h k
theorem Ou{ops r o oj}{j d:Nat}{want}(k:TO E nt df B ops r K (Dt o.dst An ρ) J)(hg:o.guard=some (j,want):=by exact rfl)(hj:ops[j]? =some oj:=by exact rfl)(hdj:oj.dst=some d:=by exact rfl)(hb:Ad.at ρ d=some An:=by exact rfl)(hd:B0 nt o.dst=true:=by exact rfl):TO E nt df B ops (o::r) K ρ J:=Auf hg hj hdj hb hd k
theorem DF{Rr ops r Kd eps log op dst}{ty:Nat}{pos after v J₁}(h:As E Rr op ρ J v J₁)
  (k:TD E nt Rr ops r Kd (Dt dst v ρ) J eps ((ρ,v)::log))(he:B5 (Bc E op)=false:=by exact rfl)(hd:B0 nt dst=true:=by exact rfl):TD E nt Rr ops ({ dst:=dst,op:=op,type:=ty,pos:=pos,after:=after,guard:=none }::r) Kd ρ J eps log:=Amn (b:=false) he hd h k
theorem DT{Rr ops r Kd eps log op dst}{ty:Nat}{pos after v J₁}(h:As E Rr op ρ J v J₁)
  (k:TD E nt Rr ops r Kd (Dt dst v ρ) J₁ (J₁::eps) ((ρ,v)::log))(he:B5 (Bc E op)=true:=by exact rfl)(hd:B0 nt dst=true:=by exact rfl):TD E nt Rr ops ({ dst:=dst,op:=op,type:=ty,pos:=pos,after:=after,guard:=none }::r) Kd ρ J eps log:=Amn (b:=true) he hd h k
theorem B4{fn ρ' vs}{P:AV->Prop}(hw:WFS J)(hr:Us E ρ' J fn.results.toList=some vs)(h:P (Akq vs))(hu:AV.und (nx J) (Akq vs)=true:=by exact rfl):Agw E fn (nx J) (fun v U=>P v/\U=J) ρ' J:=
 ⟨vs,hr,Akq vs,J,a_ hw nl (fun _ _=>rfl),nl,.same hu,h,rfl⟩
theorem Dx{Rr ops r Kd eps log}{o oj:Oper}{j d:Nat}{b want}(hg:o.guard=some (j,want))(hj:ops[j]? =some oj)(hdj:oj.dst=some d)(hb:Ad.at ρ d=some (.bool b))(hw:cond b want (!want)=false)
  (k:TD E nt Rr ops r Kd (Dt o.dst An ρ) J eps ((ρ,An)::log))(he:B5 (Bc E o.op)=false:=by exact rfl)(hd:B0 nt o.dst=true:=by exact rfl):TD E nt Rr ops (o::r) Kd ρ J eps log:=Ta (e:=false) hg hj hdj hb hw he hd k
theorem Dn{Rr ops r Kd eps log}{o oj:Oper}{v J₁}{j d:Nat}{b want}(hg:o.guard=some (j,want))(hj:ops[j]? =some oj)(hdj:oj.dst=some d)(hb:Ad.at ρ d=some (.bool b))(hw:cond b want (!want)=true)
  (h:As E Rr o.op ρ J v J₁)(k:TD E nt Rr ops r Kd (Dt o.dst v ρ) J eps ((ρ,v)::log))(he:B5 (Bc E o.op)=false:=by exact rfl)(hd:B0 nt o.dst=true:=by exact rfl):TD E nt Rr ops (o::r) Kd ρ J eps log:=Qi (e:=false) hg hj hdj hb hw he hd h k
theorem Du{Rr ops r Kd eps log o oj}{j d:Nat}{want}(k:TD E nt Rr ops r Kd (Dt o.dst An ρ) J eps ((ρ,An)::log))(hg:o.guard=some (j,want):=by exact rfl)(hj:ops[j]? =some oj:=by exact rfl)(hdj:oj.dst=some d:=by exact rfl)(hb:Ad.at ρ d=some An:=by exact rfl)
  (he:B5 (Bc E o.op)=false:=by exact rfl)(hd:B0 nt o.dst=true:=by exact rfl):TD E nt Rr ops (o::r) Kd ρ J eps log:=Zy (e:=false) hg hj hdj hb he hd k
end
section
open Go Go.Proofs
instance:Se Ew:=⟨fun g cs h=>(by
 have h:glW g=some cs:=h;unfold glW at h
 split at h
 ·cases h;rfl
 ·cases h),rfl⟩
theorem Aj{f fn c args J Post}(hfn:Tryz.prog.funcs[f]? =some fn)(hc:fn.body=some c)(hle:Nat.ble args.length fn.ntmps=true)
  (h:WFS J->AV.unds (nx J) args=true->T Ew fn.ntmps [] (nx J) c (Aox (Agw Ew fn (nx J) Post)) (Hg args 0) J):Al Ew f args J Post:=
 Aw1 hfn (Ke f fn hfn) hc hle h
end
section
variable {E:Env}{nt B:Nat}{df:List (Nat×List AV)}{Q:Cc}{ρ:Ad}{J:Sto}
theorem Ard{id ops r x}{d ty:Nat}{pos after a ver m left cur}
  (ew:ops.toList={ dst:=some d,op:=.next x false,type:=ty,pos:=pos,after:=after,guard:=none }::r)(hd:Nat.blt d nt=true)
  (hx:Ah E ρ x=some (.it a))(hg:J.get a=some (.iter m ver left cur))(hv:Aga J m ver=true)
  (h0:left=[]->TO E nt df B ops.toList r (fun ρ J=>Q .normal ρ J) ((d,.tup [.bool false])::ρ) (J.set a (.iter m ver [] none)))
  (h1:∀p,p∈Ht left->TO E nt df B ops.toList r (fun ρ J=>Q .normal ρ J) ((d,.tup [.bool true,T2 p.1.1,p.1.2])::ρ) (J.set a (.iter m ver p.2 (some p.1)))):T E nt df B (.region id ops false) Q ρ J:=by
 intro ro n hn C w tm act ht st hB
 obtain⟨hn1,hn2⟩:=L1 (by rw[←ew];exact hn)
 have hX:=Be st.glob st.tmps x;rw[ht.opd hx]at hX
 have ho:ops[0]? =some { dst:=some d,op:=.next x false,type:=ty,pos:=pos,after:=after,guard:=none }:=by rw[←bw_,ew];rfl
 have hsz:ops.size=r.length+1:=by rw[←cd_,ew];rfl
 obtain⟨y,w₁,bq,cu,fh⟩:=Akx (P:=E.P) (ty:=ty) st.sim hX hg hv
 have my:(execOp act.eval { dst:=some d,op:=.next x false,type:=ty,pos:=pos,after:=after,guard:=none }).run E.P w=.ok (.value y) w₁:=by
  simp[execOp,bq]
 refine wpIn_region ?_;rw[hsz,dr_,cj_];simp only[wpOpsIn,ho]
 rw[if_pos (by unfold Region.wanted;rfl)]
 refine Ev hn1 ?_;unfold Oper.wp;rw[my,Oper.upon_value]
 have hr:∀j,j<r.length->r[j]? =ops[0+1+j]? :=fun j _=>by
  rw[←bw_,ew,show 0+1+j=j+1 by omega];rfl
 have fin:∀(v:AV) (left':List (Key×AV)) (cur':Option (Key×AV)),TO E nt df B ops.toList r (fun ρ J=>Q .normal ρ J) ((d,v)::ρ) (J.set a (.iter m ver left' cur'))->Sim E.P C w₁ (J.set a (.iter m ver left' cur'))->R C (nx J) w₁ v y->
   wpOpsIn (Cy ro) n E.P ops (Sd E nt df B Q C w) (List.range' (0+1) r.length) (act.put (some d) y) w₁:=by
  intro v left' cur' hto hs' hv'
  obtain⟨tm',htm,ck⟩:=C6 (nt:=nt) (dst:=some d) (by exact hd) ht v
  have i7:Ext C (nx J) w C (nx (J.set a (.iter m ver left' cur'))) w₁:=by rw[Aq];exact cu
  have st':=st.put (x:=y) hs' i7 (by rw[Aq];exact hv') htm
  have:=hto ro n hn2 C w₁ tm' _ ck st' (by rw[Aq];exact hB) ops (0+1) (Sd E nt df B Q C w) [] rfl hr fun C' w' a' tm'' ρ' J' q1 q2 q3 q4 q5=>
   ⟨.normal,tm'',ρ',J',C',rfl,q1,q2,q3,q4,(i7.base hB).trans q5⟩
  rwa[bh_]at this
 rcases fh with⟨h,hs',hv'⟩|⟨p,hp,hs',hv'⟩
 ·exact fin _ _ _ (h0 h) hs' hv'
 ·exact fin _ _ _ (h1 p hp) hs' hv'
variable {Rr:Rec}
theorem Air{t r kt kt' sz ver agg z x es}(hi:mpI E.P t=some (kt',z,sz,agg))(hx:Ah E ρ x=some (.mp r))(hm:J.get r=some (.map kt es ver)):
  As E Rr (.range t x) ρ J (.it (nx J)) (J.new (.iter (some r) ver es none)):=fun tm h=>by
 obtain⟨ti,et,h1,h2⟩:=Aq8 hi;simp only[opA,Aw,h1,h2,h.opd hx,Af5,hm]
theorem Ais{x a r ver kt left es k v}(hx:Ah E ρ x=some (.it a))(hg:J.get a=some (.iter (some r) ver left (some (k,v))))(hm:J.get r=some (.map kt es ver)):
  As E Rr (.entry x) ρ J (.tup [T2 k,v]) J:=fun tm h=>by
 simp only[opA,Aw,h.opd hx,Aaf,hg,hm,aw_,cond_true]
end
theorem Tc{α enc}:∀{m:SM α} {p:(Key×AV)×List (Key×AV)},p∈Ht (Cn enc m)->∃q,q∈Ht m/\p=((kS q.1.1,enc q.1.2),Cn enc q.2)
 |[],p,h=>by simp[Cn,Ht]at h
 |x::m,p,h=>by
  simp only[Cn,cn_,Ht,an_,bt_]at h
  rcases h with rfl|⟨y,hy,rfl⟩
  ·exact⟨(x,m),by simp[Ht],rfl⟩
  ·obtain⟨q,h1,rfl⟩:=Tc (m:=m) hy
   exact⟨(q.1,x::q.2),by simp only[Ht,an_,bt_];exact .inr ⟨q,h1,rfl⟩,rfl⟩
theorem Rp{α}:∀{l:List α} {p:α×List α},p∈Ht l->p.1∈l/\(∀x,x∈l↔x=p.1∨x∈p.2)/\p.2.length+1=l.length
 |[],p,h=>by simp[Ht]at h
 |x::m,p,h=>by
  simp only[Ht,an_,bt_]at h
  rcases h with rfl|⟨q,hq,rfl⟩
  ·exact⟨ap_ ..,fun y=>an_,rfl⟩
  ·obtain⟨h1,h2,h3⟩:=Rp hq
   refine⟨aj_ _ h1,fun y=>?_,by simp only[as_];omega⟩
   simp only[an_,h2]
   constructor
   ·rintro(h|h|h)
    ·exact .inr (.inl h)
    ·exact .inl h
    ·exact .inr (.inr h)
   ·rintro(h|h|h)
    ·exact .inr (.inl h)
    ·exact .inl h
    ·exact .inr (.inr h)
theorem Ey {a b x y} : C8 (a :: x) (b :: y) = true ↔ a < b ∨ (a = b /\ C8 x y = true) := by
  simp only [C8];cases h : Nat.blt a b with
  | true => simp only [cond_true,true_iff]; exact .inl (by simpa [Nat.blt_eq] using h)
  | false =>
    have h' : ¬ a < b := fun hh => by rw [show Nat.blt a b = true from by rw [Nat.blt_eq]; exact hh] at h; cases h
    cases h2 : Nat.beq a b with
    | true => have := ac_ h2; subst this; simp
    | false => have : a ≠ b := fun hh => by subst hh; rw [aw_] at h2; cases h2
               simp only [cond_false,bp_,false_iff]; rintro (hh | ⟨hh,_⟩) <;> contradiction
theorem Abq : ∀ a : List Nat,C8 a a = false
  | [] => rfl
  | x :: a => by
    cases h : C8 (x :: a) (x :: a) with
    | false => rfl
    | true => rcases Ey.1 h with h | ⟨_,h⟩
              · omega
              · rw [Abq a] at h; cases h
theorem Uw : ∀ {a b c : List Nat},C8 a b = true -> C8 b c = true -> C8 a c = true
 | a,b,[],_,h2 => by cases b <;> simp [C8] at h2
 | a,[],c :: z,h1,_ => by cases a <;> simp [C8] at h1
 | [],_ :: _,_ :: _,_,_ => rfl
 | a :: x,b :: y,c :: z,h1,h2 => by
  rcases Ey.1 h1 with g1 | ⟨g0,g1⟩ <;> rcases Ey.1 h2 with g2 | ⟨g3,g2⟩
  ·exact Ey.2 (.inl Om)
  ·exact Ey.2 (.inl Om)
  ·exact Ey.2 (.inl Om)
  ·exact Ey.2 (.inr ⟨by omega,Uw g1 g2⟩)
theorem Abr:∀{a b:List Nat},C8 a b=false->C8 b a=false->a=b
 |[],[],_,_=>rfl
 |[],_::_,h,_=>by simp[C8]at h
 |_::_,[],_,h=>by simp[C8]at h
 |a::x,b::y,h1,h2=>by
  have g1:¬(a<b∨(a=b/\C8 x y=true)):=fun hh=>by rw[Ey.2 hh]at h1;cases h1
  have g2:¬(b<a∨(b=a/\C8 y x=true)):=fun hh=>by rw[Ey.2 hh]at h2;cases h2
  have e:a=b:=by omega
  subst e;rw[Abr (bz_.2 fun hh=>g1 (.inr ⟨rfl,hh⟩)) (bz_.2 fun hh=>g2 (.inr ⟨rfl,hh⟩))]
theorem Av6(a b):Key.lt (kS a) (kS b)=ltS a b:=rfl
theorem Ag2(a):ltS a a=false:=Abq _
theorem Ae0{a b c}(h:ltS a b=true)(k:ltS b c=true):ltS a c=true:=Uw h k
theorem Amu{a b}(h:ltS a b=false)(k:ltS b a=false):a=b:=Fu.1 (Abr h k)
section
variable {α:Type}
def SM.Srt(m:SM α):Prop:=m.Pairwise fun p q=>ltS p.1 q.1=true
theorem SM.Srt.nil:SM.Srt ([]:SM α):=List.Pairwise.nil
theorem SM.get_none_of{m:SM α}{s}(h:∀p∈m,p.1≠s):m.get s=none:=by
 induction m with
 |nil=>rfl
 |cons p m ih=>
  obtain⟨k,v⟩:=p;simp only[SM.get];rw[if_neg (fun hh=>h (k,v) (ap_ ..) hh.symm)]
  exact ih fun q hq=>h q (aj_ _ hq)
theorem SM.Srt.head{k v}{m:SM α}(h:SM.Srt ((k,v)::m)){s}(hs:ltS k s=false)(hne:s≠k):SM.get ((k,v)::m) s=none:=by
 refine SM.get_none_of fun p hp hh=>?_
 rcases an_.1 hp with rfl|hp
 ·exact hne hh.symm
 ·have:=(bq_.1 h).1 p hp;rw[hh]at this;rw[this]at hs;cases hs
theorem SM.Srt.ext:∀{m n:SM α},SM.Srt m->SM.Srt n->(∀s,m.get s=n.get s)->m=n
 |[],[],_,_,_=>rfl
 |[],(k,v)::n,_,_,h=>by have:=h k;simp[SM.get]at this
 |(k,v)::m,[],_,_,h=>by have:=h k;simp[SM.get]at this
 |(k,v)::m,(k',v')::n,hm,hn,h=>by
  have e:k=k':=by
   by_cases hk:k=k'
   ·exact hk
   ·cases h1:ltS k k' with
    |false=>
     cases h2:ltS k' k with
     |false=>exact Amu h1 h2
     |true=>
      have:=h k';rw[hm.head h1 (gx_ hk)]at this
      simp[SM.get]at this
    |true=>
     have h2:ltS k' k=false:=bz_.2 fun hh=>by have:=Ae0 h1 hh;rw[Ag2]at this;cases this
     have:=h k;rw[hn.head h2 hk]at this
     simp[SM.get]at this
  subst e
  have e2:v=v':=by have:=h k;simpa[SM.get]using this
  subst e2
  have:=SM.Srt.ext (bq_.1 hm).2 (bq_.1 hn).2 fun s=>by
   by_cases hs:s=k
   ·subst hs
    have g:∀{q:SM α},SM.Srt ((s,v)::q)->q.get s=none:=fun hq=>SM.get_none_of fun p hp hh=>by
     have:=(bq_.1 hq).1 p hp;rw[hh,Ag2]at this;cases this
    rw[g hm,g hn]
   ·have:=h s;simp only[SM.get,if_neg hs]at this;exact this
  rw[this]
theorem SM.Srt.set:∀{m:SM α} {s:Str} {x:α},SM.Srt m->SM.Srt (m.set s x)
 |[],_,_,_=>List.Pairwise.nil
 |(k,v)::m,s,x,h=>by
  have mem:∀{m:SM α} {p:Str×α},p∈m.set s x->∃q∈m,q.1=p.1:=by
   intro m
   induction m with
   |nil=>intro p hp;cases hp
   |cons r m ih=>
    intro p hp;obtain⟨k,v⟩:=r;simp only[SM.set]at hp
    split at hp
    ·rcases an_.1 hp with rfl|hp
     ·exact⟨_,ap_ ..,rfl⟩
     ·exact⟨p,aj_ _ hp,rfl⟩
    ·rcases an_.1 hp with rfl|hp
     ·exact⟨_,ap_ ..,rfl⟩
     ·obtain⟨q,h1,h2⟩:=ih hp;exact⟨q,aj_ _ h1,h2⟩
  simp only[SM.set]
  split
  ·exact bq_.2 ⟨fun p hp=>(bq_.1 h).1 p hp,(bq_.1 h).2⟩
  ·refine bq_.2 ⟨fun p hp=>?_,SM.Srt.set (bq_.1 h).2⟩
   obtain⟨q,h1,h2⟩:=mem hp;rw[←h2];exact(bq_.1 h).1 q h1
theorem SM.Srt.ins:∀{m:SM α} {s:Str} {x:α},SM.Srt m->m.get s=none->SM.Srt (m.ins s x)
 |[],_,_,_,_=>List.pairwise_singleton _ _
 |(k,v)::m,s,x,h,hn=>by
  have mem:∀{m:SM α} {p:Str×α},p∈m.ins s x->p=(s,x)∨p∈m:=by
   intro m
   induction m with
   |nil=>intro p hp;exact .inl (ao_.1 hp)
   |cons r m ih=>
    intro p hp;obtain⟨k,v⟩:=r;simp only[SM.ins]at hp
    split at hp
    ·rcases an_.1 hp with rfl|hp
     ·exact .inl rfl
     ·exact .inr hp
    ·rcases an_.1 hp with rfl|hp
     ·exact .inr (ap_ ..)
     ·exact(ih hp).imp id (aj_ _)
  have hne:s≠k:=fun hh=>by subst hh;simp[SM.get]at hn
  cases hl:ltS s k with
  |true=>
   have e:SM.ins ((k,v)::m) s x=(s,x)::(k,v)::m:=by simp only[SM.ins,Av6,hl,if_true]
   rw[e];refine bq_.2 ⟨fun p hp=>?_,h⟩
   rcases an_.1 hp with rfl|hp
   ·exact hl
   ·exact Ae0 hl ((bq_.1 h).1 p hp)
  |false=>
   have e:SM.ins ((k,v)::m) s x=(k,v)::SM.ins m s x:=by simp[SM.ins,Av6,hl]
   rw[e]
   have hk:ltS k s=true:=by
    cases hh:ltS k s with
    |true=>rfl
    |false=>exact absurd (Amu hl hh) hne
   refine bq_.2 ⟨fun p hp=>?_,SM.Srt.ins (bq_.1 h).2 (by simpa[SM.get,hne]using hn)⟩
   rcases mem hp with rfl|hp
   ·exact hk
   ·exact(bq_.1 h).1 p hp
theorem SM.Srt.put{m s}{x:α}(h:SM.Srt m):SM.Srt (m.put s x):=by
 unfold SM.put
 split
 ·exact h.set
 ·rename_i hn;exact h.ins hn
def SM.over(n m:SM α):SM α:=n.foldl (fun m p=>m.put p.1 p.2) m
theorem SM.Srt.over:∀{n m:SM α},SM.Srt m->SM.Srt (SM.over n m)
 |[],_,h=>h
 |p::n,m,h=>SM.Srt.over (n:=n) (m:=m.put p.1 p.2) h.put
def SM.Key1(m:SM α):Prop:=m.Pairwise fun p q=>p.1≠q.1
theorem SM.Srt.key1{m:SM α}(h:SM.Srt m):SM.Key1 m:=h.imp fun{p q} hh=>fun e=>by rw[e,Ag2]at hh;cases hh
theorem SM.get_over:∀{n m:SM α} {s:Str},SM.Key1 n->(SM.over n m).get s=(n.get s).or (m.get s)
 |[],_,_,_=>by simp[SM.over,SM.get]
 |(k,v)::n,m,s,h=>by
  have ih:=SM.get_over (n:=n) (m:=m.put k v) (s:=s) (bq_.1 h).2
  show(SM.over n (m.put k v)).get s=_
  rw[ih,ch_];simp only[SM.get]
  by_cases hs:s=k
  ·subst hs;rw[SM.get_none_of fun p hp hh=>(bq_.1 h).1 p hp hh.symm];simp
  ·simp[hs]
theorem Abs:∀{m:SM α} {p:(Str×α)×SM α},SM.Key1 m->p∈Ht m->SM.Key1 p.2/\p.2.get p.1.1=none/\∀s,m.get s=if s=p.1.1 then some p.1.2 else p.2.get s
 |[],p,_,h=>by simp[Ht]at h
 |(k,v)::m,p,hk,h=>by
  simp only[Ht,an_,bt_]at h;obtain⟨h1,h2⟩:=bq_.1 hk
  rcases h with rfl|⟨q,hq,rfl⟩
  ·exact⟨h2,SM.get_none_of fun p hp hh=>h1 p hp hh.symm,fun s=>rfl⟩
  ·obtain⟨g1,g2,g3⟩:=Abs h2 hq;obtain⟨m1,m2,_⟩:=Rp hq;have hne:k≠q.1.1:=h1 q.1 m1;refine⟨bq_.2 ⟨fun p hp=>h1 p ((m2 p).2 (.inr hp)),g1⟩,?_,fun s=>?_⟩
   ·simp only[SM.get];rw[if_neg (gx_ hne)];exact g2
   ·simp only[SM.get,g3 s]
    by_cases hs:s=k
    ·subst hs;simp[hne]
    ·simp[hs]
end
end Go.AM
namespace Go.AM
open Go
def ItV(J:Sto):Prop:=∀c r ver left cur,J.get c=some (.iter (some r) ver left cur)->∀kt es ver',J.get r=some (.map kt es ver')->ver<=ver'
theorem Sim.itv{P C w J}(h:Sim P C w J):ItV J:=fun c r ver left cur hg kt es ver' hr=>by
 have ho:=h.obj c _ hg;obtain⟨_,_,_,_,_,_,_,_,k3⟩:=ho;exact(k3 _ _ _ hr).1
theorem T_itv{E nt B df Q ρ J c}(h:ItV J->T E nt df B c Q ρ J):T E nt df B c Q ρ J:=fun ro n hn C w tm a ht st hB=>h st.sim.itv ro n hn C w tm a ht st hB
theorem WFS.setMap{J}(hw:WFS J)(hi:ItV J){r kt ver ver' es es'}(hm:J.get r=some (.map kt es ver))(hu:Jc (nx J) es'=true)(hv:ver<ver'∨(ver'=ver/\es'=es)):WFS (J.set r (.map kt es' ver')):=by
 intro a O hg;rw[aa_]at hg;rw[Aq]
 split at hg
 ·rename_i ha;cases hg;subst ha;exact⟨(hw _ _ hm).1,hu,trivial⟩
 ·obtain⟨h1,h2,h3⟩:=hw a O hg;refine⟨h1,h2,?_⟩;cases O with
  |iter m v left cur=>
   cases m with
   |none=>trivial
   |some q=>
    intro kt2 es2 hr;rw[aa_]at hr
    split at hr
    ·rename_i hq
     subst hq
     rcases hv with hv|⟨rfl,rfl⟩
     ·have:=hi a q v left cur hg _ _ _ hm;cases hr;omega
     ·cases hr;rw[Aq];exact h3 _ _ hm
    ·rw[Aq];exact h3 _ _ hr
  |cells _=>trivial
  |map _ _ _=>trivial
  |stamp _ _ _=>trivial
  |loop _=>trivial
theorem Ds.setMap{J U}(hw:WFS J)(hi:ItV J){r kt ver ver' es es'}(hm:J.get r=some (.map kt es ver))(hu:Jc (nx J) es'=true)(hv:ver<ver'∨(ver'=ver/\es'=es))
  (hn:nx J<=nx U)(hg:∀c,c<nx J->c≠r->U.get c=J.get c)(hr:U.get r=some (.map kt es' ver')):Ds U (J.set r (.map kt es' ver')):=by
 refine a_ (hw.setMap hi hm hu hv) (by rw[Aq];exact hn) fun c hc=>?_
 rw[Aq]at hc;rw[aa_]
 split
 ·rename_i h;subst h;exact hr
 ·rename_i h;exact hg c hc (by intro hh;exact h Om)
theorem Ag3(s):Key.eq (kS s) (kS s)=true:=by rw[Abl];simp
theorem Ae1{k}(hk:Key.eq k k=true){v z}:∀{es:List (Key×AV)},D5 k es=none->Ph k v (Nx k z es)=Nx k v es
 |[],_=>by
  simp only[Nx,Ph,hk,cond_true]
 |(k',v')::r,h=>by
  simp only[D5]at h;cases h1:Key.eq k k' with
  |true=>rw[h1]at h;cases h
  |false=>
   rw[h1]at h;simp only[Nx];cases h2:Key.lt k k' with
   |true=>simp only[cond_true,Ph,hk]
   |false=>simp only[cond_false,Ph,h1];rw[Ae1 hk h]
section
variable {E:Env}{ρ:Ad}{J:Sto}{Rr:Rec}{t ty n r a:Nat}{x y w:Operand}{α:Type}{enc:α->AV}{m:SM α}{s:Str}
def Td(enc:α->AV)(z:AV)(m:SM α)(s:Str):List (Key×AV):=match m.get s with|some _=>Cn enc m|none=>Nx (kS s) z (Cn enc m)
theorem Ait{z sz ver agg}(h9:Fs E.P 9=true)(hi:mpI E.P t=some (9,z,sz,agg))(hx:Ah E ρ x=some (.mp r))(hm:J.get r=some (.map 9 (Cn enc m) ver))(hy:Ah E ρ y=some (sV s)):
  As E Rr (.mapEntry t x y) ρ J (.tup [((m.get s).map enc).getD z,.stp (nx J)]) ((J.set r (.map 9 (Td enc z m s) (ver+1))).new (.stamp r (ver+1) (kS s))):=fun tm h=>by
 obtain⟨ti,et,te,h1,h2,h3,h4,h5,h6⟩:=Abe hi;simp only[opA,Aw,h1,h2,h3,h4,h.opd hx,h.opd hy,keyS h9,Q8,hm,aw_,Ak,Ih,Td];cases m.get s<;>rfl
theorem Ad1{z sz ver agg v}(hi:mpI E.P t=some (9,z,sz,agg))(hx:Ah E ρ x=some (.mp r))(hy:Ah E ρ y=some (.stp a))(hw:Ah E ρ w=some (enc v))(hf:∀te:TI,te.size=sz->te.isAgg=agg->Je te (enc v)=true)
  (ha:J.get a=some (.stamp r ver (kS s)))(hm:J.get r=some (.map 9 (Td enc z m s) ver)):As E Rr (.entryStore t x y w) ρ J An (J.set r (.map 9 (Cn enc (m.put s v)) (ver+1))):=fun tm h=>by
 obtain⟨ti,et,te,h1,h2,h3,h4,h5,h6⟩:=Abe hi
 have e1:∃u,D5 (kS s) (Td enc z m s)=some u:=by
  unfold Td
  split
  ·rename_i u hu;rw[Ih,hu];exact⟨_,rfl⟩
  ·rename_i hu
   have:∀es,D5 (kS s) (Nx (kS s) z es)=some z∨∃u,D5 (kS s) es=some u:=by
    intro es
    induction es with
    |nil=>left;simp[Nx,D5,Ag3]
    |cons p r ih=>
     obtain⟨k',v'⟩:=p;simp only[Nx];cases h2:Key.lt (kS s) k' with
     |true=>left;simp[D5,Ag3]
     |false=>
      simp only[cond_false,D5];cases h1:Key.eq (kS s) k' with
      |true=>exact .inr ⟨v',rfl⟩
      |false=>exact ih
   rcases this (Cn enc m)with h|⟨u,h⟩
   ·exact⟨_,h⟩
   ·rw[Ih,hu]at h;cases h
 have e2:Ph (kS s) (enc v) (Td enc z m s)=Cn enc (m.put s v):=by
  unfold Td SM.put
  split
  ·rename_i u hu;rw[Abm];try rw[hu]
  ·rename_i hu;rw[Ae1 (Ag3 s) (by rw[Ih,hu];rfl),Abn];try rw[hu]
 obtain⟨u,e1⟩:=e1;simp only[opA,Aw,h1,h2,h3,h.opd hx,h.opd hy,h.opd hw,Mf,ha,hm,aw_,hf te h5 h6,be_,Ak,e1,e2]
theorem G0{parts z cs sz len agg ps}(hz:(match Ay E.P t with|some ti=>ti.zero|none=>none)=some z)(hi:arI E.P t=some (len,sz,agg))
  (hp:W3 E ρ sz parts.toList=some ps)(hf:Si z ps=some cs):As E Rr (.build t parts) ρ J (.agg cs) J:=fun tm h=>by
 unfold arI at hi
 split at hi
 ·rename_i ti hti
  rw[hti]at hz;simp only at hz
  split at hi
  ·rename_i nn e he
   split at hi
   ·rename_i te hte
    simp only[af_,ba_]at hi;obtain⟨k1,k2,k3⟩:=hi;subst k1 k2;simp only[opA,Aw,hti,hz,he,hte,Abk h hp,M2,hf]
   ·cases hi
  ·cases hi
 ·cases hi
theorem Ao4{sz m agg k cs v}(hi:arI E.P t=some (m,sz,agg))(hx:Ah E ρ x=some (.agg cs))(hy:Ah E ρ y=some (.int k (.ofNat n)))
  (hn:n<m)(hv:Cz sz agg (cs.drop (n*sz))=some v):As E Rr (.index t x y) ρ J v J:=fun tm h=>by
 unfold arI at hi
 split at hi
 ·rename_i ti hti
  split at hi
  ·rename_i nn e he
   split at hi
   ·rename_i te hte
    simp only[af_,ba_]at hi;obtain⟨k1,k2,k3⟩:=hi;subst k1 k2 k3
    have hb:Nat.blt n nn=true:=by simpa using hn
    simp only[opA,Aw,hti,he,hte,h.opd hx,h.opd hy,Le,hb,cond_true,Ml,hv]
   ·cases hi
  ·cases hi
 ·cases hi
end
section
variable {E:Env}{nt B:Nat}{Q Q':Cc}{ρ ρ':Ad}{J J':Sto}
end
def Amv:List Nat->List AV->Ad->Ad
 |p::ps,x::xs,ρ=>Amv ps xs ((p,x)::ρ)
 |_,_,ρ=>ρ
theorem Qk{C N w nt}:∀{ps:List Nat} {args:List AV} {vs:List Value} {tm:Tr AV} {ρ:Ad} {tmps:Array Value},args.length=ps.length->ps.all (fun p=>Nat.blt p nt)=true->Has tm ρ->TR C N w tm tmps->tmps.size=nt->RL C N w args vs->
  vs.length=ps.length/\∃tm',Has tm' (Amv ps args ρ)/\TR C N w tm' ((ps.zip vs).foldl (fun tmps (t,a)=>tmps.setIfInBounds t a) tmps)/\((ps.zip vs).foldl (fun tmps (t,a)=>tmps.setIfInBounds t a) tmps).size=nt
 |[],[],[],tm,ρ,tmps,_,_,ht,hT,hs,_=>⟨rfl,tm,ht,hT,hs⟩
 |[],[],_::_,_,_,_,_,_,_,_,_,h=>by unfold RL at h;exact h.elim
 |[],_::_,_,_,_,_,h,_,_,_,_,_=>by cases h
 |_::_,[],_,_,_,_,h,_,_,_,_,_=>by cases h
 |_::_,_::_,[],_,_,_,_,_,_,_,_,h=>by unfold RL at h;exact h.elim
 |p::ps,x::xs,v::vs,tm,ρ,tmps,hl,hb,ht,hT,hs,hr=>by
  unfold RL at hr;simp only[cs_,ad_]at hb;obtain⟨tm1,h1,h2⟩:=C6 (nt:=nt) (dst:=some p) hb.1 ht x;obtain⟨k1,k2,_⟩:=TR.put (a:={ tmps:=tmps,defers:=[] }) hT hs h1 hr.1
  have pz:(({ tmps:=tmps,defers:=[] }:Act).put (some p) v).tmps=tmps.setIfInBounds p v:=by simp[Act.put]
  rw[pz]at k1 k2
  obtain⟨q1,tm',q2,q3,q4⟩:=Qk (by simpa using hl) hb.2 h2 k1 k2 hr.2
  exact⟨by simp[q1],tm',q2,q3,q4⟩
section
variable {E:Env}{L:RF}{nt B:Nat}{Q Q':Cc}{ρ ρ':Ad}{J J':Sto}
variable {K:Ad->Sto->Prop}{ops r:List Oper}
end
section
variable {E:Env}{L:RF}{nt B:Nat}{ρ:Ad}{J:Sto}{K:Ad->Sto->Prop}
end
theorem Aw7{E}(hm:E.P.follows .mixedOrders=true){Rr}(hR:Bk E Rr){ops s d C w a}(st:SSt E C w s a)
  (c1:Eu ops (Region.before ops).toList=true)(c2:Fo ops=true)(c3:Mg (Region.before ops).toList (A8 E ops.toList 0)=true)(hd:T9 E ops.toList Rr ops.toList ⟨s,[s.sto],[]⟩=some d)
  (hb:∀(j:Nat) (o:Oper) (t:Tr AV) (v:AV),ops[j]? =some o->d.log.reverse[j]? =some (t,v)->Bc E o.op=.read->Agn E ops.toList o t v
   ((d.eps.reverse.drop (Bl (fun e=>((Region.before ops).getD j 0).testBit e) (A8 E ops.toList 0))).take (Bl (fun e=> !((Region.before ops).getD e 0).testBit j) (A8 E ops.toList 0)+1-Bl (fun e=>((Region.before ops).getD j 0).testBit e) (A8 E ops.toList 0)))){ro n Q}(hQ:∀a' w',Aej E C (nx s.sto) w [(.normal,d.s)] .normal a' w'->Q .normal a' w'):
  wpAnyIn (Cy ro) n E.P .any ops Q ops.size (Array.replicate ops.size false) a { w with drawn:=w.drawn+1 }:=by
 obtain⟨log,eps,lex,k2,k3,k4,k5⟩:=Lz hd;simp only[dy_,bd_,d_]at k2 k3;obtain⟨x1,x2,x3,x4,x5⟩:=Wq lex
 have bl:ops.toList.length=ops.size:=by simp
 have hT:∀k,k<ops.size->∃o,ops[k]? =some o/\Ka o.dst (((log.map (·.1)++[d.s.tm])[k]?).getD .e) s.nt (((log[k]?).map (·.2)).getD .any)=some (((log.map (·.1)++[d.s.tm])[k+1]?).getD .e):=by
  intro k hk
  have ho:ops.toList[k]? =some ops[k]:=by simp[hk]
  grind
 have lx:Aer E ops Rr s.nt s.tm (A8 E ops.toList 0) (fun k=>((log.map (·.1)++[d.s.tm])[k]?).getD .e) (fun k=>((log[k]?).map (·.2)).getD .any) (s.sto::eps):=by
  refine⟨c1,rfl,by simp only[as_,x2,Nj ops.toList 0],c3,fun j o ho=>?_,fun j hj t=>?_,fun j o ho hc=>?_⟩
  ·obtain⟨t,v,t₁,σk,J₁,y1,y2,y3,y4,y5,y6⟩:=x5 j o gr
   grind
  ·exact Ni (n:=ops.size) gr hT j hj t
  grind
 obtain⟨t1,t2⟩:=st.sim.same (w':={ w with drawn:=w.drawn+1 }) nl (fun _ _=>rfl) ⟨rfl,rfl⟩
 have cz:∀i,(Array.replicate ops.size false).getD i false=false:=fun i=>by
  rw[bo_,Array.getElem?_replicate];grind
 refine Wt (C₀:=C) (N₀:=nx s.sto) (w₀:=w) (df:=s.df) hR lx c2 (fun L m J C' w' a' iv bs=>?_) ops.size _ 0 s.sto C _ a (by simp) (Ri cz) ?_
 ·obtain⟨z1,z2⟩:=iv.last lx bs
  have hσ:J=d.s.sto:=by
   rw[←Nj,←x2,x4]at z1;grind
  subst hσ;refine hQ _ _ ⟨(.normal,d.s),ev_ _,C',rfl,?_,iv.ext⟩;have hTn:((log.map (·.1)++[d.s.tm])[ops.size]?).getD .e=d.s.tm:=gr;simp only[hTn]at z2
  exact⟨z2.sim,z2.glob,z2.tmps,by rw[k4];exact z2.size,by rw[k5];exact z2.dfs⟩
 ·refine⟨fun j hj=>?_,fun k e _=>?_,rfl,t1,st.glob.ext t2,fun t x hx=>?_,st.size,st.dfs.ext t2,t2⟩
  ·grind
  ·grind
  ·refine R.ext t2 _ _ (st.tmps t x ?_);rw[←hx,He (k:=0) (aq_ _) fun i _ _ _=>cz i];rfl
theorem Arg{α:Type}{l:List α}{i}(h:i<l.length):∃a,l[i]? =some a:=⟨_,az_ h⟩
def Qm:Nat->List (List Bool)
 |0=>[[]]
 |n+1=>(Qm n).flatMap fun l=>[false::l,true::l]
theorem Abw:∀l:List Bool,l∈Qm l.length
 |[]=>by simp[Qm]
 |b::l=>by
  have:=Abw l;simp only[as_,Qm,List.mem_flatMap]
  exact⟨l,this,by cases b<;>simp⟩
def Dq(ops:List Oper):List Bool:=ops.map fun _=>false
def Jp(ops:List Oper):List Bool:=ops.map fun _=>true
def Aiu(ops:List Oper)(l:List Bool):Bool:=(List.range ops.length).all fun i=> !(l[i]?).getD false||(match ops[i]? with|some o=>o.after.all fun e=> !Region.binds .any e||(l[e.on]?).getD false|none=>true)
def Alb(ops1 ops2:List Oper)(l:List Bool):Bool:=
 l.all id||((!(Region.ready .any ops1.toArray l.toArray).isEmpty)&&decide (Region.ready .any (ops1++ops2).toArray (l++Dq ops2).toArray=Region.ready .any ops1.toArray l.toArray)&&(Region.ready .any ops1.toArray l.toArray).all fun i=>Aiu ops1 (l.set i true))
def X8(ops2:List Oper)(j:Nat):List Bool:=List.replicate j true++List.replicate (ops2.length-j) false
def K6(ops1 ops2:List Oper):Bool:=
 ((ops1++ops2).all fun o=>o.guard.isNone)&&Aiu ops1 (Dq ops1)&&((Qm ops1.length).all fun l=> !Aiu ops1 l||Alb ops1 ops2 l)
  &&((List.range (ops2.length+1)).all fun j=>decide (Region.ready .any (ops1++ops2).toArray (Jp ops1++X8 ops2 j).toArray=if j<ops2.length then[ops1.length+j]else[]))
theorem Ao8{F n P}{o:Oper}{a w K K' Q Q'}(h:∀a w,K a w->K' a w)(hq:∀e a w,e≠.normal->Q e a w->Q' e a w)
  (hh:o.wpIn F n P a w K Q):o.wpIn F n P a w K' Q':=by
 have hL:LetsOut Q->LetsOut Q':=fun⟨a,w,h⟩=>⟨a,w,hq _ _ _ gr h⟩
 unfold Oper.wpIn at *;refine⟨hh.1,?_⟩;have hh:=hh.2
 generalize (o.semAt F.round a.eval).run P w=r at *
 cases r with
 |ok x w'=>
  cases x<;>simp only[Oper.uponIn]at hh⊢<;>
   first
    |exact h _ _ hh
    |exact⟨hh.1,CallsIn.mono hh.2 gr⟩
    |exact⟨hh.1,RowsIn.mono hh.2 (fun _ _ he=>h _ _ he)⟩
    |exact⟨hh.1,RoundIn.mono hh.2 gr⟩
    |exact hh
 |halt x w'=>cases x<;>simp only[Oper.uponIn]at hh⊢<;>first|exact hh.elim|exact hq _ _ _ gr hh|exact hh
section
variable {F:Fence}{n:Nat}{P:Program}{ops1 ops2:List Oper}{Q Q1:Exit->Act->World->Prop}
theorem Ao9{ops:List Oper}{l:List Bool}{i}(h:i∈Region.ready .any ops.toArray l.toArray):i<ops.length/\∃o,ops[i]? =some o:=by
 unfold Region.ready at h
 grind
theorem Alc(hok:K6 ops1 ops2=true)(hn:∀a w,Q1 .normal a w->wpAnyIn F n P .any (ops1++ops2).toArray Q ops2.length (Jp ops1++Dq ops2).toArray a w)(hx:∀e a w,e≠.normal->Q1 e a w->Q e a w):
  ∀(k:Nat) (l:List Bool) (a:Act) (w:World),l.length=ops1.length->Aiu ops1 l=true->(l.filter (!·)).length=k->wpAnyIn F n P .any ops1.toArray Q1 k l.toArray a w->wpAnyIn F n P .any (ops1++ops2).toArray Q (k+ops2.length) (l++Dq ops2).toArray a w:=by
 unfold K6 at hok;simp only[ad_]at hok;obtain⟨⟨⟨hg,_⟩,hs⟩,_⟩:=hok;intro k
 induction k with
 |zero=>
  intro l a w hl hc hk h
  have bs:l=Jp ops1:=by
   refine List.ext_getElem? fun i=>?_
   unfold Jp;rw[br_]
   by_cases hi:i<l.length
   ·obtain⟨b,hb⟩:=Arg hi
    obtain⟨o,ho⟩:=Arg (show i<ops1.length by omega)
    rw[hb,ho];have:l.filter (!·)=[]:=ey_.1 hk;rw[List.filter_eq_nil_iff]at this;have:=this b (ab_ hb)
    grind
   grind
  subst bs;rw[bn_];exact hn a w h.2
 |succ k ih=>
  intro l a w hl hc hk h
  have hst:=b_.1 hs l (by rw[←hl];exact Abw l)
  rw[hc]at hst;simp only[Bool.not_true,Bool.false_or]at hst;unfold Alb at hst
  have hna:l.all id=false:=by
   cases hb:l.all id with
   |false=>rfl
   |true=>
    rw[b_]at hb;have:l.filter (!·)=[]:=List.filter_eq_nil_iff.2 gr;rw[this]at hk;cases hk
  rw[hna]at hst;simp only[Bool.false_or,ad_,bi_,decide_eq_true_eq,b_]at hst;obtain⟨⟨s1,s2⟩,s3⟩:=hst;rw[Nat.succ_add];obtain⟨_,h1⟩:=h;refine⟨fun he=>?_,fun i hi=>?_⟩
  ·grind
  ·rw[s2]at hi;obtain⟨hil,o,ho⟩:=Ao9 hi;have h2:=h1 i hi
   have hgo:o.guard=none:=by
    have:=b_.1 hg o (dg_ _ (ab_ ho))
    simpa using this
   have hwa:∀y,Region.wanted o y=true:=fun y=>by unfold Region.wanted;rw[hgo]
   have hlf:l[i]? =some false:=by
    unfold Region.ready at hi;have:=(cp_.1 hi).2
    obtain⟨b,hb⟩:=Arg (show i<l.length by omega)
    simp only[ad_,bi_]at this;have:=this.1;rw[hb];rw[bo_,List.getElem?_toArray,hb]at this
    grind
   unfold wpOpIn at h2⊢;rw[List.getElem?_toArray]at h2⊢;rw[cg_ hil,ho];rw[ho]at h2;simp only[hwa,if_true]at h2⊢;refine Ao8 (fun a w hh=>?_) hx h2
   have e1:(l++Dq ops2).toArray.setIfInBounds i true=(l.set i true++Dq ops2).toArray:=gr;have e2:l.toArray.setIfInBounds i true=(l.set i true).toArray:=gr;rw[e1];rw[e2]at hh;refine ih (l.set i true) a w gr (s3 i hi) ?_ hh
   have key:∀(l:List Bool) (i:Nat),l[i]? =some false->((l.set i true).filter (!·)).length+1=(l.filter (!·)).length:=fun l=>by
    induction l with
    |nil=>intro i h;simp at h
    |cons b l ihl=>
     intro i h;cases i with
     |zero=>simp at h;subst h;simp
     |succ i=>
      have:=ihl i gr;cases b<;>simp[List.set_cons_succ]<;>simpa using this
   grind
theorem Arh(hok:K6 ops1 ops2=true):∀(k j:Nat) (a:Act) (w:World),j+k=ops2.length->wpOpsIn F n P (ops1++ops2).toArray Q (List.range' (ops1.length+j) k) a w->wpAnyIn F n P .any (ops1++ops2).toArray Q k (Jp ops1++X8 ops2 j).toArray a w:=by
 have hok':=hok;unfold K6 at hok;simp only[ad_]at hok;obtain⟨_,ht⟩:=hok;have ht:=fun j (hj:j<ops2.length+1)=>of_decide_eq_true (b_.1 ht j (cw_.2 hj))
 intro k
 induction k with
 |zero=>
  intro j a w hj h;refine⟨?_,h⟩;rw[ht j Om,if_neg Om]
 |succ k ih=>
  intro j a w hj h;have hr:=ht j Om;rw[if_pos Om]at hr;refine⟨fun he=>gr,fun i hi=>?_⟩
  rw[hr,ao_]at hi;subst hi;rw[cj_,wpOpsIn_cons]at h;refine wpOpIn_mono (fun a w hh=>?_) h
  have e1:(Jp ops1++X8 ops2 j).toArray.setIfInBounds (ops1.length+j) true=(Jp ops1++X8 ops2 (j+1)).toArray:=by
   have hl:(Jp ops1).length=ops1.length:=by unfold Jp;grind
   rw[List.setIfInBounds_toArray,List.set_append_right _ _ Om,hl,show ops1.length+j-ops1.length=j by omega]
   congr 2
   unfold X8
   rw[List.set_append_right _ _ (by simp),fi_,Nat.sub_self,show ops2.length-j=(ops2.length-(j+1))+1 by omega,List.replicate_succ,List.set_cons_zero,List.replicate_succ',ca_]
   rfl
  rw[e1];exact ih (j+1) a w Om hh
end
section
variable {E:Env}{nt B b:Nat}{Q Q':Cc}{ρ ρ':Ad}{J:Sto}
end
def H7:Code->Bool
 |.region _ ops _=>D6 ops.toList
 |.seq a b=>H7 a&&H7 b
 |.cond _ a b=>H7 a&&H7 b
 |.block _ a=>H7 a
 |.loop a=>H7 a
 |.scope a=>H7 a
 |.rangeFunc _ _ _ _=>false
 |_=>true
def LI(Ls:List RF)(C:Ctx)(N:Nat)(w:World):Prop:=∀L∈Ls,Gk L C N w
theorem LI.ext{Ls C C' N N' w w'}(h:LI Ls C N w)(e:Ext C N w C' N' w'):LI Ls C' N' w':=fun L hL=>(h L hL).ext e
def Kg(E:Env)(nt b B:Nat)(Q:Cc)(C:Ctx)(w:World):Exit->Act->World->Prop:=fun e a' w'=>
 ∃x tm' ρ' J' C' df,Jj x=e/\Has tm' ρ'/\Q x ρ' J'/\SSt E C' w' ⟨tm',nt,df,J'⟩ a'/\Jt b df=true/\B<=nx J'/\Ext C B w C' B w'
def TX(E:Env)(Ls:List RF)(nt b B:Nat)(c:Code)(Q:Cc)(ρ:Ad)(J:Sto):Prop:=
 ∀(ro:Option Nat) (n:Nat),(ro=none∨H7 c=true)->∀(Bs:Nat) (C:Ctx) (w:World) (tm:Tr AV) (a:Act) (df:List (Nat×List AV)),(ro=none->Gl b Bs C B w)->LI Ls C B w->Jt b df=true->Has tm ρ->SSt E C w ⟨tm,nt,df,J⟩ a->B<=nx J->
  c.wpIn (Cy ro) n E.P (Kg E nt b B Q C w) a w
section
variable {E:Env}{Ls:List RF}{nt b B:Nat}{Q Q':Cc}{ρ ρ':Ad}{J J':Sto}
theorem Kg.mono{C w e a w'}(h:Kg E nt b B Q C w e a w')(hQ:∀x ρ J,Q x ρ J->Q' x ρ J):Kg E nt b B Q' C w e a w':=by
 obtain⟨x,tm',ρ',J',C',df,h1,h2,h3,h4⟩:=h;exact⟨x,tm',ρ',J',C',df,h1,h2,hQ _ _ _ h3,h4⟩
theorem Kg.from{C C₀ w w₀ e a w'}(h:Kg E nt b B Q C w e a w')(hx:Ext C₀ B w₀ C B w):Kg E nt b B Q C₀ w₀ e a w':=by
 obtain⟨x,tm',ρ',J',C',df,h1,h2,h3,h4,hm,hB,h5⟩:=h;exact⟨x,tm',ρ',J',C',df,h1,h2,h3,h4,hm,hB,hx.trans h5⟩
theorem Dy{c}(h:∀df,T E nt df B c Q ρ J)(hn:H7 c=Ln c:=by kernel_rfl):TX E Ls nt b B c Q ρ J:=fun ro n hr Bs C w tm a df _ _ hm ht st hB=>
 wpIn_mono (h df ro n (hr.imp (fun h=>h) gr) C w tm a ht st hB) fun e a' w' ⟨x,tm',ρ',J',C',h1,h2,h3,h4,hB',h5⟩=>⟨x,tm',ρ',J',C',df,h1,h2,h3,h4,hm,hB',h5⟩
theorem TX.mono{c}(h:TX E Ls nt b B c Q ρ J)(hQ:∀x ρ J,Q x ρ J->Q' x ρ J):TX E Ls nt b B c Q' ρ J:=fun ro n hr Bs C w tm a df h0 hl hm ht st hB=>wpIn_mono (h ro n hr Bs C w tm a df h0 hl hm ht st hB) fun e a' w' he=>he.mono hQ
theorem Gi{c}(h:WFS J->TX E Ls nt b B c Q ρ J):TX E Ls nt b B c Q ρ J:=fun ro n hr Bs C w tm a df h0 hl hm ht st hB=>h st.sim.wfs ro n hr Bs C w tm a df h0 hl hm ht st hB
theorem Jw(h:Q .normal ρ J):TX E Ls nt b B .skip Q ρ J:=Dy fun _=>Agu h
theorem Ux{n}(h:Q (.exit n) ρ J):TX E Ls nt b B (.exit n) Q ρ J:=Dy fun _=>Agv h
theorem Th(h:Q .ret ρ J):TX E Ls nt b B .ret Q ρ J:=Dy fun _=>Amj h
theorem Cf{x y}(h:TX E Ls nt b B x (Pa (TX E Ls nt b B y Q) Q) ρ J):TX E Ls nt b B (.seq x y) Q ρ J:=by
 intro ro n hr Bs C w tm a df h0 hl hm ht st hB;simp only[H7,ad_]at hr;refine wpIn_seq (wpIn_mono (h ro n (hr.imp (fun h=>h) (·.1)) Bs C w tm a df h0 hl hm ht st hB) fun e a' w' he=>?_)
 obtain⟨x',tm',ρ',J',C',df',h1,h2,h3,h4,hm',hB',h5⟩:=he;subst h1;cases x' with
 |normal=>exact wpIn_mono (h3 ro n (hr.imp (fun h=>h) (·.2)) Bs C' w' tm' a' df' (fun hh=>(h0 hh).ext h5) (hl.ext h5) hm' h2 h4 hB') fun e a'' w'' he=>he.from h5
 |exit id=>exact⟨.exit id,tm',ρ',J',C',df',rfl,h2,h3,h4,hm',hB',h5⟩
 |ret=>exact⟨.ret,tm',ρ',J',C',df',rfl,h2,h3,h4,hm',hB',h5⟩
theorem A2m{x y:Code}(h:∀df,T E nt df B x (Pa (TX E Ls nt b B y Q) Q) ρ J)(hn:H7 x=Ln x:=by kernel_rfl):TX E Ls nt b B (.seq x y) Q ρ J:=Cf (Dy h hn)
theorem A0{c x y v}(hc:Ah E ρ c=some (.bool v))(h1:v=true->TX E Ls nt b B x Q ρ J)(h2:v=false->TX E Ls nt b B y Q ρ J):TX E Ls nt b B (.cond c x y) Q ρ J:=by
 intro ro n hr Bs C w tm a df h0 hl hm ht st hB;simp only[H7,ad_]at hr;have hv:=Be st.glob st.tmps c;rw[ht.opd hc]at hv;unfold R at hv;cases v with
 |true=>exact wpIn_cond_true hv (h1 rfl ro n (hr.imp (fun h=>h) (·.1)) Bs C w tm a df h0 hl hm ht st hB)
 |false=>exact wpIn_cond_false hv (h2 rfl ro n (hr.imp (fun h=>h) (·.2)) Bs C w tm a df h0 hl hm ht st hB)
theorem Qn{id c}(h:TX E Ls nt b B c (Qf id Q) ρ J):TX E Ls nt b B (.block id c) Q ρ J:=by
 intro ro n hr Bs C w tm a df h0 hl hm ht st hB;refine wpIn_block (wpIn_mono (h ro n hr Bs C w tm a df h0 hl hm ht st hB) fun e a' w' he=>?_)
 obtain⟨x',tm',ρ',J',C',df',h1,h2,h3,h4,hm',hB',h5⟩:=he;subst h1;cases x' with
 |normal=>exact⟨.normal,tm',ρ',J',C',df',rfl,h2,h3,h4,hm',hB',h5⟩
 |ret=>exact⟨.ret,tm',ρ',J',C',df',rfl,h2,h3,h4,hm',hB',h5⟩
 |exit j=>
  simp only[Qf]at h3
  by_cases hj:j=id
  ·subst hj;rw[aw_]at h3;simp only[Jj,Exit.inBlock,if_true];exact⟨.normal,tm',ρ',J',C',df',rfl,h2,h3,h4,hm',hB',h5⟩
  ·have hb:Nat.beq j id=false:=by cases hb:Nat.beq j id with|true=>exact absurd (ac_ hb) hj|false=>rfl
   rw[hb]at h3;simp only[Jj,Exit.inBlock,if_neg hj];exact⟨.exit j,tm',ρ',J',C',df',rfl,h2,h3,h4,hm',hB',h5⟩
theorem Aun{c}(I:Nat->Ad->Sto->Prop)(n)(h0:∃ρ',Km ρ' ρ/\I n ρ' J)
  (hs:∀n ρ J,I n ρ J->TX E Ls nt b B c (Pa (fun ρ' J'=>∃m ρ'',m<n/\Km ρ'' ρ'/\I m ρ'' J') Q) ρ J):TX E Ls nt b B (.loop c) Q ρ J:=by
 intro ro m hn;have key:∀(n:Nat) (ρ:Ad) (J:Sto),I n ρ J->∀(Bs:Nat) (C:Ctx) (w:World) (tm:Tr AV) (a:Act) (df:List (Nat×List AV)),(ro=none->Gl b Bs C B w)->LI Ls C B w->Jt b df=true->Has tm ρ->SSt E C w ⟨tm,nt,df,J⟩ a->B<=nx J->∀(f:Frame) (k:List Item) (cs:List Frame),f.roundOf=(Cy ro).round->(Cy ro).fn f.fn->(Cy ro).room (cs.length+1+m)->
   ∃e a' w',Kg E nt b B Q C w e a' w'/\ArrivesIn (Machine.fenced E.P (Cy ro)) E.P (lone (f.atR a (.code c::.inLoop c::k)) cs w) f k cs e a' w':=by
  intro n
  induction n using Nat.strongRecOn with
  |_ n ih=>
   intro ρ J hI Bs C w tm a df hb hl hm ht st hB f k cs hro hf hr;obtain⟨e,a₁,w₁,hq,br⟩:=hs n ρ J hI ro m hn Bs C w tm a df hb hl hm ht st hB f (.inLoop c::k) cs hro hf hr;obtain⟨x',tm',ρ',J',C',df',h1,h2,h3,h4,hm',hB',h5⟩:=hq;subst h1;cases x' with
   |normal=>
    obtain⟨m,ρ'',hmn,cc,hI'⟩:=h3;obtain⟨e₂,a₂,w₂,hq₂,harr₂⟩:=ih m hmn ρ'' J' hI' Bs C' w₁ tm' a₁ df' (fun hh=>(hb hh).ext h5) (hl.ext h5) hm' (h2.subL cc) h4 hB' f k cs hro hf hr
    exact⟨e₂,a₂,w₂,hq₂.from h5,.of_steps (StepsIn.trans br (.one (fenced_calm hf hr rfl) stepR_inLoop)) harr₂⟩
   |exit id=>exact⟨.exit id,a₁,w₁,⟨_,tm',ρ',J',C',df',rfl,h2,h3,h4,hm',hB',h5⟩,.pass (x:=.inLoop c) rfl (fun _ _=>.inl (by simp)) br⟩
   |ret=>exact⟨.ret,a₁,w₁,⟨_,tm',ρ',J',C',df',rfl,h2,h3,h4,hm',hB',h5⟩,.pass (x:=.inLoop c) rfl (fun _ _=>.inl (by simp)) br⟩
 intro Bs C w tm a df hb hl hm ht st hB f k cs hro hf hr;obtain⟨ρ',cc,hI⟩:=h0;obtain⟨e,a',w',hq,br⟩:=key n ρ' J hI Bs C w tm a df hb hl hm (ht.subL cc) st hB f k cs hro hf hr;exact⟨e,a',w',hq,.of_steps (.one (fenced_calm hf hr rfl) stepR_loop) br⟩
theorem Hz{α:Type}{c}(ρI:α->Ad)(P:α->Sto->Prop)(μ:α->Nat)(a₀)(h0:Km (ρI a₀) ρ)(h1:P a₀ J)
  (hs:∀a J,P a J->TX E Ls nt b B c (Pa (fun ρ' J'=>∃a',μ a'<μ a/\Km (ρI a') ρ'/\P a' J') Q) (ρI a) J):TX E Ls nt b B (.loop c) Q ρ J:=by
 refine Aun (fun n ρ J=>∃a,n=μ a/\ρ=ρI a/\P a J) (μ a₀) ⟨ρI a₀,h0,a₀,rfl,rfl,h1⟩ ?_
 grind
def YX(E:Env)(Ls:List RF)(L:RF)(args:List AV)(J:Sto)(Post:XE->Sto->Prop):Prop:=
 ∀(C:Ctx) (w:World) (vs:Array Value),LI Ls C (nx J) w->Gk L C (nx J) w->Sim E.P C w J->Iw C (nx J) w E->RL C (nx J) w args vs.toList->
  ∃r,w.heap[(C.stm L.aY).toNat]? =some (.loop (C9 r .ready))/\vs.size=r.params.size/\∀ro n,RoundIn (Cy ro) n E.P (C.stm L.aY).toNat r.fn ((r.params.zip vs).foldl (fun tmps (t,a)=>tmps.setIfInBounds t a) r.tmps) r.assign r.body w fun e w'=>
   ∃x J' C',Post x J'/\e=.returned (.bool (Iu x))/\Sim E.P C' w' J'/\Ext C (nx J) w C' (nx J') w'
theorem Tk{L ρL args Post}(hL:Has L.tm ρL)(hl:args.length=L.ps.toList.length)(hps:L.ps.toList.all (fun p=>Nat.blt p L.nt)=true)(hna:H7 L.assign=true)(hnb:H7 L.body=true)(hrd:J.get L.aY=some (.loop .ready))(hY0:L.aY<nx J)
  (h:TX E Ls L.nt 0 (nx J) L.assign (fun|.normal=>fun ρ₁ J₁=>J₁.get L.aY=some (.loop .ready)/\TX E Ls L.nt 0 (nx J) L.body (fun x _ J₂=>J₂.get L.aY=some (.loop .busy)/\Post x (J₂.set L.aY (.loop (H2 x)))) ρ₁ (J₁.set L.aY (.loop .busy))|_=>fun _ _=>False) (Amv L.ps.toList args ρL) J):
  YX E Ls L args J Post:=by
 intro C w vs hLI hi hs hg bp;obtain⟨hY1,hY2,r,hlr,hTR,hsz,hp,has,hbo⟩:=hi;obtain⟨c,r',h1,h2,h3⟩:=hs.obj _ _ hrd;rw[hlr]at h2;cases h2;have hc:=hY2 c 0 h1;subst hc;obtain⟨q1,tm',q0,q2,q3⟩:=Qk (nt:=L.nt) hl hps hL hTR hsz bp
 have jj:(L.ps.toList.zip vs.toList).foldl (fun tmps (t,a)=>tmps.setIfInBounds t a) r.tmps=(L.ps.zip vs).foldl (fun tmps (t,a)=>tmps.setIfInBounds t a) r.tmps:=by
  rw[←fv_,Array.toList_zip]
 rw[jj]at q2 q3;refine⟨r,h3,gr,fun ro n=>?_⟩
 refine roundIn_of_wpIn (F:=Cy ro) trivial ?_;rw[has,hbo,hp]
 have st0:SSt E C w ⟨tm',L.nt,[],J⟩ { tmps:=(L.ps.zip vs).foldl (fun tmps (t,a)=>tmps.setIfInBounds t a) r.tmps,defers:=[] }:=⟨hs,hg,q2,q3,by unfold DR;trivial⟩
 refine wpIn_mono (h (some (C.stm L.aY).toNat) n (.inr hna) 0 C w tm' _ [] gr hLI rfl q0 st0 nl) fun e a₁ w₁ hq=>?_
 obtain⟨x₁,tm₁,ρ₁,J₁,C₁,df₁,hye,ht₁,hq₁,st₁,hm₁,hB₁,e₁⟩:=hq;subst hye;cases x₁ with
 |ret=>exact hq₁.elim
 |exit _=>exact hq₁.elim
 |normal=>
  obtain⟨hrd₁,ce⟩:=hq₁;obtain⟨c₁,r₁,j1,j2,j3,j4,j5⟩:=st₁.sim.turnLoop hrd₁ .busy
  have hr₁:r₁=r:=by
   have:=e₁.lr _ hY0
   grind
  subst hr₁;have hc₁:c₁=(C.stm L.aY).toNat:=hY2 c₁ 0 (e₁.loc _ hY0 _ j1);subst hc₁;refine⟨_,run_beginRound j3 rfl,?_⟩;have st₂:SSt E C₁ (w₁.putObj (C.stm L.aY).toNat (.loop (C9 r₁ .busy))) ⟨tm₁,L.nt,df₁,J₁.set L.aY (.loop .busy)⟩ a₁:=
   ⟨j4,by show Iw _ (nx (J₁.set _ _)) _ _;rw[Aq];exact st₁.glob.ext j5,by show TR _ (nx (J₁.set _ _)) _ _ _;rw[Aq];exact st₁.tmps.ext j5,st₁.size,by show DR _ (nx (J₁.set _ _)) _ _ _;rw[Aq];exact st₁.dfs.ext j5⟩
  have hLI₁:LI Ls C₁ (nx J) (w₁.putObj (C.stm L.aY).toNat (.loop (C9 r₁ .busy))):=(hLI.ext e₁).ext (j5.base hB₁);refine wpIn_mono (ce (some (C.stm L.aY).toNat) n (.inr hnb) 0 C₁ _ tm₁ _ df₁ gr hLI₁ hm₁ ht₁ st₂ gr) fun e a₃ w₃ hq=>?_
  obtain⟨x₃,tm₃,ρ₃,J₃,C₂,df₃,hye,ht₃,hq₃,st₃,hm₃,hB₃,e₂⟩:=hq;subst hye;obtain⟨hbu,bh⟩:=hq₃;have finish:∀(jump:Option Code),C9 r₁ (H2 x₃)={ C9 r₁ .busy with state:=if jump.isNone then .ready else .done,pending:=jump }->Iu x₃=jump.isNone->
    ∃v w',(Instr.endRound (C.stm L.aY).toNat jump).run E.P w₃=.ok v w'/\∃x J' C',Post x J'/\Ending.returned v=.returned (.bool (Iu x))/\Sim E.P C' w' J'/\Ext C (nx J) w C' (nx J') w':=by
   intro jump hst heq;obtain⟨c₂,r₂,m1,m2,m3,m4,m5⟩:=st₃.sim.turnLoop hbu (H2 x₃)
   have hr₂:r₂=r₁:=by
    have:=e₂.lr _ hY0
    grind
   subst hr₂;have hc₂:c₂=(C.stm L.aY).toNat:=hY2 c₂ 0 (e₁.loc _ hY0 _ (e₂.loc _ hY0 _ m1));subst hc₂;have da:=run_endRound (P:=E.P) jump m3;rw[←hst]at da
   refine⟨_,_,da,x₃,_,C₂,bh,by rw[heq],m4,?_⟩
   rw[Aq];exact(((e₁.trans (j5.base hB₁)).trans e₂).trans (m5.base hB₃)).top hB₃
  cases x₃ with
  |normal=>exact finish none rfl rfl
  |ret=>exact finish (some .ret) rfl rfl
  |exit id=>exact finish (some (.exit id)) rfl rfl
def TOX(E:Env)(Ls:List RF)(nt b B:Nat)(ops r:List Oper)(K:Ad->Sto->Prop)(ρ:Ad)(J:Sto):Prop:=
 ∀(ro:Option Nat) (n:Nat),(ro=none∨D6 r=true)->∀(Bs:Nat) (C:Ctx) (w:World) (tm:Tr AV) (a:Act) (df:List (Nat×List AV)),(ro=none->Gl b Bs C B w)->LI Ls C B w->Jt b df=true->Has tm ρ->SSt E C w ⟨tm,nt,df,J⟩ a->B<=nx J->∀(arr:Array Oper) (i:Nat) (QQ:Exit->Act->World->Prop),arr.toList=ops->(∀j,j<r.length->r[j]? =arr[i+j]?)->
  (∀C' w' a' tm' ρ' J',Has tm' ρ'->K ρ' J'->SSt E C' w' ⟨tm',nt,df,J'⟩ a'->B<=nx J'->Ext C B w C' B w'->QQ .normal a' w')->wpOpsIn (Cy ro) n E.P arr QQ (List.range' i r.length) a w
variable {K:Ad->Sto->Prop}{ops r:List Oper}
theorem Er{id ops}(h:TOX E Ls nt b B ops.toList ops.toList (fun ρ J=>Q .normal ρ J) ρ J):TX E Ls nt b B (.region id ops false) Q ρ J:=by
 intro ro n hr Bs C w tm a df h0 hl hm ht st hB;refine wpIn_region ?_;rw[dr_,←cd_];exact h ro n hr Bs C w tm a df h0 hl hm ht st hB ops 0 (Kg E nt b B Q C w) rfl gr fun C' w' a' tm' ρ' J' h1 h2 h3 h4 h5=>⟨.normal,tm',ρ',J',C',df,rfl,h1,h2,h3,hm,h4,h5⟩
theorem Uy(h:K ρ J):TOX E Ls nt b B ops [] K ρ J:=by
 intro ro n _ Bs C w tm a df h0 hl hm ht st hB arr i QQ _ _ hQ;simp only[cu_,gr_,wpOpsIn];exact hQ C w a tm ρ J ht h st hB (cf_ _ _ _)
theorem Ale{g}(h:∀df,TO E nt df B ops g (fun ρ' J'=>TOX E Ls nt b B ops r K ρ' J') ρ J):TOX E Ls nt b B ops (g++r) K ρ J:=by
 intro ro n hn Bs C w tm a df h0 hl hm ht st hB arr i QQ br hr hQ;rw[bx_,←List.range'_append_1];simp only[D6,List.all_append,ad_]at hn;refine h df ro n (hn.imp (fun h=>h) (·.1)) C w tm a ht st hB arr i QQ _ br (fun j hj=>?_) fun C' w' a' tm' ρ' J' h1 h2 h3 h4 h5=>?_
 ·grind
 ·refine h2 ro n (hn.imp (fun h=>h) (·.2)) Bs C' w' tm' a' df (fun hh=>(h0 hh).ext h5) (hl.ext h5) hm h1 h3 h4 arr (i+g.length) QQ br (fun j hj=>?_) fun C2 w2 a2 tm2 ρ2 J2 q1 q2 q3 qB q4=>hQ C2 w2 a2 tm2 ρ2 J2 q1 q2 q3 qB (h5.trans q4)
  have:=hr (g.length+j) gr
  grind
theorem Gm(m)(h:∀df,TO E nt df B ops (r.take m) (fun ρ' J'=>TOX E Ls nt b B ops (r.drop m) K ρ' J') ρ J):TOX E Ls nt b B ops r K ρ J:=by
 rw[←cc_ m r];exact Ale h
theorem Lg{L o f args}{tys:Array Nat}{vs Post}(hL:L∈Ls)(hg:∀tm,Has tm ρ->Bn ops o tm=some true)(hop:o.op=.call ⟨.value f,args,tys⟩)(hd:B0 nt o.dst=true)(hf:Ah E ρ f=some (.yl L.aY))(ha:Kc E ρ args.toList=some vs)
  (hy:YX E Ls L vs J Post)(k:∀x J',Post x J'->nx J<=nx J'->TOX E Ls nt b B ops r K (Dt o.dst (.bool (Iu x)) ρ) J'):TOX E Ls nt b B ops (o::r) K ρ J:=by
 intro ro n hn Bs C w tm a df h0 hl hm ht st hB arr i QQ br hr hQ
 have ho:arr[i]? =some o:=by have:=hr 0 (by simp);grind
 simp only[as_,cj_,wpOpsIn,ho];have hw:Region.wanted o (yielded arr a.tmps)=true:=Dp st.tmps gr;rw[if_pos hw]
 have hnd:Ra o.op=false:=by rw[hop];rfl
 have hV:=Be st.glob st.tmps f;rw[ht.opd hf]at hV;unfold R at hV;obtain⟨hV,_⟩:=hV;have hA:=Dm st.glob st.tmps args.toList;rw[ht.opds ha]at hA
 have hA':RL C (nx J) w vs (args.map a.eval).toList:=by simp only[c_];exact hA
 have hl':LI Ls C (nx J) w:=hl.ext ((cf_ C B w).top hB);obtain⟨r',fa,hsz,ca⟩:=hy C w _ hl' (hl' L hL) st.sim st.glob hA';have hyl:=run_yield (P:=E.P) (args:=args.map a.eval) fa hsz
 have bq:(execOp a.eval o).run E.P w=.ok (.round (C.stm L.aY).toNat r'.fn ((r'.params.zip (args.map a.eval)).foldl (fun tmps (t,a)=>tmps.setIfInBounds t a) r'.tmps) r'.assign r'.body) w:=by
  simp[execOp,hop,resolve,hV,Deferred.ofValue,invoke]
  simpa[C9]using hyl
 refine⟨fun _ _=>trivial,?_⟩
 rw[Oper.semAt_eq _ _ _ gr,bq,Oper.uponIn_round]
 refine⟨fun hh=>(by cases hh),(ca ro (n-1)).mono fun e w' he=>?_⟩
 obtain⟨x,J',C',hp,rfl,k1,k2⟩:=he;obtain⟨tm',h1,h2⟩:=C6 (nt:=nt) (dst:=o.dst) hd ht (.bool (Iu x))
 have st':=st.put (x:=.bool (Iu x)) k1 k2 (by unfold R;rfl) h1
 have hn':ro=none∨D6 r=true:=hn.imp (fun h=>h) fun h=>by simp only[D6,cs_,ad_]at h;exact h.2
 exact k x J' hp k2.next ro n hn' Bs C' w' tm' _ df (fun hh=>(h0 hh).ext (k2.base hB)) (hl.ext (k2.base hB)) hm h2 st' (ai_ hB k2.next) arr (i+1) QQ br (fun j hj=>by have:=hr (j+1) gr;grind)
  fun C2 w2 a2 tm2 ρ2 J2 q1 q2 q3 qB q4=>hQ C2 w2 a2 tm2 ρ2 J2 q1 q2 q3 qB ((k2.base hB).trans q4)
def Hl(E:Env)(Ls:List RF)(f:Nat)(args:List AV)(J:Sto)(Post:AV->Sto->Prop):Prop:=
 ∀(C:Ctx) (w:World) (vs:Array Value),LI Ls C (nx J) w->Sim E.P C w J->Iw C (nx J) w E->RL C (nx J) w args vs.toList->
  Aa2 E.P f/\Calls E.P f vs w fun
   |.returned x,w'=>∃v J' C',Post v J'/\Sim E.P C' w' J'/\Ext C (nx J) w C' (nx J') w'/\R C' (nx J') w' v x
   |_,_=>False
theorem Hl.to{f args Post}(h:Hl E [] f args J Post):Al E f args J Post:=fun C w vs=>h C w vs (fun _ hL=>by cases hL)
abbrev gm_:=@Hl.to
theorem Hl.mono{f args Post Post'}(h:Hl E Ls f args J Post)(k:∀v J',Post v J'->Post' v J'):Hl E Ls f args J Post':=by
 intro C w vs hl hs hg ha;obtain⟨h1,h2⟩:=h C w vs hl hs hg ha;refine⟨h1,h2.mono fun e w' he=>?_⟩
 grind
abbrev et_:=@Hl.mono
theorem L5{o f args}{tys:Array Nat}{k:Nat}{first cap vs full Post}(hg:∀tm,Has tm ρ->Bn ops o tm=some true)(hop:o.op=.call ⟨.value f,args,tys⟩)(hd:B0 nt o.dst=true)
  (hf:Ah E ρ f=some (.fn (.func k) first cap))(ha:Kc E ρ args.toList=some vs)(mn:first++vs++cap=full)(hc:Hl E Ls k full J Post)
  (kk:∀v J',Post v J'->nx J<=nx J'->TOX E Ls nt b B ops r K (Dt o.dst v ρ) J'):TOX E Ls nt b B ops (o::r) K ρ J:=by
 intro ro n hn Bs C w tm a df h0 hl hm ht st hB arr i QQ br hr hQ
 have ho:arr[i]? =some o:=by have:=hr 0 (by simp);grind
 simp only[as_,cj_,wpOpsIn,ho];have hw:Region.wanted o (yielded arr a.tmps)=true:=Dp st.tmps gr;rw[if_pos hw]
 refine Ev (.inr (by rw[hop];rfl)) ?_
 have hV:=Be st.glob st.tmps f;rw[ht.opd hf]at hV;unfold R at hV;obtain⟨p,q,hV,hp,hq⟩:=hV;have bp:=Dm st.glob st.tmps args.toList;rw[ht.opds ha]at bp
 have bs:RL C (nx J) w full (p++args.map a.eval++q).toList:=by
  subst mn;simp only[cv_,c_];exact(hp.append bp).append hq
 have hl':LI Ls C (nx J) w:=hl.ext ((cf_ C B w).top hB);obtain⟨⟨fn,g1,g2,g3⟩,b8⟩:=hc C w _ hl' st.sim st.glob bs
 have bq:(execOp a.eval o).run E.P w=.ok (.enter k (p++args.map a.eval++q)) w:=by
  have g2':fn.name≠ "runtime.NumGoroutine" :=gr;have g3':fn.body≠none:=gr
  simp[execOp,hop,resolve,hV,Deferred.ofValue,invoke,callFunc,g1,g2',g3']
 unfold Oper.wp;rw[bq,Oper.upon_enter];refine b8.mono fun e w' he=>?_
 have hn':ro=none∨D6 r=true:=hn.imp (fun h=>h) fun h=>by simp only[D6,cs_,ad_]at h;exact h.2
 cases e with
 |returned x=>
  obtain⟨v,J',C',k0,k1,k2,k3⟩:=he;obtain⟨tm',h1,h2⟩:=C6 (dst:=o.dst) hd ht v
  exact kk v J' k0 k2.next ro n hn' Bs C' w' tm' _ df (fun hh=>(h0 hh).ext (k2.base hB)) (hl.ext (k2.base hB)) hm h2 (st.put k1 k2 k3 h1) (ai_ hB k2.next) arr (i+1) QQ br (fun j hj=>by have:=hr (j+1) gr;grind)
   fun C2 w2 a2 tm2 ρ2 J2 q1 q2 q3 qB q4=>hQ C2 w2 a2 tm2 ρ2 J2 q1 q2 q3 qB ((k2.base hB).trans q4)
 |panicked _=>exact he.elim
 |outgrown=>exact he.elim
theorem Ae3{fn C₀ C₁ N₀ w₀ tm tmps U n Re}(hb:(C₁.stm b).toNat=w₀.heap.size)
  (K:∀w,Sim E.P C₁ w U->TR C₁ (nx U) w tm tmps->Ext C₀ N₀ w₀ C₁ (nx U) w->LeavesInM Fence.wide n E.P fn tmps Re [] .returning w):
  ∀(df:List (Nat×List AV)) (ds:List Deferred) (w:World),Jt b df=true->DR C₁ (nx U) w df ds->Sim E.P C₁ w U->TR C₁ (nx U) w tm tmps->Ext C₀ N₀ w₀ C₁ (nx U) w->LeavesInM Fence.wide n E.P fn tmps Re ds .returning w
 |[],[],w,_,_,hs,ht,cu=>K w hs ht cu
 |[],_::_,_,_,hd,_,_,_=>by unfold DR at hd;grind
 |_::_,[],_,_,hd,_,_,_=>gr
 |x::df,d::ds,w,hm,hd,hs,ht,cu=>by
  unfold DR at hd;obtain⟨hd,hd2⟩:=hd;obtain⟨k,l⟩:=x
  have hk:k=Ks/\∃aD,l=[.yl aD,.yl b]/\Jt b df=true:=by
   unfold Jt at hm
   split at hm
   ·grind
   ·rename_i heq
    cases heq;simp only[ad_]at hm
    exact⟨ac_ hm.1.1,_,by rw[ac_ hm.1.2],hm.2⟩
   grind
  obtain⟨rfl,aD,rfl,hm'⟩:=hk
  rcases hd with⟨h0,_⟩|⟨h0,a1,b1,h1,⟨h2,h3,h4⟩,h5,h6,h7,h8⟩
  ·grind
  ·simp only[dl_,AV.yl.injEq,and_true]at h1;obtain⟨rfl,rfl⟩:=h1;rw[h5]
   refine⟨by simp,.inl ⟨_,_,rfl,run_takeDeferred h7,?_⟩⟩
   have t:Jb w (w.putObj (C₁.stm aD).toNat (.deferred none)) (C₁.stm aD).toNat:=gy_ h7 rfl rfl;have hge:w₀.heap.size<=(C₁.stm aD).toNat:=gr
   have dr:∀{r:List (Nat×List AV)} {ds:List Deferred},MB C₁ (nx U) r (C₁.stm aD).toNat->DR C₁ (nx U) w r ds->DR C₁ (nx U) (w.putObj (C₁.stm aD).toNat (.deferred none)) r ds:=by
    intro r
    induction r with
    |nil=>intro ds _ h;cases ds<;>unfold DR at h⊢<;>first|trivial|exact h
    |cons x r ih=>
     intro ds hmb h;cases ds with
     |nil=>unfold DR at h;exact h.elim
     |cons d ds=>
      unfold DR at h⊢;refine⟨?_,ih (fun y hy=>hmb y (aj_ _ hy)) h.2⟩
      rcases h.1 with⟨g0,cap,g1,g2⟩|⟨g0,a,c,g1,g2,g3,g4,g5,g6⟩
      ·exact .inl ⟨g0,cap,g1,RL.turn t _ _ g2⟩
      ·refine .inr ⟨g0,a,c,g1,g2,g3,g4,?_,g6⟩;have:=(hmb x (ap_ ..) g0 a c g1).2;rw[t.other _ Om];exact g5
   exact Ae3 hb K df ds _ hm' (dr h8 hd2) (hs.turn t h6) (fun i v hv=>R.turn t _ _ (ht i v hv)) (cu.turnNew t h6 hge)
theorem Mo{f fn c args Post}(hfn:E.P.funcs[f]? =some fn)(dz:(fn.name== "runtime.NumGoroutine")=false)(hc:fn.body=some c)(hle:Nat.ble args.length fn.ntmps=true)
  (h:WFS J->AV.unds (nx J) args=true->TX E Ls fn.ntmps (nx J) (nx J+1) c (Aox (Agw E fn (nx J) Post)) (Hg args 0) J.bump):Hl E Ls f args J Post:=by
 intro C w vs hl hs hg bp;refine⟨⟨fn,hfn,dz,gr⟩,?_⟩;have hle:=al_ hle;obtain⟨s1,e1⟩:=hs.bump (w.heap.size:Int);rw[←Bm]at e1;refine(callsIn_wide (n:=1)).1 (callsIn_of_wp_marks hfn hc trivial ?_)
 have hi:Gl (nx J) w.heap.size (C.addStm (nx J) (w.heap.size:Int)) (nx J+1) w:=⟨by omega,by simp[Ctx.addStm],nl⟩
 have ht:Has (Kz args 0 .e) (Hg args 0):=fun i v hv=>by
  rw[Ig];rw[L3]at hv
  grind
 have st:=Ur (E:=E) (fn:=fn) s1 (hg.ext e1) (RL.ext e1 _ _ bp) hle
 have hl1:LI Ls (C.addStm (nx J) (w.heap.size:Int)) (nx J+1) w:=by rw[←Bm];exact hl.ext e1
 refine wpIn_mono (h hs.wfs (RL.unds _ _ bp) none 1 (.inl rfl) w.heap.size _ w _ _ [] (fun _=>hi) hl1 rfl ht st gr) fun e a' w' he=>?_
 obtain⟨x,tm',ρ',J₁,C',df,h1,h2,h3,h4,hdf,hB,h5⟩:=he;subst h1;rw[Bm]at e1;have cu:Ext C (nx J) w C' (nx J+1) w':=e1.trans h5;have hi5:Gl (nx J) w.heap.size C' (nx J+1) w':=hi.ext h5;have fin:Agw E fn (nx J) Post ρ' J₁->LeavesInM Fence.wide 1 E.P fn a'.tmps (fun
   |.returned x,w'=>∃v J' C',Post v J'/\Sim E.P C' w' J'/\Ext C (nx J) w C' (nx J') w'/\R C' (nx J') w' v x
   |_,_=>False) a'.defers .returning w':=by
  intro hx;obtain⟨vs₁,r1,v',J',r2,r3,r4,r5⟩:=hx;refine Ae3 (C₀:=C) (N₀:=nx J) hi5.2.1 (fun w₂ q1 q2 q3=>?_) df _ w' hdf h4.dfs h4.sim h4.tmps ((cu.base nl).top (ai_ (dm_ _) hB))
  show LeavesIn _ _ _ _ _ _ [] .returning _
  obtain⟨y,k1,k2⟩:=Hx (fn:=fn) q1 q2 (S8 h2 r1);exact⟨y,k1,v',J',_,r5,q1.frz r2,((q3.base nl).trans (en_ C' J' _ w₂)).top r3,r4.R q1 k2⟩
 cases x with
 |normal=>exact fin h3
 |ret=>exact fin h3
 |exit id=>exact h3.elim
theorem L6{k:Nat}{f ps assign body cap}(hf:Ah E ρ f=some (.fn (.func k) [] cap))
  (hit:∀tm,Has tm ρ->Hl E (⟨nx J+1,tm,nt,ps,assign,body⟩::Ls) k (.yl (nx J+1)::cap) (J.bump.new (.loop .ready)) (fun _ J'=>∃x,J'.get (nx J+1)=some (.loop (H2 x))/\Q x ρ (J'.kill (nx J+1)))):
  TX E Ls nt b B (.rangeFunc f ps assign body) Q ρ J:=by
 intro ro n hr Bs C w tm a df h0 hl hm ht st hB
 have hr:ro=none:=hr.resolve_right (by simp[H7])
 subst hr;have hi:Gl b Bs C (nx J) w:=(h0 rfl).ext ((cf_ C B w).top hB);have hl0:LI Ls C (nx J) w:=hl.ext ((cf_ C B w).top hB);have hV:=Be st.glob st.tmps f;rw[ht.opd hf]at hV;unfold R at hV;obtain⟨p0,lb,hV,hp0,hlb⟩:=hV
 have jk:p0=#[]:=by
  have:=hp0.length
  grind
 subst jk;refine wpIn_rangeFunc fun fn _=>?_
 obtain⟨rc,hrc⟩:∃rc:Loop,rc={ state:=.ready,pending:=none,fn,tmps:=a.tmps,params:=ps,assign,body,defers:=w.heap.size }:=⟨_,rfl⟩
 have jm:C9 rc .ready=rc:=by rw[hrc];rfl
 obtain⟨W0,hW0⟩:∃W0,w.alloc (.deferred (some []))=W0:=⟨_,rfl⟩;obtain⟨W1,hW1⟩:∃W1,W0.alloc (.loop rc)=W1:=⟨_,rfl⟩
 have hp1:Pu w W0 (.deferred (some [])):=by rw[←hW0];exact fa_ rfl ⟨rfl,rfl⟩
 have hp2:Pu W0 W1 (.loop rc):=by rw[←hW1];exact fa_ rfl ⟨rfl,rfl⟩
 have f7:=hp1.size;have jp:=hp2.size;obtain⟨s1,e1⟩:=st.sim.push hp1;obtain⟨s2,e2⟩:=s1.bump (w.heap.size:Int);obtain⟨s3,e3⟩:=s2.newLoop jm hp2;rw[←Bm]at e2;have hnx:nx (J.bump.new (.loop .ready))=nx J+1+1:=gr;have e5:=(e1.trans e2).trans e3;rw[←Ao J.bump (.loop .ready)]at e5
 generalize hC4:(((C.addStm (nx J) (w.heap.size:Int)).setLoop (nx J.bump) (W0.heap.size:Int) rc).add (nx J.bump) W0.heap.size 0)=C4 at s3 e5
 have f8:C4.stm (nx J)=(w.heap.size:Int):=by rw[←hC4];simp[Ctx.add,Ctx.setLoop,Ctx.addStm,Bm]
 have ml:C4.stm (nx J+1)=((w.heap.size+1:Nat):Int):=by rw[←hC4];simp[Ctx.add,Ctx.setLoop,Bm,f7]
 have gb:C4.lr (nx J+1)=some rc:=by rw[←hC4];simp[Ctx.add,Ctx.setLoop,Bm]
 have gc:C4.loc (nx J+1)=some (w.heap.size+1,0):=by rw[←hC4];simp[Ctx.add,Bm,f7]
 have hnD:¬C4.own w.heap.size:=fun hh=>by
  rcases hh with hh|⟨x,o,hh⟩
  ·have hh':C.res w.heap.size:=by rw[←e5.res.1];exact hh
   have:=st.sim.rlt _ hh';omega
  ·by_cases hx:x=nx J+1
   ·grind
   ·have:x<nx J:=by
     obtain⟨O,hO,_⟩:=s3.dom x _ hh;have hb:=s3.bound x O hO;rw[hnx]at hb
     by_cases hx2:x=nx J
     ·subst hx2;rw[ag_,Bm,if_neg Om,Fh]at hO;have:=st.sim.bound _ _ hO;omega
     ·omega
    have:=st.sim.lt x _ _ (e5.loc x this _ hh);omega
 have ez:W1.heap[w.heap.size]? =some (.deferred (some [])):=by rw[hp2.other _ Om];exact hp1.here
 have hli:Gk ⟨nx J+1,tm,nt,ps,assign,body⟩ C4 (nx (J.bump.new (.loop .ready))) W1:=by
  refine⟨gr,fun c o hc=>?_,rc,gb,?_,?_,?_,?_,?_⟩
  ·grind
  ·have:TR C (nx J) w tm rc.tmps:=by rw[hrc];exact st.tmps
   exact this.ext e5
  ·rw[hrc];exact st.size
  ·rw[hrc]
  ·rw[hrc]
  grind
 have bp:RL C4 (nx (J.bump.new (.loop .ready))) W1 (.yl (nx J+1)::cap) (#[Value.func (.yield (w.heap.size+1)) #[] #[]]++lb).toList:=by
  simp only[cv_,ay_,bd_];unfold RL;refine⟨?_,RL.ext e5 _ _ hlb⟩;unfold R
  grind
 have hLs:LI (⟨nx J+1,tm,nt,ps,assign,body⟩::Ls) C4 (nx (J.bump.new (.loop .ready))) W1:=fun L hL=>by
  rcases an_.1 hL with rfl|hL
  ·grind
  ·exact(hl0 L hL).ext e5
 obtain⟨⟨kfn,f6,dz,ce⟩,b8⟩:=hit tm ht C4 W1 _ hLs s3 (st.glob.ext e5) bp
 have en:∀args w,(callFunc k args).run E.P w=.ok (.enter k args) w:=fun args w=>by
  have g2':kfn.name≠ "runtime.NumGoroutine" :=gr;have g3':kfn.body≠none:=gr
  simp[callFunc,f6,g2',g3']
 refine⟨w.heap.size+1,[{ target:=.collected w.heap.size,args:=#[] }],W1,{ target:=.fn (.func k) lb,args:=#[.func (.yield (w.heap.size+1)) #[] #[]] },W1,k,
  #[.func (.yield (w.heap.size+1)) #[] #[]]++lb,W1,?_,?_,fun _ _=>trivial,?_,fun hh=>(by cases hh),?_⟩
 ·rw[←hW1,←hW0,hrc];exact run_enterLoop_outer _ _ _ _ _
 ·simp only[resolve,hV]
  simp[go_sem]
 ·simp[invoke,go_sem,en]
 ·refine(callsIn_wide).2 (b8.mono fun e w₃ he=>?_)
  cases e with
  |returned x=>
   obtain⟨v₀,J',C₃,⟨x₀,hgl,bh⟩,k1,k2,_⟩:=he;have co:=(k2.stm (nx J) gr).trans f8;have jq:=(k2.lr (nx J+1) gr).trans gb;obtain⟨hn4,hk4⟩:=k2.keep w.heap.size Om hnD;have hd3:=hk4.trans ez;obtain⟨c,r,g1,g2,g3⟩:=k1.obj _ _ hgl;rw[jq]at g2;cases g2;have hcl:=k2.loc _ gr _ g1;rw[gc]at hcl;cases hcl;obtain⟨m1,m2⟩:=k1.kill (nx J+1)
   have hnL:¬(C₃.del (nx J+1)).own (w.heap.size+1):=fun hh=>by
    rcases hh with hh|⟨x,o,hh⟩
    ·exact k1.rdis _ _ _ g1 hh
    ·by_cases hx:x=nx J+1
     ·simp[Ctx.del,hx]at hh
     ·simp[Ctx.del,hx]at hh
      exact hx (k1.inj _ _ _ _ _ hh g1)
   have py:¬(C₃.del (nx J+1)).own w.heap.size:=fun hh=>hn4 (by
    rcases hh with hh|⟨x,o,hh⟩
    ·exact .inl hh
    ·by_cases hx:x=nx J+1
     ·simp[Ctx.del,hx]at hh
     ·simp[Ctx.del,hx]at hh;exact .inr ⟨x,o,hh⟩)
   have t:Jb w₃ (w₃.putObj (w.heap.size+1) (.loop { C9 rc (H2 x₀)with state:=.exhausted })) (w.heap.size+1):=gy_ g3 rfl rfl;have e6:=((e5.trans k2).trans m2).turnNew t hnL Om;rw[←B3 J' (nx J+1)]at e6
   have jv:SSt E (C₃.del (nx J+1)) (w₃.putObj (w.heap.size+1) (.loop { C9 rc (H2 x₀)with state:=.exhausted })) ⟨tm,nt,(Ks,[.yl (nx J),.yl b])::df,J'.kill (nx J+1)⟩ { a with defers:=[{ target:=.collected w.heap.size,args:=#[] }]++a.defers }:=by
    refine⟨m1.turn t hnL,st.glob.ext e6,st.tmps.ext e6,st.size,?_⟩
    show DR _ _ _ _ ({ target:=Target.collected w.heap.size,args:=#[] }::a.defers)
    unfold DR;refine⟨.inr ⟨rfl,nx J,b,rfl,⟨?_,?_,?_⟩,?_,?_,?_,?_⟩,st.dfs.ext e6⟩
    ·show nx J<nx (J'.kill _);rw[B3];have:=k2.next;grind
    ·show b<nx (J'.kill _);rw[B3];have:=k2.next;rw[hnx]at this;have:=hi.1;omega
    ·show(C₃.stm b).toNat<=(C₃.stm (nx J)).toNat
     have hb6:=e6.stm b hi.1;have hb6:C₃.stm b=C.stm b:=hb6;rw[co,hb6,hi.2.1];exact hi.2.2
    ·show _=({ target:=.collected (C₃.stm (nx J)).toNat,args:=#[] }:Deferred);grind
    ·show ¬(C₃.del _).own (C₃.stm (nx J)).toNat;grind
    ·show(w₃.putObj _ _).heap[(C₃.stm (nx J)).toNat]? =_
     rw[co];exact(t.other w.heap.size Om).trans hd3
    ·intro y hy hk c d hcd;obtain⟨z1,z2⟩:=MB.of_DR st.dfs y hy hk c d hcd;refine⟨ak_ z1 e6.next,?_⟩
     show(C₃.stm c).toNat<(C₃.stm (nx J)).toNat
     have hb6:C₃.stm c=C.stm c:=e6.stm c z1
     grind
   have hBk:B<=nx (J'.kill (nx J+1)):=ai_ hB e6.next
   have hmk:Jt b ((Ks,[.yl (nx J),.yl b])::df)=true:=by simp[Jt,hm]
   have hE:∀e,Jj x₀=e->Kg E nt b B Q C w e { a with defers:=[{ target:=.collected w.heap.size,args:=#[] }]++a.defers } _:=fun e he=>⟨x₀,tm,ρ,_,_,_,he,ht,bh,jv,hmk,hBk,e6.base hB⟩
   cases x₀ with
   |normal=>exact⟨none,_,run_endLoop (P:=E.P) g3 (by simp[C9,H2]),hE _ rfl⟩
   |ret=>exact⟨some .ret,_,run_endLoop (P:=E.P) g3 (by simp[C9,H2]),wpIn_ret (hE _ rfl)⟩
   |exit id=>exact⟨some (.exit id),_,run_endLoop (P:=E.P) g3 (by simp[C9,H2]),wpIn_exit (hE _ rfl)⟩
  |panicked _=>exact he.elim
  |outgrown=>exact he.elim
end
theorem Arj{E Ls nt b B Q ρ J Rr id ops}(ops1 ops2){anns}(ew:ops.toList=ops1++ops2)(hok:K6 ops1 ops2=true)(hm:E.P.follows .mixedOrders=true)(hR:Bk E Rr)(ha:Lo E ops1.toArray=some anns)
  (h:TD E nt Rr ops1 ops1 (fun ρ' J' eps log=>Obl E eps.reverse anns ops1 log.reverse/\TOX E Ls nt b B ops.toList ops2 (fun ρ J=>Q .normal ρ J) ρ' J') ρ J [J] []):TX E Ls nt b B (.region id ops true) Q ρ J:=by
 intro ro n hro Bs C w tm a df h0 hl hmk ht st hB;obtain⟨c1,c2,c3,c4⟩:=Jm ha;obtain⟨d,k1,k2,k3,ρ',log',k4,k5,k6,k7⟩:=h tm df [] ht trivial;refine wpIn_region_any hm ?_
 have hn2:ro=none∨D6 ops2=true:=hro.imp (fun h=>h) fun h=>by
  simp only[H7,ew,D6,List.all_append,ad_]at h;exact h.2
 have hops':ops=(ops1++ops2).toArray:=gr;have hsz:ops.size=ops1.length+ops2.length:=gr
 have cz:(Array.replicate ops.size false)=(Dq ops1++Dq ops2).toArray:=by
  rw[hsz];unfold Dq
  grind
 have mr:(Array.replicate ops1.toArray.size false)=(Dq ops1).toArray:=by
  unfold Dq
  grind
 have pn:Aiu ops1 (Dq ops1)=true:=by
  unfold K6 at hok
  grind
 have mh:∀a' w',Aej E C (nx J) w [(.normal,d.s)] .normal a' w'->wpAnyIn (Cy ro) n E.P .any (ops1++ops2).toArray (Kg E nt b B Q C w) ops2.length (Jp ops1++Dq ops2).toArray a' w':=by
  intro a' w' he;obtain⟨y,hy,C',h1,h2,h3⟩:=he;rw[ao_]at hy;subst hy;obtain⟨⟨tm',nt',df',J'⟩,eps',dl'⟩:=d;simp only at k2 k3;subst k2 k3
  have ht0:Dq ops2=X8 ops2 0:=by unfold Dq X8;rw[List.map_const'];simp
  rw[ht0];refine Arh hok ops2.length 0 a' w' Om ?_
  refine k7 ro n hn2 Bs C' w' tm' a' _ (fun hh=>(h0 hh).ext (h3.base hB)) (hl.ext (h3.base hB)) hmk k4 h2 (ai_ hB h3.next) (ops1++ops2).toArray ops1.length (Kg E _ b B Q C w) (by rw[ew]) gr fun C2 w2 a2 tm2 ρ2 J2 q1 q2 q3 qB q4=>?_
  exact⟨.normal,tm2,ρ2,J2,C2,_,rfl,q1,q2,q3,hmk,qB,(h3.base hB).trans q4⟩
 have main:wpAnyIn (Cy ro) n E.P .any ops1.toArray (fun e a' w'=>match e with|.normal=>wpAnyIn (Cy ro) n E.P .any (ops1++ops2).toArray (Kg E nt b B Q C w) ops2.length (Jp ops1++Dq ops2).toArray a' w'|e=>Kg E nt b B Q C w e a' w') ops1.toArray.size (Array.replicate ops1.toArray.size false) a { w with drawn:=w.drawn+1 }:=by
  refine Aw7 hm hR st c1 c2 c3 k1 (fun j o t v ho hl hc hg σk hσ=>?_) mh
  obtain⟨ρj,q1,q2⟩:=k5.reverse.get j t v hl;have cv:=Ix (E:=E) (b:=(Region.before ops1.toArray).toList) (effs:=A8 E ops1 0) ops1 0 j o gr;rw[←c4]at cv;simp only[bn_]at cv
  obtain⟨J',hto⟩:=k6.get j _ o ρj v cv gr q1 hc σk (by simp only[Gc];grind)
  have:=hto t q2;refine⟨J',?_⟩
  have hne:B5 (Bc E o.op)=false:=by rw[hc];rfl
  rw[←Iy (Rr:=fun _ _ _=>none) hc];grind
 rw[mr]at main
 have jp:ops1.toArray.size=ops1.length:=by simp
 rw[jp]at main
 have ma:=Alc (F:=Cy ro) (n:=n) (P:=E.P) hok (Q:=Kg E nt b B Q C w) (Q1:=fun e a' w'=>match e with|.normal=>wpAnyIn (Cy ro) n E.P .any (ops1++ops2).toArray (Kg E nt b B Q C w) ops2.length (Jp ops1++Dq ops2).toArray a' w'|e=>Kg E nt b B Q C w e a' w') (fun a' w' hh=>hh) gr ops1.length (Dq ops1) a { w with drawn:=w.drawn+1 } (by unfold Dq;simp) pn (by unfold Dq;simp[List.filter_map]) main
 grind
theorem Abx{E Ls nt b B Q ρ J Rr id ops}(m){anns}(hok:K6 (ops.toList.take m) (ops.toList.drop m)=true)(hm:E.P.follows .mixedOrders=true)(hR:Bk E Rr)(ha:Lo E (ops.toList.take m).toArray=some anns)
  (h:TD E nt Rr (ops.toList.take m) (ops.toList.take m) (fun ρ' J' eps log=>Obl E eps.reverse anns (ops.toList.take m) log.reverse/\TOX E Ls nt b B ops.toList (ops.toList.drop m) (fun ρ J=>Q .normal ρ J) ρ' J') ρ J [J] []):TX E Ls nt b B (.region id ops true) Q ρ J:=
 Arj _ _ (cc_ m _).symm hok hm hR ha h
theorem DR.und{C N w}:∀{df:List (Nat×List AV)} {ds:List Deferred},DR C N w df ds->∀x∈df,AV.unds N x.2=true
 |[],_,_,x,hx=>by cases hx
 |y::r,d::s,h,x,hx=>by
  unfold DR at h;obtain⟨h,h3⟩:=h
  rcases an_.1 hx with rfl|hx
  ·rcases h with⟨h0,cap,h1,h2⟩|⟨h0,a,b,h1,⟨h2,hb,hle⟩,_⟩
   ·exact RL.unds _ _ h2
   ·rw[h1];simp only[AV.unds,AV.und,Nat.blt_eq,Bool.and_true,ad_];exact⟨h2,hb⟩
  ·exact DR.und h3 x hx
 |_::_,[],h,_,_=>by unfold DR at h;exact h.elim
theorem DR.cut{C N M w}(U):∀{df:List (Nat×List AV)} {ds:List Deferred},DR C N w df ds->(∀x∈df,AV.unds M x.2=true)->DR (C.keep U) M w df ds
 |[],[],_,_=>by unfold DR;trivial
 |y::r,d::s,h,hu=>by
  unfold DR at h⊢;obtain⟨h,h3⟩:=h;have hy:=hu y (ap_ ..);refine⟨?_,DR.cut U h3 fun x hx=>hu x (aj_ _ hx)⟩
  rcases h with⟨h0,cap,h1,h2⟩|⟨h0,a,b,h1,⟨h2,hb,hle⟩,g3,g4,g5,g6⟩
  ·exact .inl ⟨h0,cap,h1,RL.cut (C.keep_sub U) _ _ hy h2⟩
  ·have hy':=hy;rw[h1]at hy';simp only[AV.unds,AV.und,Nat.blt_eq,Bool.and_true,ad_]at hy';refine .inr ⟨h0,a,b,h1,⟨hy'.1,hy'.2,hle⟩,g3,fun hh=>g4 ((C.keep_sub U).own hh),g5,fun z hz hk c e hce=>⟨?_,(g6 z hz hk c e hce).2⟩⟩
   have hz':=hu z (aj_ _ hz);rw[hce]at hz';simp only[AV.unds,AV.und,Nat.blt_eq,Bool.and_true,ad_]at hz';exact hz'.1
 |[],_::_,h,_=>by unfold DR at h;exact h.elim
 |_::_,[],h,_=>by unfold DR at h;exact h.elim
theorem SSt.frzD{E}[Se E]{C w tm nt df J U a ρ ρ'}(hud:∀x∈df,AV.unds (nx U) x.2=true)(st:SSt E C w ⟨tm,nt,df,J⟩ a)(ht:Has tm ρ)(hf:Ds J U)(hs:∀i v',Ad.at ρ' i=some v'->∃v,Ad.at ρ i=some v/\Fz J U v v'):
  SSt E (C.keep U) w ⟨Oj ρ',nt,df,U⟩ a:=by
 refine⟨st.sim.frz hf,Iw.frz st.glob,fun i v hv=>?_,st.size,st.dfs.cut U hud⟩
 have hv:(Oj ρ').get i=some v:=hv;rw[Mn]at hv;obtain⟨u,h1,h2⟩:=hs i v hv;exact h2.R st.sim (st.tmps i u (ht i u h1))
theorem Aw8{E}[Se E]{nt B df c Q ρ J}(U ρ')(hud:∀x∈df,AV.unds (nx U) x.2=true)(hf:Ds J U)(hB:B<=nx U)(hs:Mm J U ρ' ρ)(k:T E nt df B c Q ρ' U):T E nt df B c Q ρ J:=
 fun ro n hn C w tm a ht st _=>wpIn_mono (k ro n hn (C.keep U) w _ a (Kf ρ') (st.frzD hud ht hf hs.at) hB) fun e a' w' he=>he.from (en_ C U B w)
section
variable {E:Env}{nt B:Nat}{df:List (Nat×List AV)}{K:Ad->Sto->Prop}{ρ:Ad}{J:Sto}
theorem Amy[Se E]{ops r}(U ρ')(hud:∀x∈df,AV.unds (nx U) x.2=true)(hf:Ds J U)(hB:B<=nx U)(hs:∀i v',Ad.at ρ' i=some v'->∃v,Ad.at ρ i=some v/\Fz J U v v')(k:TO E nt df B ops r K ρ' U):TO E nt df B ops r K ρ J:=
 fun ro n hn C w tm a ht st _ arr i QQ rest h1 h2 hQ=>k ro n hn (C.keep U) w _ a (Kf ρ') (st.frzD hud ht hf hs) hB arr i QQ rest h1 h2 fun C2 w2 a2 tm2 ρ2 J2 q1 q2 q3 qB q4=>hQ C2 w2 a2 tm2 ρ2 J2 q1 q2 q3 qB ((en_ C U B w).trans q4)
theorem Mp{ops r t d sz agg x}{ty ty':Nat}{pos pos' after after' z cs v}(hz:zI E.P t=some z)(hi:ldI E.P t=some (sz,agg))(hl:Nat.beq z.length sz=true)
  (hx:∀u,Ah E ((d,u)::ρ) x=some v)(hv:Ah E ρ x=some v)(hc:v.cellsN sz=some cs)(hd:Nat.blt d nt=true)[Se E]
  (k:TO E nt df B ops r K ((d,.pv cs)::ρ) J):
  TO E nt df B ops ({ dst:=some d,op:=.alloc t,type:=ty,pos:=pos,after:=after,guard:=none }::{ dst:=none,op:=.store t (.tmp d) x,type:=ty',pos:=pos',after:=after',guard:=none }::r) K ρ J:=by
 intro ro n hn C w tm a ht st hB
 have hcs:cs.length=z.length:=by
  have hb:=ac_ hl;have hvR:=Be st.glob st.tmps x;rw[ht.opd hv]at hvR;obtain⟨q1,q2,_⟩:=Hc hc hvR;have:=q1.length;rw[hb];unfold AV.cellsN at hc
  split at hc<;>try (cases hc;done)
  ·cases hb':Nat.beq ‹List AV›.length sz with
   |true=>rw[hb']at hc;cases hc;exact ac_ hb'
   |false=>rw[hb']at hc;cases hc
  ·cases hb':Nat.beq sz 1 with
   |true=>rw[hb']at hc;cases hc;exact(ac_ hb').symm
   |false=>rw[hb']at hc;cases hc
 have hwf:=st.sim.wfs;have hud:=st.dfs.und;have em:∀i u,Ad.at ρ i=some u->AV.und (nx J) u=true:=fun i u hu=>R.und _ _ (st.tmps i u (ht i u hu))
 have hvu:AV.und (nx J) v=true:=by
  have hvR:=Be st.glob st.tmps x;rw[ht.opd hv]at hvR;exact R.und _ _ hvR
 have hcu:AV.unds (nx J) cs=true:=by
  unfold AV.cellsN at hc
  split at hc<;>try (cases hc;done)
  ·cases hb':Nat.beq ‹List AV›.length sz with
   |true=>rw[hb']at hc;cases hc;exact hvu
   |false=>rw[hb']at hc;cases hc
  ·cases hb':Nat.beq sz 1 with
   |true=>rw[hb']at hc;cases hc;simp only[AV.unds,hvu,be_]
   |false=>rw[hb']at hc;cases hc
 have key:TO E nt df B ops ({ dst:=some d,op:=.alloc t,type:=ty,pos:=pos,after:=after,guard:=none }::{ dst:=none,op:=.store t (.tmp d) x,type:=ty',pos:=pos',after:=after',guard:=none }::r) K ρ J:=by
  refine Qg noR (J₁:=J.new (.cells z)) (ρ₁:=(d,.pr (nx J) 0)::ρ) (fun tm' ht'=>⟨_,S9 hz hd,ht'.put d _⟩) ?_
  refine X4 noR rfl rfl (By (vs:=z) (vs':=cs) (ad:=nx J) (off:=0) (v:=v) (cs:=cs) hi (by simp[Ah,Ad.at,aw_]) (hx _) hc Eg (Hh hcs)) ?_
  simp only[Dt];refine Amy J ((d,.pv cs)::ρ) hud ?_ hB ?_ k
  ·refine a_ hwf (by rw[Aq,Ao];exact dm_ _) fun b hb=>?_
   rw[aa_,if_neg Om,ag_,if_neg Om]
  ·intro i u hu;simp only[Ad.at]at hu⊢;cases hb:Nat.beq d i with
   |true=>
    rw[hb]at hu;simp only[cond_true,af_]at hu⊢;subst hu
    refine⟨_,rfl,.pr (vs:=cs) (by rw[aa_,if_pos rfl]) ?_ (dj_ hcu)⟩
    cases hg:J.get (nx J)with
    |none=>rfl
    |some O=>exact absurd (hwf _ _ hg).1 (Nat.lt_irrefl _)
   |false=>rw[hb]at hu;exact⟨u,hu,.same (em i u hu)⟩
 exact key ro n hn C w tm a ht st hB
theorem Aby[Se E]{c Q}(U ρ')(hf:Ds J U)(hn:nx U=nx J)(hs:Mm J U ρ' ρ)(k:T E nt df B c Q ρ' U):T E nt df B c Q ρ J:=
 fun ro n hr C w tm a ht st hB=>Aw8 U ρ' (by rw[hn];exact st.dfs.und) hf (by rw[hn];exact hB) hs k ro n hr C w tm a ht st hB
theorem Oo{Ls b c Q}(h:TX E Ls nt b B c (fun x ρ J=>WFS J->Q x ρ J) ρ J):TX E Ls nt b B c Q ρ J:=fun ro n hr Bs C w tm a df h0 hl hm ht st hB=>
 wpIn_mono (h ro n hr Bs C w tm a df h0 hl hm ht st hB) fun e a' w' ⟨x,tm',ρ',J',C',df',h1,h2,h3,h4,h5⟩=>⟨x,tm',ρ',J',C',df',h1,h2,h3 h4.sim.wfs,h4,h5⟩
end
end Go.AM
