/- A part of the proof; shortened by program. -/
import Derived.Test.YtmkaboegdoadhaaGreatDoorP09
set_option maxRecDepth 100000
set_option maxHeartbeats 4000000
set_option linter.all false
namespace Go.AM
open Go
abbrev SM(C:Type):=List (aH×C)
def kS(s:aH):aQ:=.str (s.map UInt8.toNat)
def Cn{C:Type}(a:C->I)(m:SM C):List (aQ×I):=m.map λp=>(kS p.1,a p.2)
def SM.get{C:Type}:SM C->aH->Option C
 |[],_=>none
 |(k,v)::r,s=>if s=k then some v else SM.get r s
def SM.set{C:Type}:SM C->aH->C->SM C
 |[],_,_=>[]
 |(k,v)::r,s,x=>if s=k then(k,x)::r else(k,v)::SM.set r s x
def SM.ins{C:Type}:SM C->aH->C->SM C
 |[],s,x=>[(s,x)]
 |(k,v)::r,s,x=>if aQ.lt (kS s) (kS k)then(s,x)::(k,v)::r else(k,v)::SM.ins r s x
def SM.put{C:Type}(m:SM C)(s:aH)(x:C):SM C:=match m.get s with|some _=>m.set s x|none=>m.ins s x
def SM.has(m:SM Bool)(s:aH):Bool:=(m.get s).getD false
theorem sL(a b):aQ.eq (kS a) (kS b)=decide (a=b):=by
 show Fm _ _=_
 by_cases h:a=b
 ·rw[decide_eq_true h];subst h;exact(Gu _ _).2 rfl
 ·rw[decide_eq_false h];cases c:Fm (a.map UInt8.toNat) (b.map UInt8.toNat)with
  |true=>exact absurd (Fu.1 ((Gu _ _).1 c)) h
  |false=>rfl
section
variable {α:Type}{enc:α->I}{m:SM α}{s t:aH}{x:α}
theorem Ih:∀{m:SM α},D5 (kS s) (Cn enc m)=(m.get s).map enc
 |[]=>rfl
 |(k,v)::r=>by
  show cond (aQ.eq (kS s) (kS k)) (some (enc v)) (D5 (kS s) (Cn enc r))=_
  rw[sL,SM.get]
  by_cases h:s=k
  ·rw[decide_eq_true h,cond_true,if_pos h];rfl
  ·rw[decide_eq_false h,cond_false,if_neg h];exact Ih
theorem HR:∀{m:SM α},Ph (kS s) (enc x) (Cn enc m)=Cn enc (m.set s x)
 |[]=>rfl
 |(k,v)::r=>by
  show cond (aQ.eq (kS s) (kS k)) ((kS k,enc x)::Cn enc r) ((kS k,enc v)::Ph (kS s) (enc x) (Cn enc r))=_
  rw[sL,SM.set]
  by_cases h:s=k
  ·rw[decide_eq_true h,cond_true,if_pos h];rfl
  ·rw[decide_eq_false h,cond_false,if_neg h,HR];rfl
theorem Abn:∀{m:SM α},Nx (kS s) (enc x) (Cn enc m)=Cn enc (m.ins s x)
 |[]=>rfl
 |(k,v)::r=>by
  show cond (aQ.lt (kS s) (kS k)) ((kS s,enc x)::(kS k,enc v)::Cn enc r) ((kS k,enc v)::Nx (kS s) (enc x) (Cn enc r))=_
  rw[SM.ins];cases h:aQ.lt (kS s) (kS k)
  ·rw[cond_false,if_neg zS,Abn];rfl
  ·rw[cond_true,if_pos rfl];rfl
theorem Aq7:tC (kS s) (enc x) (Cn enc m)=Cn enc (m.put s x):=by
 unfold tC SM.put;rw[Ih];cases m.get s with
 |none=>exact Abn
 |some y=>exact HR
theorem SM.get_set:∀{m:SM α},(m.set s x).get t=if t=s/\(m.get s).isSome then some x else m.get t
 |[]=>by simp[SM.set,SM.get]
 |(k,v)::r=>by
  unfold SM.set
  by_cases h:s=k
  ·subst h;rw[if_pos rfl];simp only[SM.get,if_true,AC,and_true]
   by_cases a:t=s
   ·simp[a]
   ·simp[a]
  ·rw[if_neg h];simp only[SM.get,if_neg h]
   by_cases a:t=k
   ·subst a;rw[if_pos rfl,if_pos rfl,if_neg (λb=>h b.1.symm)]
   ·rw[if_neg a,if_neg a];exact SM.get_set
theorem SM.get_ins:∀{m:SM α},m.get s=none->(m.ins s x).get t=if t=s then some x else m.get t
 |[],_=>by simp[SM.ins,SM.get]
 |(k,v)::r,c=>by
  have b:s≠k:=λh=>by simp[SM.get,h]at c
  have d:SM.get r s=none:=by simpa[SM.get,b]using c
  unfold SM.ins
  split
  ·simp only[SM.get]
  ·simp only[SM.get]
   by_cases a:t=k
   ·subst a;rw[if_pos rfl,if_neg (λh=>b h.symm),if_pos rfl]
   ·rw[if_neg a,if_neg a];exact SM.get_ins d
theorem SM.get_put:(m.put s x).get t=if t=s then some x else m.get t:=by
 unfold SM.put;cases h:m.get s with
 |none=>exact SM.get_ins h
 |some y=>simp only[SM.get_set,h,AC,and_true]
abbrev dP:=@SM.get_put
theorem SM.len_set:∀{m:SM α},(m.set s x).length=m.length
 |[]=>rfl
 |(k,v)::r=>by unfold SM.set;split<;>simp[SM.len_set]
theorem SM.len_ins:∀{m:SM α},(m.ins s x).length=m.length+1
 |[]=>rfl
 |(k,v)::r=>by unfold SM.ins;split<;>simp[SM.len_ins]
theorem SM.len_put:(m.put s x).length=if(m.get s).isSome then m.length else m.length+1:=by
 unfold SM.put;cases h:m.get s with
 |none=>exact SM.len_ins
 |some y=>exact SM.len_set
theorem SM.has_put{m:SM Bool}:(m.put s true).has t=(decide (t=s)||m.has t):=by
 unfold SM.has;rw[dP]
 by_cases h:t=s
 ·rw[if_pos h,decide_eq_true h];rfl
 ·rw[if_neg h,decide_eq_false h];rfl
abbrev nD:=@SM.has_put
theorem QR{N}(h:∀a,I.und N (enc a)=true)(m):Jc N (Cn enc m)=true:=by
 unfold Jc Cn;rw[List.all_map,b_];intro p _;exact h p.2
end
def B8{C:Type}(a:C->I)(J:F)(r:Nat)(m:SM C):Prop:=∃b,J.get r=some (.map 9 (Cn a m) b)
abbrev Fi(J:F)(r:Nat)(m:SM Bool):Prop:=B8 bV J r m
section
variable {E:aZ}{ρ:Ad}{J J':F}{Rr:bP}{t:Nat}{x y w:Operand}{α:Type}{enc:α->I}{m:SM α}{s:aH}{r:Nat}
theorem lN(h:Fs E.P 9=true):D4 E.P 9 (sV s)=some (kS s):=by
 unfold Fs at h
 split at h
 ·rename_i c a
  split at h
  ·rename_i b
   unfold D4;simp only[a,b]
   rfl
  ·cases h
 ·cases h
theorem W4{U T e}(a:Fs E.P 9=true)(L:cq E.P t=some (9,U,T,e))(W:Ah E ρ x=some (.mp r))(K:B8 enc J r m)(B:Ah E ρ y=some (sV s)):
  As E Rr (.lookup t x y false) ρ J (((m.get s).map enc).getD U) J:=by
 have:=OH (Rr:=Rr) L W (show Xz J 9 (Cn enc m) (.mp r)from K) B (lN a)
 rwa[Ih]at this
theorem vY{U T e}(a:Fs E.P 9=true)(L:cq E.P t=some (9,U,T,e))(W:Ah E ρ x=some (.mp r))(K:B8 enc J r m)(B:Ah E ρ y=some (sV s)):
  As E Rr (.lookup t x y true) ρ J (.tup [((m.get s).map enc).getD U,.bool (m.get s).isSome]) J:=by
 have:=RW (Rr:=Rr) L W (show Xz J 9 (Cn enc m) (.mp r)from K) B (lN a)
 rwa[Ih,Option.isSome_map]at this
theorem De{T a m}(b:Fs E.P 9=true)(L:cq E.P t=some (9,.bool false,T,a))(W:Ah E ρ x=some (.mp r))(K:Fi J r m)(B:Ah E ρ y=some (sV s)):
  As E Rr (.lookup t x y false) ρ J (.bool (m.has s)) J:=by
 have:=W4 (Rr:=Rr) b L W K B
 have e:((m.get s).map bV).getD (.bool false)=.bool (m.has s):=by unfold SM.has;cases m.get s<;>rfl
 rwa[e]at this
theorem Gh{U T a e v}(c:Fs E.P 9=true)(L:cq E.P t=some (9,U,T,e))(W:Ah E ρ x=some (.mp r))(K:J.get r=some (.map 9 (Cn enc m) a))
  (B:Ah E ρ y=some (sV s))(i:Ah E ρ w=some (enc v))(N:∀b:TI,b.size=T->b.isAgg=e->Je b (enc v)=true):
  As E Rr (.mapUpdate t x y w) ρ J An (J.set r (.map 9 (Cn enc (m.put s v)) (a+1))):=by
 have:=RH (Rr:=Rr) L W K B (lN c) i N
 rwa[Aq7]at this
end
theorem I0{y n b}(_:y.size=n)(h:y.isAgg=false):Je y (bV b)=true:=by unfold bV Je;rw[h];rfl
theorem I1{y n s}(_:y.size=n)(h:y.isAgg=false):Je y (sV s)=true:=by unfold sV Je;rw[h];rfl
theorem I2{y n k i}(_:y.size=n)(h:y.isAgg=false):Je y (.int k i)=true:=by unfold Je;rw[h];rfl
theorem Jn{y n r}(_:y.size=n)(h:y.isAgg=false):Je y (.mp r)=true:=by unfold Je;rw[h];rfl
theorem H6{y n a}(S:y.size=n)(h:y.isAgg=true)(P:a.length=n):Je y (.agg a)=true:=by
 show(y.isAgg&&Nat.beq a.length y.size)=true
 rw[h,S,P,cb];rfl
section
variable {J J':F}{α:Type}{enc:α->I}{m:SM α}{r a:Nat}
theorem B8.lt(i:bY J)(h:B8 enc J r m):r<O J:=by obtain⟨v,h⟩:=h;exact(i _ _ h).1
theorem B8.of_get(h:B8 enc J r m)(H:J'.get r=J.get r):B8 enc J' r m:=by obtain⟨v,h⟩:=h;exact⟨v,H.trans h⟩
theorem B8.new(h:B8 enc J r m)(i:r<O J){o}:B8 enc (J.new o) r m:=h.of_get (by rw[a5,if_neg z])
theorem B8.set(h:B8 enc J r m){o}(d:r≠a):B8 enc (J.set a o) r m:=h.of_get (by rw[aU,if_neg z])
theorem B8.put{a}:B8 enc (J.set r (.map 9 (Cn enc m) a)) r m:=⟨a,by rw[aU,if_pos rfl]⟩
abbrev iH:=@B8.put
theorem B8.fresh{a}:B8 enc (J.new (.map 9 (Cn enc m) a)) (O J) m:=⟨a,by rw[a5,if_pos rfl]⟩
end
section
variable {E:aZ}{nt B:Nat}{df:List (Nat×List I)}{Q:Cc}{Rr:bP}{ops r:List Oper}{K:KD}{ρ:Ad}{J U:F}{eps:List F}{log:List (Ad×I)}
theorem LF{o b}(H:∀a,Has a ρ->Bn ops o a=some false)(p:B5 (Bc E o.op)=b)(g:B0 nt o.dst=true)
  (k:TD E nt Rr ops r K (Dt o.dst An ρ) J (cond b (J::eps) eps) ((ρ,An)::log)):TD E nt Rr ops (o::r) K ρ J eps log:=by
 intro a d e f l;obtain⟨c,i,j⟩:=C6 (dst:=o.dst) g f An
 have:Rc E ops o Rr ⟨⟨a,nt,d,J⟩,eps,e⟩=some ⟨⟨c,nt,d,J⟩,cond b (J::eps) eps,(a,An)::e⟩:=by
  unfold Rc;simp only[H a f,i,p];cases b<;>rfl
 obtain⟨h,m,n⟩:=k c d ((a,An)::e) j ⟨f,rfl,l⟩
 exact⟨h,by simp only[T9,this];exact m,n⟩
theorem Ta{o a}{j d:Nat}{b n e}(H:o.guard=some (j,n))(h:ops[j]? =some a)(t:a.dst=some d)(Q:Ad.at ρ d=some (.bool b))(i:cond b n (!n)=false)
  (p:B5 (Bc E o.op)=e)(g:B0 nt o.dst=true)
  (k:TD E nt Rr ops r K (Dt o.dst An ρ) J (cond e (J::eps) eps) ((ρ,An)::log)):TD E nt Rr ops (o::r) K ρ J eps log:=
 LF (λf c=>by rw[Hf c H h t Q,i]) p g k
theorem Zy{o a}{j d:Nat}{n e}(H:o.guard=some (j,n))(h:ops[j]? =some a)(t:a.dst=some d)(Q:Ad.at ρ d=some An)
  (p:B5 (Bc E o.op)=e)(g:B0 nt o.dst=true)
  (k:TD E nt Rr ops r K (Dt o.dst An ρ) J (cond e (J::eps) eps) ((ρ,An)::log)):TD E nt Rr ops (o::r) K ρ J eps log:=
 LF (λc b=>by simp only[Bn,H,h,t,b d _ Q];rfl) p g k
theorem Uu{C enc t T b a g}{l:List C}{x lo k}(N:fM E.P t=some (T,b,g))(p:∀a,(enc a).length=T)
  (W:Ah E ρ x=some (aD enc T l))(u:Iz E ρ lo=some (some (.int k (.ofNat a))))(c:a<=l.length):As E Rr (.slice t x lo none none) ρ J (aD enc T (l.drop a)) J:=by
 have f:Do l.length none (some (.int k (.ofNat a))) none none=some (a,l.length,none):=by
  have d:Nat.ble a l.length=true:=dS c;have e:Nat.ble l.length l.length=true:=dS Y;simp only[Do,My,d,Li,e,cond_true,dR,Mz]
 have:=yP (Rr:=Rr) (J:=J) (lo:=lo) (hi:=none) (mx:=none) N p W u rfl rfl f c Y;rw[List.take_length]at this
 rwa[show aD enc T (l.drop a)=.sv ((l.drop a).flatMap enc) T (l.length-a) none by rw[<-oV];rfl]
theorem Bo{c}(h:bY J->T E nt df B c Q ρ J):T E nt df B c Q ρ J:=λg n e C w i a f b d=>h b.sim.wfs g n e C w i a f b d
theorem BF{c i v}(L:Ad.at ρ i=some v)(h:I.und (O J) v=true->T E nt df B c Q ρ J):T E nt df B c Q ρ J:=λg n f C w j a b d e=>h (R.und _ _ (d.tmps i v (b i v L))) g n f C w j a b d e
def IN(L:Ad)(U:F):Cc
 |.normal=>λa J=>Km L a/\J=U
 |_=>λ_ _=>False
theorem US{x y}(L U)(h:T E nt df B x (IN L U) ρ J)(k:T E nt df B y Q L U):T E nt df B (.seq x y) Q ρ J:=by
 refine sN (h.mono λe c d a=>?_)
 cases e with
 |normal=>obtain⟨b,rfl⟩:=a;exact k.sub b
 |exit _=>exact a.elim
 |ret=>exact a.elim
theorem Ad.at_app:∀(L a:Ad) (i:Nat),Ad.at (L++a) i=(Ad.at L i).or (Ad.at a i)
 |[],a,i=>rfl
 |(j,v)::r,a,i=>by
  show cond (Nat.beq j i) (some v) (Ad.at (r++a) i)=(cond (Nat.beq j i) (some v) (Ad.at r i)).or _
  cases Nat.beq j i with
  |true=>rfl
  |false=>exact Ad.at_app r a i
abbrev R0:=@Ad.at_app
def FX(L f:Ad)(U:F):Cc
 |.normal=>λa J=>Km L a/\Hy f a/\J=U
 |_=>λ_ _=>False
theorem Gg{x y}(L)(h:T E nt df B x (FX L ρ J) ρ J)(k:T E nt df B y Q (L++ρ) J):T E nt df B (.seq x y) Q ρ J:=by
 refine sN (h.mono λe r s d=>?_)
 cases e with
 |normal=>
  obtain⟨g,j,rfl⟩:=d;refine λo n m C w q a f p l=>k o n m C w q a (λi v b=>?_) p l
  rw[R0]at b;cases c:Ad.at L i with
  |some u=>rw[c]at b;cases b;exact f i _ (g.at i _ c)
  |none=>rw[c]at b;exact f i v (j i v b)
 |exit _=>exact d.elim
 |ret=>exact d.elim
def FE(P:Ad->F->Prop):Cc
 |.normal=>λa J=>∃L,Km L a/\P L J
 |_=>λ_ _=>False
theorem XH{x y}(P)(h:T E nt df B x (FE P) ρ J)(k:∀L U,P L U->T E nt df B y Q L U):T E nt df B (.seq x y) Q ρ J:=by
 refine sN (h.mono λe f b a=>?_)
 cases e with
 |normal=>obtain⟨L,c,d⟩:=a;exact(k L b d).sub c
 |exit _=>exact a.elim
 |ret=>exact a.elim
end
def gQ(a b:aH):Bool:=C8 (a.map UInt8.toNat) (b.map UInt8.toNat)
section
variable {E:aZ}{ρ:Ad}{J J':F}{Rr:bP}{t ty n:Nat}{x y:Operand}
theorem xo{P}(h:Zv P t=true):∃a,Ay P t=some a/\a.desc=.bool:=by
 unfold Zv at h
 split at h
 ·rename_i a b
  split at h
  ·rename_i c;exact⟨a,b,c⟩
  ·cases h
 ·cases h
theorem sE{a b}(L:Zv E.P t=true)(W:Ah E ρ x=some (.bool a))(B:Ah E ρ y=some (.bool b)):As E Rr (.binOp .eql t x y ty) ρ J (.bool (a==b)) J:=λf h=>by
 obtain⟨e,c,d⟩:=xo L;simp only[bB,Aw,h.opd W,h.opd B,Wb,c,d,Sx];cases a<;>cases b<;>rfl
theorem uX{a b}(L:cW E.P t=true)(W:Ah E ρ x=some (sV a))(B:Ah E ρ y=some (sV b)):As E Rr (.binOp .geq t x y ty) ρ J (.bool (!gQ a b)) J:=CE L W B rfl
theorem Aw3{l m a b}(L:cW E.P t=true)(W:Ah E ρ x=some (.agg l))(B:Ah E ρ y=some (.agg m))(c:Cm x=false)(d:Cm y=false)(u:D4 E.P t (.agg l)=some a)(r:D4 E.P t (.agg m)=some b):
  As E Rr (.binOp .neq t x y ty) ρ J (.bool (!aQ.eq a b)) J:=λg h=>by
 obtain⟨f,e⟩:=Nl L;simp only[bB,Aw,h.opd W,h.opd B,c,d,Wb,e,Ir,Bool.or_self,cond_false,Pn,u,r,Sx]
theorem vX{s T e U}(L:cq E.P t=some (s,U,T,e)):∃a b,Ay E.P t=some a/\a.desc=.map s b:=by
 obtain⟨a,b,f,c,d,_⟩:=mI L;exact⟨a,b,c,d⟩
theorem FR{C a}{m:SM C}{r s T e U}(L:cq E.P t=some (s,U,T,e))(W:Ah E ρ x=some (.mp r))(K:B8 a J r m):
  As E Rr (.call ⟨.builtin .len,#[x],#[t]⟩) ρ J (.int .i64 (.ofNat m.length)) J:=λj h=>by
 obtain⟨i,g,b,c⟩:=vX L;obtain⟨f,d⟩:=K;simp only[bB,Aw,b,Ee,c,h.opd W,opds,T6,d,Ak,Cn,jT]
theorem TP{r s T e U}(L:cq E.P t=some (s,U,T,e))(W:Ah E ρ x=some (.mp r)):As E Rr (.binOp .eql t x (.const (.map none)) ty) ρ J (.bool false) J:=λf h=>by
 obtain⟨d,c,a,b⟩:=vX L;simp only[bB,Aw,h.opd W,Cm,Wb,a,Bool.or_true,Ir,cond_true];simp only[b]
 rfl
theorem Ara{s T e U}(L:cq E.P t=some (s,U,T,e))(W:Ah E ρ x=some (.nil (.map none))):As E Rr (.binOp .eql t x (.const (.map none)) ty) ρ J (.bool true) J:=λf h=>by
 obtain⟨d,c,a,b⟩:=vX L;simp only[bB,Aw,h.opd W,Cm,Wb,a,Bool.or_true,Ir,cond_true];simp only[b]
 rfl
theorem Aoz{C b}{m:SM C}{r s T a e U}(L:cq E.P t=some (s,U,T,e))(W:Ah E ρ x=some (.mp r))(K:J.get r=some (.map 9 (Cn b m) a)):
  As E Rr (.call ⟨.builtin .clear,#[x],#[t]⟩) ρ J An (J.set r (.map 9 [] (a+1))):=λi h=>by
 obtain⟨g,f,c,d⟩:=vX L;simp only[bB,Aw,c,Ee,d,h.opd W,opds,Q9,K,Ak]
theorem Θ(a b):xq a b=min a b:=by
 unfold xq;have:=Ec (a:=a) (b:=b);rw[this]
 by_cases h:a<=b
 ·rw[decide_eq_true h,cond_true];omega
 ·rw[decide_eq_false h,cond_false];omega
theorem ZW(a b):Ll a b=max a b:=by
 unfold Ll;have:=Ec (a:=b) (b:=a);rw[this]
 by_cases h:b<=a
 ·rw[decide_eq_true h,cond_true];omega
 ·rw[decide_eq_false h,cond_false];omega
theorem BE{k p q}(L:cW E.P t=true){tys:Nat}(W:Ah E ρ x=some (.int k p))(B:Ah E ρ y=some (.int k q)):As E Rr (.call ⟨.builtin .max,#[x,y],#[t,tys]⟩) ρ J (.int k (max p q)) J:=λc h=>by
 obtain⟨b,a⟩:=Nl L;simp only[bB,Aw,a,Ee,h.opd W,h.opd B,opds,Xm,Qd,cond_true,ZW]
theorem G'{k p q}(L:cW E.P t=true){tys:Nat}(W:Ah E ρ x=some (.int k p))(B:Ah E ρ y=some (.int k q)):As E Rr (.call ⟨.builtin .min,#[x,y],#[t,tys]⟩) ρ J (.int k (min p q)) J:=λc h=>by
 obtain⟨b,a⟩:=Nl L;simp only[bB,Aw,a,Ee,h.opd W,h.opd B,opds,Xm,Qd,cond_true,Θ]
end
section
variable {E:aZ}{ρ:Ad}{J J':F}{Rr:bP}{t ty n a i:Nat}{x y:Operand}{α:Type}{enc:α->List I}{sz by':Nat}{l:List α}
theorem Ro:∀{p q u v:List I},u.length=q.length->Et (p++q++v) p.length u=some (p++u++v)
 |[],q,u,v,h=>by
  simp only[fK,lP];exact go h
 |x::p,q,u,v,h=>by
  simp only[dL,cZ,Et,Ro h]
 where
 go:∀{q u v:List I},u.length=q.length->Et (q++v) 0 u=some (u++v)
  |[],[],v,_=>by cases v<;>rfl
  |y::q,a::u,v,h=>by
   have:=go (q:=q) (u:=u) (v:=v) (by simpa using h)
   simp only[dL,Et,this]
  |[],_::_,_,h=>by simp at h
  |_::_,[],_,h=>by simp at h
theorem WC(p:∀a,(enc a).length=sz){b}(L:i<l.length)(c):Et (l.flatMap enc++c) (i*sz) (enc b)=some ((l.set i b).flatMap enc++c):=by
 have d:l=l.take i++l[i]::l.drop (i+1):=by rw[<-iF L,gK]
 have e:l.set i b=l.take i++b::l.drop (i+1):=List.set_eq_take_append_cons_drop▸by rw[if_pos L]
 have f:((l.take i).flatMap enc).length=i*sz:=by rw[Dl p,gC,nO (q' L)]
 have g:l.flatMap enc++c=(l.take i).flatMap enc++enc l[i]++((l.drop (i+1)).flatMap enc++c):=by
  refine(congrArg (λk=>List.flatMap enc k++c) d).trans ?_
  simp only[mV,ej,iC]
 rw[g,e,<-f,Ro (by rw[p,p])]
 simp only[mV,ej,iC]
theorem Br{p k m cap}(L:fM E.P t=some (sz,by',p))(W:Ah E ρ x=some (.sr a 0 sz m cap))(B:Ah E ρ y=some (.int k (.ofNat i)))(K:i<m):
  As E Rr (.indexAddr t x y) ρ J (.pr a (i*sz)) J:=by
 have h:=MO (Rr:=Rr) (J:=J) L W B (m:=m) rfl rfl K
 have e:xb (.sr a 0 sz m cap) (i*sz)=.pr a (i*sz):=by show I.pr a (0+i*sz)=_;rw[dE]
 rwa[e]at h
theorem Dg{u v e tl}(p:∀a,(enc a).length=sz)(L:gN E.P t=some (sz,e))(W:Ah E ρ x=some (.pr a (i*sz)))(H:J.get a=some (.cells (l.flatMap enc++tl)))(c:l[i]? =some u)(b:∀r,Cz sz e (enc u++r)=some v):
  As E Rr (.load t x) ρ J v J:=by
 refine Ac (cs:=(l.flatMap enc++tl).drop (i*sz)) L W (by simp only[Em,F.cells,H]) ?_
 have L:=(bQ.1 c).1
 have d:i*sz<=(l.flatMap enc).length:=by rw[Dl p];exact wH _ (q' L)
 rw[OJ d,KM p c,iC];exact b _
theorem Tb{u v e tl}(p:∀a,(enc a).length=sz)(L:gN E.P t=some (sz,e))(W:Ah E ρ x=some (.pr a (i*sz)))(B:Ah E ρ y=some v)(P:v.cellsN sz=some (enc u))(H:J.get a=some (.cells (l.flatMap enc++tl)))(d:i<l.length):
  As E Rr (.store t x y) ρ J An (J.set a (.cells ((l.set i u).flatMap enc++tl))):=
 By L W B P (by simp only[F.cells,H]) (WC p d tl)
theorem JR{p k m b d}(N:fM E.P t=some (sz,by',p))(W:Ah E ρ x=some (.sr a 0 sz m none))(u:Iz E ρ d=some (some (.int k (.ofNat b))))(Q:b<=m):
  As E Rr (.slice t x d none none) ρ J (.sr a (b*sz) sz (m-b) none) J:=λq h=>by
 obtain⟨w,e,v,j,l,n,o,r,s⟩:=Qc N;subst o
 have c:Do m none (some (.int k (.ofNat b))) none none=some (b,m,none):=by
  have g:Nat.ble b m=true:=dS Q;have i:Nat.ble m m=true:=dS Y;simp only[Do,My,g,Li,i,cond_true,dR,Mz]
 have f:opdO E q none=none:=rfl;simp only[bB,Aw,j,l,n,h.opd W,h.opdO u,f,Lj,cb,c,Ak,dE]
theorem Uv{p k m b L y}(N:fM E.P t=some (sz,by',p))(W:Ah E ρ x=some (.sr a 0 sz m y))(u:Iz E ρ L=some (some (.int k (.ofNat b))))(Q:b<=m):
  As E Rr (.slice t x none L none) ρ J (.sr a 0 sz b (Mz y 0)) J:=λo h=>by
 obtain⟨v,e,s,i,j,l,n,q,r⟩:=Qc N;subst n
 have c:Do m y none (some (.int k (.ofNat b))) none=some (0,b,Mz y 0):=by
  have f:Nat.ble b m=true:=dS Q;have g:Nat.ble 0 b=true:=dS (bU _);simp only[Do,My,g,Li,f,cond_true,dR]
 have d:opdO E o none=none:=rfl;simp only[bB,Aw,i,j,l,h.opd W,h.opdO u,d,Lj,cb,c,Ak,lH,oE,mO]
theorem Amr{U}:∀n,(rep U n).length=n*U.length
 |0=>by simp[rep]
 |n+1=>by simp only[rep,gW,Amr n,ya];omega
theorem LK{U c m b y}(g:∀a,(enc a).length=sz)(N:fM E.P t=some (sz,by',some U))(i:Nat.beq U.length sz=true)(W:Ah E ρ x=some (.sr a (b*sz) sz m y))(H:J.get a=some (.cells (l.flatMap enc++c)))(d:b+m=l.length):
  As E Rr (.call ⟨.builtin .clear,#[x],#[t]⟩) ρ J An (J.set a (.cells ((l.take b).flatMap enc++(rep U m++c)))):=λG h=>by
 obtain⟨C,e,w,o,q,r,s,B,u⟩:=Qc N;subst s
 have j:l.flatMap enc++c=(l.take b).flatMap enc++(l.drop b).flatMap enc++c:=by rw[<-mV,gK]
 have k:((l.take b).flatMap enc).length=b*w.size:=by rw[Dl g,gC];congr 1;omega
 have n:(rep U m).length=((l.drop b).flatMap enc).length:=by rw[Amr,Dl g,oV,bK i];congr 1;omega
 have f:=Ro (p:=(l.take b).flatMap enc) (v:=c) n;rw[k,<-j,iC]at f;simp only[bB,Aw,o,Ee,q,r,u,i,h.opd W,opds,yv,cb,F.cells,H,f]
end
def aW(J:F)(N:Nat){C:Type}(b:C->List I)(T:Nat)(l:List C)(v:I):Prop:=
 (l=[]/\(v=.nil (.slice none 0 0)\/v=.sv [] T 0 (some 0)))\/∃a c,N<=a/\a<O J/\v=.sr a 0 T l.length none/\J.get a=some (.cells (l.flatMap b++c))
section
variable {E:aZ}{ρ:Ad}{J J' U:F}{Rr:bP}{t ty n a i N:Nat}{x y:Operand}{α:Type}{enc:α->List I}{sz by':Nat}{l m:List α}{v:I}
theorem aW.nil:aW J N enc sz ([]:List α) (.nil (.slice none 0 0)):=.inl ⟨rfl,.inl rfl⟩
theorem aW.emp:aW J N enc sz ([]:List α) (.sv [] sz 0 (some 0)):=.inl ⟨rfl,.inr rfl⟩
theorem aW.lenA(h:aW J N enc sz l v):lenA v=some l.length/\pz v=true:=by
 rcases h with⟨rfl,rfl|rfl⟩|⟨a,b,_,_,rfl,_⟩<;>exact⟨rfl,rfl⟩
theorem aW.mono(h:aW J N enc sz l v)(S:O J<=O J')(H:∀a b,v=.sr a 0 sz l.length none->N<=a->a<O J->J.get a=some (.cells (l.flatMap enc++b))->J'.get a=J.get a):aW J' N enc sz l v:=by
 rcases h with h|⟨a,b,c,f,d,e⟩
 ·exact .inl h
 ·exact .inr ⟨a,b,c,by omega,d,(H a b d c f e).trans e⟩
theorem aW.app(p:∀a,(enc a).length=sz)(R:N<=O J)(h:aW J N enc sz l v)(m)(j:(l.length+m.length)*(by'+1)<=az):
  ∃q g,B6 J sz by' v m.length (m.flatMap enc)=some (q,g)/\aW g N enc sz (l++m) q/\Below N J g/\
   (∀b,b<O J->(∀c,v=.sr c 0 sz l.length none->b≠c)->g.get b=J.get b):=by
 cases m with
 |nil=>
  refine⟨v,J,?_,by simpa using h,mE,λ_ _ _=>rfl⟩
  simp only[lP,B6]
  rcases h with⟨_,rfl|rfl⟩|⟨a,i,_,_,rfl,_⟩<;>rfl
 |cons b m=>
  have o:Nat.ble ((l.length+(b::m).length)*(by'+1)) az=true:=dS j
  have d:∀(c:List α) (U:F),N<=O U->aW (U.new (.cells (c.flatMap enc))) N enc sz c (.sr (O U) 0 sz c.length none):=λc U n=>
   .inr ⟨O U,[],n,by rw[Ao];omega,rfl,by rw[a5,if_pos rfl,dA]⟩
  rcases h with⟨rfl,rfl|rfl⟩|⟨a,i,x,y,rfl,w⟩
  ·have e:Nat.ble ((m.length+1)*(by'+1)) az=true:=dS (by simpa using j)
   refine⟨.sr (O J) 0 sz (b::m).length none,J.new (.cells ((b::m).flatMap enc)),?_,d _ _ R,⟨by rw[Ao];omega,λc f=>by rw[a5,if_neg z]⟩,λc f _=>by rw[a5,if_neg z]⟩
   simp only[cZ,B6,Ja,dE,e,cond_true,Ak,fK]
  ·have e:Nat.ble ((m.length+1)*(by'+1)) az=true:=dS (by simpa using j)
   have u:Nat.ble (m.length+1) 0=false:=rfl
   refine⟨.sr (O J) 0 sz (b::m).length none,J.new (.cells ((b::m).flatMap enc)),?_,d _ _ R,⟨by rw[Ao];omega,λc f=>by rw[a5,if_neg z]⟩,λc f _=>by rw[a5,if_neg z]⟩
   simp only[cZ,B6,cb,u,tF,dR,cond_true,Ja,dE,e,Ak,fK]
  ·have t:J.cells a=some (l.flatMap enc++i):=by unfold F.cells;rw[w]
   have s:Dr (l.length*sz) ((l.flatMap enc++i).drop 0)=some (l.flatMap enc):=by
    have:=D0 (l:=l.flatMap enc) (r:=i)
    rwa[Dl p]at this
   simp only[cZ]at o
   refine⟨.sr (O J) 0 sz (l++b::m).length none,(J.kill a).new (.cells (l.flatMap enc++(b::m).flatMap enc)),?_,?_,⟨by rw[Ao,B3];omega,λc f=>?_⟩,λc f k=>?_⟩
   ·simp only[cZ,B6,cb,cond_true,t,s,Ja,o,Ak,B3,gW]
   ·rw[<-mV]
    have:=d (l++b::m) (J.kill a) (by rw[B3];exact R)
    rwa[B3]at this
   ·rw[a5,B3,if_neg z,dF,if_neg z]
   ·rw[a5,B3,if_neg z,dF,if_neg (k a rfl)]
abbrev iS:=@aW.app
theorem aW.fz(g:∀a,(enc a).length=sz)(h:aW J N enc sz l v)(p:∀a,N<=a->U.get a=none)(i:I.unds (O U) (l.flatMap enc)=true):Fz J U v (aD enc sz l):=by
 rcases h with⟨rfl,rfl|rfl⟩|⟨a,c,e,_,rfl,f⟩
 ·exact .nils (λq b=>by cases b)
 ·exact .sv (λq b=>by cases b) .nil
 ·have d:Dr (l.length*sz) ((l.flatMap enc++c).drop 0)=some (l.flatMap enc):=by
   have:=D0 (l:=l.flatMap enc) (r:=c)
   rwa[Dl g]at this
  exact .sr f (p a e) d (jg i)
def pL(J:F)(N:Nat){C:Type}(a:C->List I)(T:Nat)(l:List C)(v:I):Prop:=v=.sv (l.flatMap a) T l.length (some l.length)\/aW J N a T l v
theorem pL.app(p:∀a,(enc a).length=sz)(R:N<=O J)(h:pL J N enc sz l v)(m)(f:(l.length+m.length)*(by'+1)<=az):
  ∃e d,B6 J sz by' v m.length (m.flatMap enc)=some (e,d)/\pL d N enc sz (l++m) e/\Below N J d/\
   (∀b,b<O J->(∀c,v=.sr c 0 sz l.length none->b≠c)->d.get b=J.get b):=by
 rcases h with rfl|h
 ·cases m with
  |nil=>exact⟨_,J,rfl,.inl (by rw[dA]),mE,λ_ _ _=>rfl⟩
  |cons b m=>
   have o:Nat.ble ((l.length+(m.length+1))*(by'+1)) az=true:=dS f
   have g:Nat.ble (l.length+(m.length+1)) l.length=false:=by
    cases r:Nat.ble (l.length+(m.length+1)) l.length with
    |true=>exact absurd (dB r) z
    |false=>rfl
   refine⟨.sr (O J) 0 sz (l++b::m).length none,J.new (.cells ((l++b::m).flatMap enc)),?_,.inr (.inr ⟨O J,[],R,by rw[Ao];omega,rfl,by rw[a5,if_pos rfl,dA]⟩),⟨by rw[Ao];omega,λc q=>by rw[a5,if_neg z]⟩,λc q _=>by rw[a5,if_neg z]⟩
   simp only[cZ,B6,cb,g,tF,dR,cond_true,Ja,o,Ak,gW,mV]
 ·obtain⟨e,d,i,j,k,n⟩:=h.app p R m f;exact⟨e,d,i,.inr j,k,n⟩
theorem pL.fz(c:∀a,(enc a).length=sz)(h:pL J N enc sz l v)(p:∀a,N<=a->U.get a=none)(b:I.unds (O U) (l.flatMap enc)=true):Fz J U v (aD enc sz l):=by
 rcases h with rfl|h
 ·exact .sv (λq d=>by cases d) (jg b)
 ·exact h.fz c p b
theorem bY.none(i:bY J){a}(h:O J<=a):J.get a=none:=by
 cases H:J.get a with
 |none=>rfl
 |some b=>exact absurd (i a b H).1 z
theorem X7(p:∀a,(enc a).length=sz)(J l):F9 J sz (aD enc sz l) l.length=some (l.flatMap enc):=by
 have:=D0 (l:=l.flatMap enc) (r:=[]);rw[Dl p,dA]at this;exact this
end
def CU(P:Program)(t:Nat):Bool:=match Ay P t with|some a=>(match a.desc with|.int _=>true|_=>false)|none=>false
section
variable {E:aZ}{ρ:Ad}{J J' U:F}{Rr:bP}{t t2 ty n a i N:Nat}{x y:Operand}{sz by':Nat}{v:I}{A B:AO}
theorem Zz(L:Mk E.P t=true)(W:Ah E ρ x=some (.nil (.slice none 0 0))):As E Rr (.call ⟨.builtin .cap,#[x],#[t]⟩) ρ J (.int .i64 (.ofNat 0)) J:=λd h=>by
 unfold Mk at L
 split at L
 ·rename_i c a
  split at L
  ·rename_i e b
   simp only[bB,Aw,a,Ee,b,h.opd W,opds,Kj]
   rfl
  ·cases L
 ·cases L
theorem Zo{p L k}(N:fM E.P t=some (sz,by',p))(W:Ah E ρ x=some (.nil (.slice none 0 0)))(u:Iz E ρ L=some (some (.int k (.ofNat 0)))):
  As E Rr (.slice t x none L none) ρ J (.nil (.slice none 0 0)) J:=λg h=>by
 obtain⟨n,e,m,c,d,f,i,j,l⟩:=Qc N;have a:opdO E g none=none:=rfl;have b:Do 0 (some 0) none (some (.int k (.ofNat 0))) none=some (0,0,some 0):=rfl;simp only[bB,Aw,c,d,f,h.opd W,h.opdO u,a,Lj,b]
theorem Ain{U}(L:fM E.P t=some (sz,by',some U))(d:Nat.beq U.length sz=true)(r:CU E.P t2=true)(W:Ah E ρ x=some (.nil (.slice none 0 0)))(B:Ah E ρ y=some (.int .i64 (.ofNat (n+1))))(S:(n+1)*(by'+1)<=az):
  As E Rr (.call ⟨.builtin .append,#[x,y],#[t,t2]⟩) ρ J (.sr (O J) 0 sz (n+1) none) (J.new (.cells (rep U (n+1)))):=λs h=>by
 obtain⟨q,e,p,c,m,f,g,i,j⟩:=Qc L;subst g i;have l:Nat.ble ((n+1)*(p.bytes+1)) az=true:=dS S;unfold CU at r
 split at r
 ·rename_i o b
  split at r
  ·rename_i k a
   simp only[bB,Aw,c,Ee,m,f,b,j,d,a,h.opd W,h.opd B,opds,T8,l,cond_true,B6,Ja,dE,Ak,fK]
  ·cases r
 ·cases r
theorem OU:((J.new A).new B).get (O J)=some A:=Z
theorem LJ{b}(h:J.get a=some (.cells b)):J.cells a=some b:=by unfold F.cells;rw[h]
end
def Yv(J U:F):Prop:=∀a b,J.get a=some b->U.get a=some b
theorem Yv.refl{J}:Yv J J:=λ_ _ h=>h
theorem Yv.below{J U}(i:bY J)(h:Below (O J) J U):Yv J U:=λa c b=>(h.2 a (i a c b).1).trans b
def mJ:Op->Bool
 |.load .. =>true
 |.lookup .. =>true
 |_=>false
theorem ι{J U}(h:Yv J U){a b}(P:J.cells a=some b):U.cells a=some b:=by
 unfold F.cells at P⊢
 split at P
 ·rename_i c H;rw[h _ _ H];exact P
 ·cases P
theorem ZF{J U c d x v}(h:Yv J U)(j:Na d x J=some (v,c)):Na d x U=some (v,U):=by
 unfold Na at j⊢
 split at j
 ·split at j
  ·rename_i e b
   split at j
   ·rename_i u a;cases j;simp only[ι h b,a]
   ·cases j
  ·cases j
 ·split at j
  ·rename_i u a;cases j;simp only[a]
  ·cases j
 ·cases j
theorem UT{J U c s b e m v d}(h:Yv J U)(j:Ky s b e d m J=some (v,c)):Ky s b e d m U=some (v,U):=by
 unfold Ky at j⊢
 split at j
 ·split at j
  ·split at j
   ·rename_i g k i H
    rw[h _ _ H];simp only
    split at j
    ·rename_i a
     try simp only[a]
     split at j<;>rename_i f<;>cases j<;>simp only[a,f]
    ·cases j
   ·cases j
  ·cases j;rfl
  ·cases j
 ·cases j
theorem XK{E J U c f n v}(w:mJ f=true)(h:Yv J U)(j:Aw E f n J=some (v,c)):∃a,Aw E f n U=some (v,a):=by
 unfold mJ at w
 split at w
 ·simp only[Aw]at j⊢
  split at j
  ·rename_i i e;exact⟨U,ZF h j⟩
  ·cases j
 ·simp only[Aw]at j⊢
  split at j
  ·rename_i i e
   split at j
   ·rename_i l k d
    try simp only[d]
    split at j
    ·rename_i m b
     try simp only[d,b]
     split at j
     ·rename_i o g
      try simp only[d,b,g]
      exact⟨U,UT h j⟩
     ·cases j
    ·cases j
   ·cases j
  ·cases j
 ·cases w
def Jo(E:aZ)(m:Nat):List iL->List Oper->Bool->Bool
 |a::c,o::d,b=>(match a.cls with
  |.read=> !b&&Nat.ble a.hi m&&mJ o.op
  |_=>true)&&Jo E m c d (b||B5 (Bc E o.op))
 |_,_,_=>true
theorem Qj{E m}:∀{d:List iL} {c:List Oper} {b:Bool},Jo E m d c b=true->∀(j:Nat) (a:iL) (o:Oper),d[j]? =some a->c[j]? =some o->a.cls=.read->b=false/\cnt E c j=0/\a.hi<=m/\mJ o.op=true
 |a::d,o::c,b,h,0,k,l,e,f,i=>by
  simp at e f;subst e f
  simp only[Jo,i,bg]at h
  exact⟨by simpa using h.1.1.1,rfl,dB h.1.1.2,h.1.2⟩
 |a::d,o::c,b,h,j+1,k,l,e,f,i=>by
  simp only[Jo,bg]at h
  obtain⟨g,n,p⟩:=Qj h.2 j k l (by simpa using e) (by simpa using f) i
  simp only[iT]at g;refine⟨g.1,?_,p⟩;simp only[cnt,g.2,n]
  simp
 |[],_,_,_,_,_,_,h,_,_=>by simp at h
 |_::_,[],_,_,_,_,_,_,h,_=>by simp at h
section
variable {E:aZ}{nt B:Nat}{df:List (Nat×List I)}{Q:Cc}{Rr:bP}{ρ:Ad}{J:F}
def NG(Q:Cc)(m:Nat)(J:F):KD:=λb c a _=>(∀e∈a.reverse.take (m+1),Yv J e)/\Q .normal b c
theorem AS(m){id G anns}(hm:E.P.follows .mixedOrders=true)(hR:Bk E Rr)(ha:Lo E G=some anns)(hp:Jo E m anns G.toList false=true)
  (h:TD E nt Rr G.toList G.toList (NG Q m J) ρ J [J] []):T E nt df B (.region id G true) Q ρ J:=by
 intro ro n hn C w tm a ht st R;obtain⟨c1,c2,c3,c4⟩:=Jm ha;obtain⟨d,W,X,k3,x,a7,k4,k5,k6,k7⟩:=h tm df [] ht trivial;refine wpIn_mono (xT hm hR st c1 c2 c3 W λj o t v p S c H k q=>?_) λe a' w' he=>?_
 ·have l:=Ix (E:=E) (b:=(Region.before G).toList) (effs:=A8 E G.toList 0) G.toList 0 j o (by simpa using p)
  rw[<-c4]at l;simp only[dE]at l
  obtain⟨_,q1,q2,q3⟩:=Qj hp j _ o l (by simpa using p) c
  simp only[Gc]at q2
  have cu:Yv J k:=by
   refine k6 k ?_;obtain⟨i,g⟩:=fA.1 q;rw[tJ]at g
   split at g
   ·rename_i ae
    rw[g_]at g;exact fA.2 ⟨_,(List.getElem?_take_of_lt z).trans g⟩
   ·cases g
  obtain⟨ag,ac,r,N,g3,g4,g5⟩:=Lz W;simp only[rK,fK,d_]at N g3;obtain⟨x1,x2,x3,x4,x5⟩:=Wq r
  obtain⟨t',v',a8,f,K,y1,y2,y3,y4,y5,y6⟩:=x5 j o (by simpa using p)
  rw[N]at S;rw[S]at y1;cases y1
  have h0:f=J:=by
   rw[q1]at y3
   simpa using y3.symm
  subst h0
  have af:B5 (Bc E o.op)=false:=by rw[c];rfl
  rcases y5 with⟨z1,u⟩|⟨z1,u⟩
  ·rw[Iy c]at u;exact XK q3 cu u
  ·rw[z1]at H;cases H
 ·obtain⟨y,U,C',h1,h2,P⟩:=he;rw[cI]at U;subst U;obtain⟨⟨s,ah,a9,J'⟩,L,aa⟩:=d;simp only at X k3;subst X k3;exact⟨.normal,s,x,J',C',h1,k4,k7,h2,bD R P.next,P.base R⟩
theorem K4{o}(i:bY J):Yv J (J.new o):=Yv.below i (Below.rfl'.new Y o)
def GH(d:Nat)(e c:List I)(L f:Ad)(U:F):Cc
 |.normal=>λa b=>Km L a/\Hy f a/\Ad.at a d=some (.pr (O U) 0)/\b=(U.new (.cells e)).set (O U) (.cells c)
 |_=>λ_ _=>False
theorem Gz[Se E]{x y}(d a8 G L)(X:I.unds (O J) G=true)(K:I.unds (O J) (L.map (·.2))=true)(h:bY J->T E nt [] B x (GH d a8 G L ρ J) ρ J)(k:T E nt [] B y Q ((d,.pv G)::L++ρ) J):T E nt [] B (.seq x y) Q ρ J:=by
 intro ro n U C w tm a ht st hB;have q:=st.sim.wfs;have em:∀i u,Ad.at ρ i=some u->I.und (O J) u=true:=λi u X=>R.und _ _ (st.tmps i u (ht i u X))
 have S:∀(L:Ad),I.unds (O J) (L.map (·.2))=true->∀i u,Ad.at L i=some u->I.und (O J) u=true:=by
  intro L
  induction L with
  |nil=>intro _ i u m;cases m
  |cons p r ih=>
   obtain⟨j,v⟩:=p;intro K i u m;simp only[fG,I.unds,bg]at K;simp only[Ad.at]at m;cases l:Nat.beq j i with
   |true=>rw[l]at m;cases m;exact K.1
   |false=>rw[l]at m;exact ih K.2 i u m
 refine sN ((h q).mono λe a9 J' W=>?_) ro n U C w tm a ht st hB
 cases e with
 |exit _=>exact W.elim
 |ret=>exact W.elim
 |normal=>
  obtain⟨h1,h2,h3,rfl⟩:=W
  have hf:Ds ((J.new (.cells a8)).set (O J) (.cells G)) J:=a_ q (by rw[Aq,Ao];exact kG _) λb l=>by rw[aU,if_neg z,a5,if_neg z]
  intro ro n U f g a7 t o s P;refine wpIn_mono (k ro n U (f.keep J) g _ t (Kf _) (s.frz o hf λi u c=>?_) hB) λe a' w' he=>he.from (qL f J B g)
  simp only[dL,Ad.at]at c;cases l:Nat.beq d i with
  |true=>
   rw[l]at c;cases c;have:=bK l;subst this
   exact⟨_,h3,.pr (vs:=G) (by rw[aU,if_pos rfl]) (q.none Y) (jg X)⟩
  |false=>
   rw[l]at c;simp only[cond_false]at c;rw[R0]at c;cases N:Ad.at L i with
   |some u'=>rw[N]at c;cases c;exact⟨_,h1.at i _ N,.same (S L K i _ N)⟩
   |none=>rw[N]at c;exact⟨_,h2 i u c,.same (em i u c)⟩
end
section
variable {E:aZ}{nt B:Nat}{df:List (Nat×List I)}{Q:Cc}{Rr:bP}{ops r:List Oper}{K:KD}{ρ:Ad}{J U:F}{eps:List F}{log:List (Ad×I)}
theorem FD{op dst}{l:Nat}{pos after v c}(p:B5 (Bc E op)=false)(g:B0 nt dst=true)(h:As E Rr op ρ J v c)
  (k:TD E nt Rr ops r K (Dt dst v ρ) J eps ((ρ,v)::log)):TD E nt Rr ops ({ dst:=dst,op:=op,type:=l,pos:=pos,after:=after,guard:=none }::r) K ρ J eps log:=yD (b:=false) p g h k
theorem D'{op dst}{l:Nat}{pos after v c}(p:B5 (Bc E op)=true)(g:B0 nt dst=true)(h:As E Rr op ρ J v c)
  (k:TD E nt Rr ops r K (Dt dst v ρ) c (c::eps) ((ρ,v)::log)):TD E nt Rr ops ({ dst:=dst,op:=op,type:=l,pos:=pos,after:=after,guard:=none }::r) K ρ J eps log:=yD (b:=true) p g h k
theorem Bg{o a v c}{j d:Nat}{b n}(H:o.guard=some (j,n))(f:ops[j]? =some a)(t:a.dst=some d)(Q:Ad.at ρ d=some (.bool b))(i:cond b n (!n)=true)
  (p:B5 (Bc E o.op)=false)(g:B0 nt o.dst=true)(h:As E Rr o.op ρ J v c)
  (k:TD E nt Rr ops r K (Dt o.dst v ρ) J eps ((ρ,v)::log)):TD E nt Rr ops (o::r) K ρ J eps log:=Qi (e:=false) H f t Q i p g h k
theorem Ol{o a v c}{j d:Nat}{b n}(H:o.guard=some (j,n))(f:ops[j]? =some a)(t:a.dst=some d)(Q:Ad.at ρ d=some (.bool b))(i:cond b n (!n)=true)
  (p:B5 (Bc E o.op)=true)(g:B0 nt o.dst=true)(h:As E Rr o.op ρ J v c)
  (k:TD E nt Rr ops r K (Dt o.dst v ρ) c (c::eps) ((ρ,v)::log)):TD E nt Rr ops (o::r) K ρ J eps log:=Qi (e:=true) H f t Q i p g h k
theorem Bx{o a}{j d:Nat}{b n}(H:o.guard=some (j,n))(h:ops[j]? =some a)(t:a.dst=some d)(Q:Ad.at ρ d=some (.bool b))(i:cond b n (!n)=false)
  (p:B5 (Bc E o.op)=false)(g:B0 nt o.dst=true)
  (k:TD E nt Rr ops r K (Dt o.dst An ρ) J eps ((ρ,An)::log)):TD E nt Rr ops (o::r) K ρ J eps log:=Ta (e:=false) H h t Q i p g k
theorem K5{o a}{j d:Nat}{b n}(H:o.guard=some (j,n))(h:ops[j]? =some a)(t:a.dst=some d)(Q:Ad.at ρ d=some (.bool b))(i:cond b n (!n)=false)
  (p:B5 (Bc E o.op)=true)(g:B0 nt o.dst=true)
  (k:TD E nt Rr ops r K (Dt o.dst An ρ) J (J::eps) ((ρ,An)::log)):TD E nt Rr ops (o::r) K ρ J eps log:=Ta (e:=true) H h t Q i p g k
end
theorem NB{N E}(h:N<=E){a}(k:Jc N a=true):Jc E a=true:=by
 unfold Jc at k⊢;rw[b_]at k⊢;exact λx b=>I.und_mono h x.2 (k x b)
theorem SW{N E}(h:N<=E):∀{c:Option (aQ×I)},DD N c=true->DD E c=true
 |none,_=>rfl
 |some x,k=>I.und_mono h x.2 k
theorem AO.und_mono{N E}(h:N<=E):∀{a:AO},AO.und N a=true->AO.und E a=true
 |.cells b,k=>I.unds_mono h b k
 |.map _ c _,k=>NB h k
 |.iter none _ _ _,_=>rfl
 |.iter (some r) _ _ _,k=>Ce (cC (Gy k) h)
 |.stamp _ _ _,k=>Ce (cC (Gy k) h)
 |.loop _,_=>rfl
theorem bY.new{J}(i:bY J){X}(P:AO.und (O J+1) X=true)(v:zg (J.new X) X):bY (J.new X):=by
 intro a b H;rw[a5]at H;rw[Ao]
 split at H
 ·grind
 ·obtain⟨g,c,h⟩:=i a b H;refine⟨Nat.lt_succ_of_lt g,AO.und_mono (kG _) c,?_⟩;cases b with
  |iter m o left e=>
   cases m with
   |none=>trivial
   |some r=>
    intro n f d;have j:r<O J:=Gy c;rw[a5,if_neg z]at d;obtain⟨k,l⟩:=h n f d;rw[Ao];exact⟨NB (kG _) k,SW (kG _) l⟩
  |cells _=>trivial
  |map _ _ _=>trivial
  |stamp _ _ _=>trivial
  |loop _=>trivial
theorem Ds.newMap{J U s b c}(i:bY J)(Q:Below (O J) J U)(H:U.get (O J)=some (.map s c b))(S:O J<O U)(e:Jc (O J+1) c=true):Ds U (J.new (.map s c b)):=by
 refine a_ (i.new e trivial) Z λa d=>?_
 rw[Ao]at d;rw[a5]
 split
 ·grind
 ·exact Q.2 a z
def aP(i j:Nat):iL:=⟨.pure,i,j⟩
def aR(i j:Nat):iL:=⟨.read,i,j⟩
def aE(i j:Nat):iL:=⟨.eff,i,j⟩
theorem sb{f s}(h:Hy s f:=by repeat (first|exact .refl|refine .cons rfl ?_)):Hy s f:=h
section
variable {E:aZ}{nt B:Nat}{df:List (Nat×List I)}{Q:Cc}{ρ:Ad}{J:F}{K:Ad->F->Prop}
theorem A{G r op dst}{l:Nat}{pos after v c}(h:As E (λ_ _ _=>none) op ρ J v c)
  (k:TO E nt df B G r K (Dt dst v ρ) c)(S:Ga op=true:=by exact rfl)(g:B0 nt dst=true:=by exact rfl):TO E nt df B G ({ dst:=dst,op:=op,type:=l,pos:=pos,after:=after,guard:=none }::r) K ρ J:=X4 bT S g h k
theorem OM{G r x dst}{l:Nat}{pos after v}(h:Ah E ρ x=some v)
  (k:TO E nt df B G r K (Dt dst v ρ) J)(g:B0 nt dst=true:=by exact rfl):TO E nt df B G ({ dst:=dst,op:=.move x,type:=l,pos:=pos,after:=after,guard:=none }::r) K ρ J:=X4 bT rfl g (Ag h) k
theorem OA{G r x dst}{l:Nat}{pos after v}(h:Ah E ρ x=some v)
  (k:TO E nt df B G r K (Dt dst v ρ) J)(g:B0 nt dst=true:=by exact rfl):TO E nt df B G ({ dst:=dst,op:=.assign x,type:=l,pos:=pos,after:=after,guard:=none }::r) K ρ J:=X4 bT rfl g (Gd h) k
theorem Of{G r o e}{j d:Nat}{b a n}(c:b=a)(k:TO E nt df B G r K (Dt o.dst An ρ) J)(H:o.guard=some (j,n):=by exact rfl)(h:G[j]? =some e:=by exact rfl)(t:e.dst=some d:=by exact rfl)(Q:Ad.at ρ d=some (.bool b):=by exact rfl)(i:cond a n (!n)=false:=by exact rfl)
  (g:B0 nt o.dst=true:=by exact rfl):TO E nt df B G (o::r) K ρ J:=Co H h t Q (by rw[c];exact i) g k
theorem On{G r o f v c}{j d:Nat}{b a n}(e:b=a)(h:As E (λ_ _ _=>none) o.op ρ J v c)(k:TO E nt df B G r K (Dt o.dst v ρ) c)(H:o.guard=some (j,n):=by exact rfl)(l:G[j]? =some f:=by exact rfl)(t:f.dst=some d:=by exact rfl)(Q:Ad.at ρ d=some (.bool b):=by exact rfl)(i:cond a n (!n)=true:=by exact rfl)
  (S:Ga o.op=true:=by exact rfl)(g:B0 nt o.dst=true:=by exact rfl):TO E nt df B G (o::r) K ρ J:=Bi H l t Q (by rw[e];exact i) bT S g h k
theorem Ou{G r o a}{j d:Nat}{n}(k:TO E nt df B G r K (Dt o.dst An ρ) J)(H:o.guard=some (j,n):=by exact rfl)(h:G[j]? =some a:=by exact rfl)(t:a.dst=some d:=by exact rfl)(Q:Ad.at ρ d=some An:=by exact rfl)(g:B0 nt o.dst=true:=by exact rfl):TO E nt df B G (o::r) K ρ J:=Auf H h t Q g k
theorem V{a G r e d n op dst}{l:Nat}{pos after v c}(h:As E a op ρ J v c)
  (k:TD E nt a G r e (Dt dst v ρ) J d ((ρ,v)::n))(p:B5 (Bc E op)=false:=by exact rfl)(g:B0 nt dst=true:=by exact rfl):TD E nt a G ({ dst:=dst,op:=op,type:=l,pos:=pos,after:=after,guard:=none }::r) e ρ J d n:=yD (b:=false) p g h k
theorem DT{a G r e d n op dst}{l:Nat}{pos after v c}(h:As E a op ρ J v c)
  (k:TD E nt a G r e (Dt dst v ρ) c (c::d) ((ρ,v)::n))(p:B5 (Bc E op)=true:=by exact rfl)(g:B0 nt dst=true:=by exact rfl):TD E nt a G ({ dst:=dst,op:=op,type:=l,pos:=pos,after:=after,guard:=none }::r) e ρ J d n:=yD (b:=true) p g h k
theorem B4{b s a}{P:I->Prop}(i:bY J)(w:Us E s J b.results.toList=some a)(h:P (pW a))(c:I.und (O J) (pW a)=true:=by exact rfl):jI E b (O J) (λv U=>P v/\U=J) s J:=
 ⟨a,w,pW a,J,a_ i Y zN,Y,.same c,h,rfl⟩
theorem Dx{a G r h c f}{o l:Oper}{j d:Nat}{b n}(H:o.guard=some (j,n))(m:G[j]? =some l)(t:l.dst=some d)(Q:Ad.at ρ d=some (.bool b))(i:cond b n (!n)=false)
  (k:TD E nt a G r h (Dt o.dst An ρ) J c ((ρ,An)::f))(p:B5 (Bc E o.op)=false:=by exact rfl)(g:B0 nt o.dst=true:=by exact rfl):TD E nt a G (o::r) h ρ J c f:=Ta (e:=false) H m t Q i p g k
theorem Dn{a G r m f l}{o q:Oper}{v c}{j d:Nat}{b n}(H:o.guard=some (j,n))(s:G[j]? =some q)(t:q.dst=some d)(Q:Ad.at ρ d=some (.bool b))(i:cond b n (!n)=true)
  (h:As E a o.op ρ J v c)(k:TD E nt a G r m (Dt o.dst v ρ) J f ((ρ,v)::l))(p:B5 (Bc E o.op)=false:=by exact rfl)(g:B0 nt o.dst=true:=by exact rfl):TD E nt a G (o::r) m ρ J f l:=Qi (e:=false) H s t Q i p g h k
theorem Du{a G r h b n o f}{j d:Nat}{c}(k:TD E nt a G r h (Dt o.dst An ρ) J b ((ρ,An)::n))(H:o.guard=some (j,c):=by exact rfl)(i:G[j]? =some f:=by exact rfl)(t:f.dst=some d:=by exact rfl)(Q:Ad.at ρ d=some An:=by exact rfl)
  (p:B5 (Bc E o.op)=false:=by exact rfl)(g:B0 nt o.dst=true:=by exact rfl):TD E nt a G (o::r) h ρ J b n:=Zy (e:=false) H i t Q p g k
end
section
open Go Go.Proofs
instance:Se M:=⟨λg a h=>(by
 have h:vH g=some a:=h;unfold vH at h
 split at h
 ·cases h;rfl
 ·cases h),rfl⟩
theorem Aj{f d c a J b}(N:Tryz.prog.funcs[f]? =some d)(P:d.body=some c)(q:Nat.ble a.length d.ntmps=true)
  (h:bY J->I.unds (O J) a=true->T M d.ntmps [] (O J) c (AD (jI M d (O J) b)) (Hg a 0) J):Al M f a J b:=
 Aw1 N (Ke f d N) P q h
end
section
variable {E:aZ}{nt B:Nat}{df:List (Nat×List I)}{Q:Cc}{ρ:Ad}{J:F}
theorem KQ{id G r x}{d ty:Nat}{pos after a ver m left cur}
  (ew:G.toList={ dst:=some d,op:=.next x false,type:=ty,pos:=pos,after:=after,guard:=none }::r)(hd:Nat.blt d nt=true)
  (hx:Ah E ρ x=some (.it a))(H:J.get a=some (.iter m ver left cur))(hv:EC J m ver=true)
  (h0:left=[]->TO E nt df B G.toList r (λρ J=>Q .normal ρ J) ((d,.tup [.bool false])::ρ) (J.set a (.iter m ver [] none)))
  (h1:∀p,p∈Ht left->TO E nt df B G.toList r (λρ J=>Q .normal ρ J) ((d,.tup [.bool true,T2 p.1.1,p.1.2])::ρ) (J.set a (.iter m ver p.2 (some p.1)))):T E nt df B (.region id G false) Q ρ J:=by
 intro ro n hn C w tm l ht u hB
 obtain⟨K,hn2⟩:=L1 (by rw[<-ew];exact hn)
 have hX:=Be u.glob u.tmps x;rw[ht.opd hx]at hX
 have ho:G[0]? =some { dst:=some d,op:=.next x false,type:=ty,pos:=pos,after:=after,guard:=none }:=by rw[<-iO,ew];rfl
 have N:G.size=r.length+1:=by rw[<-kE,ew];rfl
 obtain⟨y,w₁,bq,cu,fh⟩:=Akx (P:=E.P) (ty:=ty) u.sim hX H hv
 have my:(execOp l.eval { dst:=some d,op:=.next x false,type:=ty,pos:=pos,after:=after,guard:=none }).run E.P w=.ok (.value y) w₁:=by
  simp[execOp,bq]
 refine wpIn_region ?_;rw[N,zM,kI];simp only[wpOpsIn,ho]
 rw[if_pos (by unfold Region.wanted;rfl)]
 refine Ev K ?_;unfold Oper.wp;rw[my,Oper.upon_value]
 have hr:∀j,j<r.length->r[j]? =G[0+1+j]? :=λj _=>by
  rw[<-iO,ew,show 0+1+j=j+1 by omega];rfl
 have fin:∀(v:I) (c:List (aQ×I)) (f:Option (aQ×I)),TO E nt df B G.toList r (λρ J=>Q .normal ρ J) ((d,v)::ρ) (J.set a (.iter m ver c f))->aX E.P C w₁ (J.set a (.iter m ver c f))->R C (O J) w₁ v y->
   wpOpsIn (Cy ro) n E.P G (Sd E nt df B Q C w) (List.range' (0+1) r.length) (l.put (some d) y) w₁:=by
  intro v c f U hs' i
  obtain⟨X,htm,ck⟩:=C6 (nt:=nt) (dst:=some d) (by exact hd) ht v
  have i7:bC C (O J) w C (O (J.set a (.iter m ver c f))) w₁:=by rw[Aq];exact cu
  have st':=u.put (x:=y) hs' i7 (by rw[Aq];exact i) htm
  have:=U ro n hn2 C w₁ X _ ck st' (by rw[Aq];exact hB) G (0+1) (Sd E nt df B Q C w) [] rfl hr λC' w' a' q ρ' J' q1 q2 q3 q4 q5=>
   ⟨.normal,q,ρ',J',C',rfl,q1,q2,q3,q4,(i7.base hB).trans q5⟩
  rwa[dA]at this
 rcases fh with⟨h,hs',i⟩|⟨p,hp,hs',i⟩
 ·exact fin _ _ _ (h0 h) hs' i
 ·exact fin _ _ _ (h1 p hp) hs' i
variable {Rr:bP}
theorem JZ{t r s b T a e U x c}(L:cq E.P t=some (b,U,T,e))(W:Ah E ρ x=some (.mp r))(K:J.get r=some (.map s c a)):
  As E Rr (.range t x) ρ J (.it (O J)) (J.new (.iter (some r) a c none)):=λj h=>by
 obtain⟨i,g,d,f⟩:=vX L;simp only[bB,Aw,d,f,h.opd W,yI,K]
theorem PC{x a r b s left c k v}(W:Ah E ρ x=some (.it a))(H:J.get a=some (.iter (some r) b left (some (k,v))))(K:J.get r=some (.map s c b)):
  As E Rr (.entry x) ρ J (.tup [T2 k,v]) J:=λd h=>by
 simp only[bB,Aw,h.opd W,tT,H,K,cb,cond_true]
end
theorem Tc{C a}:∀{m:SM C} {p:(aQ×I)×List (aQ×I)},p∈Ht (Cn a m)->∃q,q∈Ht m/\p=((kS q.1.1,a q.1.2),Cn a q.2)
 |[],p,h=>by simp[Cn,Ht]at h
 |x::m,p,h=>by
  simp only[Cn,fG,Ht,bN,dO]at h
  rcases h with rfl|⟨y,c,rfl⟩
  ·exact⟨(x,m),by simp[Ht],rfl⟩
  ·obtain⟨q,b,rfl⟩:=Tc (m:=m) c
   exact⟨(q.1,x::q.2),by simp only[Ht,bN,dO];exact .inr ⟨q,b,rfl⟩,rfl⟩
theorem Rp{C}:∀{l:List C} {p:C×List C},p∈Ht l->p.1∈l/\(∀x,x∈l↔x=p.1\/x∈p.2)/\p.2.length+1=l.length
 |[],p,h=>by simp[Ht]at h
 |x::m,p,h=>by
  simp only[Ht,bN,dO]at h
  rcases h with rfl|⟨q,c,rfl⟩
  ·exact⟨cX ..,λy=>bN,rfl⟩
  ·obtain⟨a,b,d⟩:=Rp c
   refine⟨ch _ a,λy=>?_,by simp only[cZ];omega⟩
   simp only[bN,b]
   constructor
   ·rintro(h|h|h)
    ·exact .inr (.inl h)
    ·exact .inl h
    ·exact .inr (.inr h)
   ·rintro(h|h|h)
    ·exact .inr (.inl h)
    ·exact .inl h
    ·exact .inr (.inr h)
end Go.AM

