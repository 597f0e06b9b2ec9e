/- A part of the proof; shortened by program. -/
import Derived.Test.YtmkaboegdoadhaaGreatDoorQ34
set_option maxRecDepth 100000
set_option maxHeartbeats 4000000
set_option linter.unusedSimpArgs false
set_option linter.unusedVariables false
namespace Go.AM
open Go Go.Proofs
theorem A4n{α β:Type}{f:α->β}:∀{l:List α},(l.map f).Nodup->∀x∈l,∀y∈l,f x=f y->x=y
 |[],_,x,hx,_,_,_=>by cases hx
 |a::l,hd,x,hx,y,hy,e=>by
  rw[cn_,ed_]at hd
  rcases an_.1 hx with rfl|h1<;>rcases an_.1 hy with rfl|h2
  ·rfl
  ·grind
  ·grind
  ·exact A4n hd.2 x h1 y h2 e
theorem A1t:∀(l:List Str) (k:Kn) (v:Str),k.vars.has v=true->(Sf l k).2.vars.has v=true
 |[],_,_,h=>h
 |c::r,k,v,h=>by
  unfold Sf;cases L8 c with
  |false=>exact h
  |true=>
   cases k.isSym c with
   |true=>exact h
   |false=>exact A1t r _ v (show(k.vars.put c true).has v=true by rw[fo_,h,Bool.or_true])
theorem A2o:∀(l:List Str) (k:Kn),(Sf l k).1=0->∀v∈l,(Sf l k).2.vars.has v=true/\L8 v=true
 |[],_,_,v,hv=>by cases hv
 |c::r,k,h,v,hv=>by
  unfold Sf at h⊢;cases hs:L8 c with
  |false=>rw[hs]at h;cases h
  |true=>
   rw[hs]at h;cases hk:k.isSym c with
   |true=>rw[hk]at h;cases h
   |false=>
    rw[hk]at h
    rcases an_.1 hv with rfl|hv
    ·exact⟨A1t r _ v (show(k.vars.put v true).has v=true by rw[fo_];simp),hs⟩
    ·exact A2o r _ h v hv
theorem A05{pw d}(h:Fy pw d=0):∀v∈d.vars,(K8 d kn0).2.vars.has v=true/\L8 v=true:=by
 have h1:(K8 d kn0).1=0:=by
  unfold Fy at h
  grind
 unfold K8 at h1⊢
 split at h1
 ·rename_i h2;rw[if_pos h2];exact A2o _ _ h1
 grind
theorem A1e{m v}:∀(t:List Str) (q:SM Bool×Nat),(q.1.has v=true∨(v∈t/\m.has v=true))->(Apc m t q).1.has v=true
 |[],q,h=>by
  rcases h with h|⟨h,_⟩
  ·exact h
  ·cases h
 |s::r,q,h=>by
  unfold Apc;refine A1e r _ ?_
  rcases h with h|⟨h,hm⟩
  ·left;split
   ·show(q.1.put s true).has v=true;rw[fo_,h,Bool.or_true]
   ·exact h
  ·rcases an_.1 h with rfl|h
   ·left;rw[if_pos hm];show(q.1.put v true).has v=true;rw[fo_];simp
   grind
theorem A2p{m v}:∀(ll:List (List Str)) (q:SM Bool×Nat),(q.1.has v=true∨((∃t∈ll,v∈t)/\m.has v=true))->(Alh m ll q).1.has v=true
 |[],q,h=>by
  rcases h with h|⟨⟨t,h,_⟩,_⟩
  ·exact h
  ·cases h
 |t::r,q,h=>by
  unfold Alh;refine A2p r _ ?_
  rcases h with h|⟨⟨u,hu,hv⟩,hm⟩
  ·exact .inl (A1e t q (.inl h))
  ·rcases an_.1 hu with rfl|hu
   ·exact .inl (A1e u q (.inr ⟨hv,hm⟩))
   grind
theorem A15:∀{m:SM Bool} {v:Str},m.has v=true->v∈m.map (·.1)
 |[],_,h=>by cases h
 |(k,x)::r,v,h=>by
  unfold SM.has at h;rw[SM.get]at h
  split at h
  ·grind
  ·exact aj_ _ (A15 (m:=r) h)
theorem A1f{mu}:∀{l:List Hp} {n m:Nat},Qr mu l n=some m->m=n+(flt l).length/\∀x∈flt l,mu.has x=true
 |[],n,m,h=>by cases h;grind
 |y::l,n,m,h=>by
  unfold Qr at h;cases hf:y.floating with
  |false=>
   rw[if_neg gr]at h;have e:flt (y::l)=flt l:=gr;rw[e];exact A1f h
  |true=>
   rw[if_pos hf]at h;have e:flt (y::l)=txv y::flt l:=gr
   split at h
   ·cases h
   ·rename_i hm
    obtain⟨h1,h2⟩:=A1f h;rw[e];refine⟨gr,fun x hx=>?_⟩
    rcases an_.1 hx with rfl|hx
    ·have hm:mu.has (txv y)=true:=by simpa[txv]using hm
     exact hm
    grind
theorem A4o{pw k f before}(h:E9 pw k f before=0):Mt (k.fr f.label) f=0:=by
 unfold E9 at h
 grind
theorem A4p{pw d}(hc:Fy pw d=0){f}(hf:f∈d.frames){l}(hl:l∈f.text::H8 f.hyps){v}(hv:v∈l)(hvd:v∈d.vars):∃h∈f.hyps,h.floating=true/\txv h=v:=by
 obtain⟨k',be',h1,h2⟩:=To (Ab9 hc) f hf;have hs:=A4o h2
 have hk:(k'.fr f.label).vars.has v=true:=by show k'.vars.has v=true;rw[h1];exact(A05 hc v hvd).1
 have hm:(Kv (k'.fr f.label) f).has v=true:=A2p _ _ (.inr ⟨⟨l,hl,hv⟩,hk⟩);unfold Mt at hs
 split at hs
 ·cases hs
 ·rename_i n hn
  split at hs
  ·cases hs
  ·rename_i bl
   have bl:Int.ofNat n=Int.ofNat (Kv (k'.fr f.label) f).length:=Classical.byContradiction fun q=>bl gr
   have bl:=ci_ bl;obtain⟨g1,g2⟩:=A1f hn
   have hnd:(flt f.hyps).Nodup:=by
    have:=(Vh hc hf).2;rw[Auv,co_]at this;have:=(dt_.1 this).1
    rwa[Vi]at this
   have:=Qu hnd (fun x hx=>A15 (g2 x hx)) gr v (A15 hm)
   grind
theorem ord_p{i}(hi:i≠0){pre h s s'}(e:Ai3 i pre h s=some s'):s'.1=s.1/\Am9 (s.1.get (txv h)) h=true:=by
 unfold Ai3 Pi at e
 grind
theorem A4q{i}(hi:i≠0){all}:∀{l:List Hp} {n:Nat} {s s':Ord},Yw i all l n s=some s'->s'.1=s.1/\∀h∈l,Am9 (s.1.get (txv h)) h=true
 |[],_,s,s',e=>by cases e;grind
 |h::r,n,s,s',e=>by
  unfold Yw at e
  split at e
  ·cases e
  ·rename_i s1 e1
   obtain⟨a1,a2⟩:=ord_p hi e1;obtain⟨b1,b2⟩:=A4q hi e
   grind
theorem A3q{i}(hi:i≠0):∀{ls:List (List Hp)} {s s':Ord},Pb i ls s=some s'->s'.1=s.1/\∀l∈ls,∀h∈l,Am9 (s.1.get (txv h)) h=true
 |[],s,s',e=>by cases e;grind
 |h::r,s,s',e=>by
  unfold Pb at e
  split at e
  ·cases e
  ·rename_i s1 e1
   obtain⟨a1,a2⟩:=A4q hi e1;obtain⟨b1,b2⟩:=A3q hi e
   grind
theorem ord_z{pre h s s'}(e:Ai3 0 pre h s=some s'):s'.1=s.1.put (txv h) h:=by
 unfold Ai3 Pi at e
 grind
theorem A27{all}:∀{l:List Hp} {n:Nat} {s s':Ord},Yw 0 all l n s=some s'->s'.1=Il l s.1
 |[],_,s,s',e=>by cases e;rfl
 |h::r,n,s,s',e=>by
  unfold Yw at e
  split at e
  ·cases e
  ·rename_i s1 e1
   rw[A27 e,ord_z e1];rfl
theorem A4r{l m}(hd:(l.map txv).Nodup){h}(hh:h∈l):(Il l m).get (txv h)=some h:=by
 obtain⟨x,hx,h1,h2⟩:=Afi (m:=m) ⟨h,hh,rfl⟩;rw[h1,A4n hd x hx h hh h2]
theorem A1u:∀{l:List Hp} {m:SM Hp} {v:Str} {h:Hp},(Il l m).get v=some h->(h∈l/\txv h=v)∨m.get v=some h
 |[],_,_,_,h=>.inr h
 |x::l,m,v,h,hg=>by
  have hg:(Il l (m.put (txv x) x)).get v=some h:=hg
  rcases A1u hg with⟨h1,h2⟩|h1
  ·grind
  ·rw[ch_]at h1
   grind
theorem A31(h):Am9 (some h) h=true:=by unfold Am9 Am5;simp
theorem A1v{d}:∀{fs:List Fr} {i:Nat} {s s':Ord},Ow d fs i s=some s'->(∀f∈fs,(flt f.all).Nodup)->(i≠0->s'.1=s.1)/\∀f∈fs,∀h∈flo f.hyps,Am9 (s'.1.get (txv h)) h=true
 |[],i,s,s',e,_=>by cases e;grind
 |f::r,i,s,s',e,hd=>by
  unfold Ow at e
  split at e
  ·cases e
  ·split at e
   ·cases e
   ·rename_i s1 e1
    obtain⟨b1,b2⟩:=A1v e fun x hx=>hd x (aj_ _ hx)
    have b9:=b1 (Nat.succ_ne_zero i)
    by_cases hi:i=0
    ·subst hi;refine⟨fun q=>absurd rfl q,fun x hx h hh=>?_⟩
     rcases an_.1 hx with rfl|hx
     ·have hn:=hd x (ap_ ..);rw[Auv]at hn
      have hm:s1.1=Il (flo x.hyps++flo x.dummies) s.1:=by
       unfold Pb at e1
       split at e1
       ·cases e1
       ·rename_i s2 e2
        unfold Pb at e1
        split at e1
        ·cases e1
        ·rename_i s3 e3
         unfold Pb at e1;cases e1;rw[A27 e3,A27 e2];unfold Il;grind
      rw[b9,hm,A4r hn (dg_ _ hh)];exact A31 h
     grind
    ·obtain⟨a1,a2⟩:=A3q hi e1
     grind
theorem A2q{vars s}:∀{n:Nat} {done:SM Bool} {out l:List Hp},W7 vars s n done out=some l->(∀h∈out,∃v,s.1.get v=some h)->∀h∈l,∃v,s.1.get v=some h
 |0,_,_,_,e,h=>by cases e;exact h
 |n+1,done,out,l,e,h=>by
  unfold W7 at e
  split at e
  ·cases e
  ·rename_i v _
   split at e
   ·cases e
   ·rename_i x hx
    exact A2q e gr
theorem A32{a h}(e:Am9 (some a) h=true):a.label=h.label:=by
 unfold Am9 Am5 at e
 grind
theorem A5q{d}(h0:Ea d=0){v a}(ha:(Il (Bt d) []).get v=some a){f}(hf:f∈d.frames){h}(hh:h∈f.hyps)(hfl:h.floating=true)(hv:txv h=v):a.label=h.label:=by
 obtain⟨hc,_,_⟩:=Afj h0
 rcases A1u ha with⟨h1,h2⟩|h1
 ·unfold Bt at h1;rw[if_pos hc]at h1;unfold Fa at h1;rw[if_neg gr]at h1
  split at h1
  ·cases h1
  ·rename_i s hs
   cases hsr:W7 d.vars s d.vars.length [] []with
   |none=>rw[hsr]at h1;cases h1
   |some l=>
    rw[hsr]at h1;obtain⟨w,hw⟩:=A2q hsr gr a h1;have hO:=(Afd hc gr hs).1 w a hw;obtain⟨_,hsame⟩:=A1v hs fun f hf=>(Vh hc hf).2
    have:=hsame f hf h (by rw[Vi];grind)
    rw[hv,←h2,hO.1,hw]at this;exact A32 this
 ·cases h1
theorem A2r{hy}:∀{l:List Str} {g g':Gr},Kw hy l g=some g'->∀r∈g'.rules,r∈g.rules∨∃v∈l,∃h,hy.get v=some h/\r=⟨h.label,h.text.headD [],[⟨v,[],0⟩],true⟩
 |[],g,g',e,r,hr=>by cases e;exact .inl hr
 |v::l,g,g',e,r,hr=>by
  unfold Kw at e
  split at e
  ·cases e
  ·rename_i h hh
   split at e
   ·cases e
   ·rcases A2r e r hr with q|⟨w,hw,x,h1,h2⟩
    ·rcases bb_.1 q with q|q
     ·exact .inl q
     grind
    grind
theorem A28{d}(h:(ofF d).2=0):Ea d=0/\∃g,Kw (Il (Bt d) []) d.vars zG=some g/\F6 d.frames g=some (ofF d).1:=by
 unfold ofF at h⊢
 grind
theorem A48{d}(h0:(ofF d).2=0){f}(hf:f∈d.frames){t0 text}(hl:t0::text∈f.text::H8 f.hyps){s}(hin:A3p (ofF d).1 text s)(hv:A0m (ofF d).1.rules s=true):∃h∈f.hyps,h.floating=true/\h.label=s:=by
 obtain⟨hE,g,hg,hg'⟩:=A28 h0;obtain⟨hc,_,_⟩:=Afj hE;obtain⟨rl,hrl,iq,hsy⟩:=hin
 have sg:rl.var=true:=by
  obtain⟨n,hn⟩:=List.getElem?_of_mem hrl;have:=Aft (Yc d).nd hn;unfold A0m at hv
  grind
 have hr1:rl∈g.rules:=by
  rcases(O7 hg').2 rl hrl with q|⟨f',_,q,_⟩
  ·exact q
  ·rw[Acg q]at sg;cases sg
 rcases A2r hg rl hr1 with q|⟨v,hvd,a,ha,e⟩
 ·cases q
 ·have hvs:=(A05 hc v hvd).2;obtain⟨b,hb⟩:=hsy ⟨v,[],0⟩ gr rfl
  have hvt:v∈text:=by
   have hb:v=text.getD b []:=hb;rw[List.getD_eq_getElem?_getD]at hb;cases ht:text[b]? with
   |none=>rw[ht]at hb;have hb:v=[]:=hb;rw[hb]at hvs;exact absurd hvs (by decide)
   |some w=>rw[ht]at hb;have hb:v=w:=hb;rw[hb];exact ab_ ht
  obtain⟨h,hh,hfl,htx⟩:=A4p hc hf hl (aj_ _ hvt) hvd;refine⟨h,hh,hfl,?_⟩;rw[←A5q hE ha hf hh hfl htx,←iq,e]
theorem A29{d l T}(h:B1 d l=(T,0)):(ofF d).2=0/\∃t0 text F D w,l=t0::text/\Im (ofF d).1 D text w=some F/\Mu (ofF d).1 F=(T,0):=by
 unfold B1 at h
 by_cases he:(ofF d).2≠0
 ·grind
 ·rw[if_neg he]at h;refine⟨Classical.byContradiction he,?_⟩;cases l with
  |nil=>exact absurd (Prod.mk.inj h).2 (by decide)
  |cons t text=>
   have h:(if D7 t∉(ofF d).1.sorts then(Ek,11)else match Fj (ofF d).1 (D7 t) text with
    |(none,e)=>(Ek,if e=160 then 190 else e)
    |(some F,_)=>Mu (ofF d).1 F)=(T,0):=h
   by_cases hs:D7 t∉(ofF d).1.sorts
   ·grind
   ·rw[if_neg hs]at h
    rcases Vt (g:=(ofF d).1) (s:=D7 t) (t:=text)with⟨e,hp,hne⟩|⟨F,D,w,hp,hpk⟩
    ·grind
    grind
theorem A5r(d):∀r∈(ofF d).1.rules,Hr (ofF d).1 r=true:=by
 rcases Ajo (d:=d)with h|h
 ·rw[h];intro r hr;cases hr
 ·exact A24 h
structure Prsd (d:Db)(l:List Str)(T:Ax):Prop where
 of0:(ofF d).2=0
 fm:(Ayf (ofF d).1.rules T).isSome=true
 ok:okT (ofF d).1.rules T=true
 cn:M6 T<=4000
 tx:∃t0 text,l=t0::text/\∀s,ocT s T=true->A3p (ofF d).1 text s
theorem A4s{d l T}(h:B1 d l=(T,0)):Prsd d l T:=by
 obtain⟨h0,t0,text,F,D,w,hl,hpk,ht⟩:=A29 h;obtain⟨h1,h2⟩:=A26 (Yc d) (A5r d) hpk ht
 have hf:(Ayf (ofF d).1.rules T).isSome=true:=by rw[h1];rfl
 have hc:=(A04 d l).1;rw[h]at hc;exact⟨h0,hf,A3d (Yc d).rs T hf,hc,t0,text,hl,h2⟩
theorem A3r{d m}(h:Ayd (ofF d) m=0):(ofF d).2=0:=by
 unfold Ayd at h
 grind
theorem A1w{g n}:∀{l:List Aya} {tm:SM (List Int)},SM.Srt tm->SM.Srt (Ay2 g n l tm).2
 |[],tm,h=>h
 |t::r,tm,h=>by
  unfold Ay2
  split
  ·exact h
  ·split
   ·exact h
   ·split
    ·exact h
    ·split
     ·exact h
     ·exact A1w h.put
theorem A16{α}:∀{m:SM α} {v:Str},v∈m.map (·.1)->(m.get v).isSome=true
 |[],_,h=>by cases h
 |(k,x)::r,v,h=>by
  rw[SM.get]
  split
  ·rfl
  ·rename_i hne
   rcases an_.1 h with e|h
   ·grind
   ·exact A16 h
theorem A4t{d m}(h:Ayd (ofF d) m=0){rl}(hr:rl∈(ofF d).1.rules)(hv:rl.var=false):((tmO d m).get rl.label).isSome=true:=by
 obtain⟨_,_,hT⟩:=Ayu h
 have bl:(tmO d m).length=(axR (ofF d).1.rules).length/\SM.Srt (tmO d m):=by
  unfold Ayd at h
  split at h
  ·split at h
   ·unfold Ayx at h;simp only at h
    split at h
    ·rename_i h1
     split at h
     ·rename_i h2
      have e:tmO d m=(Ay2 (ofF d).1.rules m.n m.tabs []).2:=by unfold tmO Ayx;grind
      rw[e];exact⟨h2,A1w .nil⟩
     ·cases h
    grind
   grind
  grind
 have hk:((tmO d m).map (·.1)).Nodup:=(List.pairwise_map.2 bl.2.key1)
 have hin:∀s∈(tmO d m).map (·.1),s∈(axR (ofF d).1.rules).map (·.label):=fun s hs=>by
  obtain⟨tab,ht⟩:=bg_.1 (A16 hs);obtain⟨r,h1,h2,_⟩:=hT.key s tab ht
  have h3:r.label=s:=by have:=List.find?_some h1;grind
  exact bt_.2 ⟨r,cp_.2 ⟨Ay5 h1,by rw[h2];rfl⟩,h3⟩
 exact A16 (Qu hk hin gr rl.label (bt_.2 ⟨rl,cp_.2 ⟨hr,by rw[hv];rfl⟩,rfl⟩))
theorem A0t {vars vm s} (h : s ∈ vars) : Ayw (Aye vars vm) s = some (byM vm s) := by
  unfold Ayw Aye;rw [List.find?_map];cases hf : vars.find? ((fun x : Ayb => decide (x.var = s)) ∘ fun v => ⟨v,byM vm v⟩) with
  | none => have := List.find?_eq_none.1 hf s h; simp at this
  | some v => have := List.find?_some hf; have e : v = s := gr
              rw [e]; rfl
theorem A1g{d m}(hO:Ayd (ofF d) m=0){l T}(hT:B1 d l=(T,0)){vars vm}(hvr:VR m.n vm)(hin:∀s,A0m (ofF d).1.rules s=true->ocT s T=true->s∈vars):Azl d m l (Aye vars vm)=gdB m.des (evT (tmO d m) m.n (byM vm) T):=by
 have hp:=A4s hT
 have hvs:∀s∈Ayh (ofF d).1.rules T [],s∈vars:=fun s hs=>by
  rcases(Azi T []).1 hs with q|⟨q1,q2⟩
  ·cases q
  grind
 have hc:Ay8 d T=0:=by unfold Ay8 A06;rw[if_pos hp.of0,if_pos hp.fm]
 have hv:valE (ofF d).1.rules m.n (Aye vars vm) T=0:=by
  unfold valE;exact A1a.2 fun s hs=>⟨_,A0t (hvs s hs),(hvr s).1,(hvr s).2⟩
 have he:Ayp d m T (Aye vars vm)=0:=by unfold Ayp;grind
 unfold Azl;rw[hT]
 show((decide ((0:Int)=0)&&decide (Ayp d m T (Aye vars vm)=0))&&gdB m.des (Ay3 d m T (Aye vars vm)))=_
 rw[he];unfold Ay3;rw[if_pos he];unfold evE;rw[A19 T fun s hs hn=>?_]
 ·rfl
 ·obtain⟨_,_,_,hl⟩:=hp.tx;obtain⟨rl,hrl,iq,_⟩:=hl s hs
  have sg:rl.var=true:=by
   cases hq:rl.var with
   |true=>rfl
   |false=>have:=A4t hO hrl hq;rw[iq,hn]at this;cases this
  have hb:A0m (ofF d).1.rules s=true:=by
   obtain⟨n,hn⟩:=List.getElem?_of_mem hrl;have:=Aft (Yc d).nd hn;rw[iq]at this;unfold A0m;grind
  have hm:s∈Ayh (ofF d).1.rules T []:=(Azi T []).2 (.inr ⟨hb,hs⟩);unfold byF;rw[if_pos hm,A0t (hvs s hm)];rfl
theorem A2s{d}:∀(l:List Hp) (s:ClS),(l.foldl (Ayz d) s).vars=s.vars++(l.filter (·.floating)).map (·.label)/\
  ((l.foldl (Ayz d) s).code=0->s.code=0/\(∀t∈(l.foldl (Ayz d) s).prem,t∈s.prem∨∃h∈l,h.floating=false/\B1 d h.text=(t,0))/\(∀t∈s.prem,t∈(l.foldl (Ayz d) s).prem)/\∀h∈l,h.floating=false->Nv h.text=true->∃t∈(l.foldl (Ayz d) s).prem,B1 d h.text=(t,0))
 |[],s=>⟨(bh_ _).symm,fun h=>⟨h,fun t ht=>.inl ht,fun t ht=>ht,gr⟩⟩
 |h::l,s=>by
  rw[ct_];obtain⟨i1,i2⟩:=A2s l (Ayz d s h)
  have hcs:h.floating=true/\Ayz d s h=⟨s.vars++[h.label],s.prem,s.code⟩∨h.floating=false/\(Nv h.text=true/\Ayz d s h=⟨s.vars,s.prem++[(trC d s.code h.text).1],(trC d s.code h.text).2⟩∨Nv h.text=false/\Ayz d s h=s):=by
   cases hf:h.floating with
   |true=>left;exact⟨rfl,by unfold Ayz;rw[if_pos hf]⟩
   |false=>
    right;refine⟨rfl,?_⟩
    cases ha:Nv h.text with
    |true=>left;exact⟨rfl,by unfold Ayz;grind⟩
    |false=>right;exact⟨rfl,by unfold Ayz;grind⟩
  rcases hcs with⟨hf,e⟩|⟨hf,⟨ha,e⟩|⟨ha,e⟩⟩
  ·rw[e]at i1 i2⊢
   refine⟨by rw[i1,List.filter_cons_of_pos (by simp[hf])];simp,fun hc=>?_⟩
   grind
  ·rw[e]at i1 i2⊢;refine⟨gr,fun hc=>?_⟩
   obtain⟨j1,j2,j3,j4⟩:=i2 hc
   have hs0:s.code=0:=Classical.byContradiction fun q=>by
    have j1:(trC d s.code h.text).2=0:=j1;unfold trC at j1;grind
   have htr:B1 d h.text=((trC d s.code h.text).1,0):=by
    have j1:(trC d s.code h.text).2=0:=j1;unfold trC at j1⊢;grind
   grind
  grind
structure ClOk (d:Db)(f:Fr):Prop where
 ass:Nv f.text=true
 vars:(Ayc d f).vars=(f.hyps.filter (·.floating)).map (·.label)
 form:B1 d f.text=((Ayc d f).form,0)
 prem:∀t∈(Ayc d f).prem,∃h∈f.hyps,h.floating=false/\B1 d h.text=(t,0)
 all:∀h∈f.hyps,h.floating=false->Nv h.text=true->∃t∈(Ayc d f).prem,B1 d h.text=(t,0)
theorem A1h{d f}(hs:(Ayc d f).silent=false)(hc:(Ayc d f).code=0):ClOk d f:=by
 cases ha:Nv f.text with
 |false=>unfold Ayc at hs;rw[if_neg gr]at hs;cases hs
 |true=>
  have e:Ayc d f=⟨false,(Ayk d f.hyps).vars,(Ayk d f.hyps).prem,(trC d (Ayk d f.hyps).code f.text).1,(trC d (Ayk d f.hyps).code f.text).2⟩:=by unfold Ayc;rw[if_pos ha]
  rw[e]at hc;have hc:(trC d (Ayk d f.hyps).code f.text).2=0:=hc
  have h0:(Ayk d f.hyps).code=0:=Classical.byContradiction fun q=>by unfold trC at hc;grind
  obtain⟨i1,i2⟩:=A2s (d:=d) f.hyps ⟨[],[],0⟩;obtain⟨_,j2,_,j4⟩:=i2 h0
  refine⟨ha,by rw[e];exact i1,?_,fun t ht=>?_,fun h hh h1 h2=>?_⟩
  ·rw[e];unfold trC at hc⊢;grind
  ·rw[e]at ht
   rcases j2 t ht with q|q
   ·cases q
   ·exact q
  ·rw[e];exact j4 h hh h1 h2
theorem A1x{k nh}:∀{l:List Hp} {i:Nat} {lab:SM Bool} {ty:SM Str},(Jd k nh l i lab ty).1=0->(l.map (·.label)).Nodup/\∀h∈l,lab.has h.label=false
 |[],_,_,_,_=>⟨dk_,gr⟩
 |h::r,i,lab,ty,h0=>by
  unfold Jd at h0
  split at h0
  ·grind
  ·rename_i hc
   have hz:Vg k lab ty h (decide (Int.ofNat nh<=Int.ofNat i))=0:=gr;obtain⟨i1,i2⟩:=A1x h0
   have hl:lab.has h.label=false:=by
    unfold Vg at hz
    grind
   refine⟨?_,fun x hx=>?_⟩
   ·rw[cn_,ed_];refine⟨fun hm=>?_,i1⟩
    obtain⟨x,hx,e⟩:=bt_.1 hm;have:=i2 x hx;rw[fo_,e]at this
    simp at this
   ·rcases an_.1 hx with rfl|hx
    ·exact hl
    ·have:=i2 x hx;rw[fo_,bv_]at this;exact this.2
theorem A5s{d}(h0:(ofF d).2=0){f}(hf:f∈d.frames):(f.hyps.map (·.label)).Nodup:=by
 obtain⟨hc,_,_⟩:=Afj (A28 h0).1;obtain⟨k',be',_,h2⟩:=To (Ab9 hc) f hf;have:=(A1x (Ai7 h2)).1;rw[show f.all=f.hyps++(f.dummies++[])from rfl,co_]at this
 grind
theorem A2t{d}(h0:(ofF d).2=0){f}(hf:f∈d.frames):((f.hyps.filter (·.floating)).map (·.label)).Nodup:=(A5s h0 hf).sublist (List.filter_sublist.map _)
theorem A5t{d}(h0:(ofF d).2=0){f}(hf:f∈d.frames):∀h∈f.hyps,h.floating=false->h.text≠[]:=by
 obtain⟨hc,_,_⟩:=Afj (A28 h0).1;obtain⟨k',be',_,h2⟩:=To (Ab9 hc) f hf
 have key:∀{k:Kn} {nh:Nat} {l:List Hp} {i:Nat} {lab:SM Bool} {ty:SM Str},(Jd k nh l i lab ty).1=0->∀h∈l,h.floating=false->h.text≠[]:=by
  intro k nh l
  induction l with
  |nil=>intro _ _ _ _ h hh;cases hh
  |cons x r ih=>
   intro i lab ty h0 h hh hfl e;unfold Jd at h0
   split at h0
   ·grind
   ·rename_i hc
    rcases an_.1 hh with rfl|hh
    ·have hz:Vg k lab ty h (decide (Int.ofNat nh<=Int.ofNat i))=0:=gr;unfold Vg at hz
     split at hz
     ·cases hz
     ·rename_i hb
      unfold Awa at hb
      grind
    grind
 intro h hh
 exact key (Ai7 h2) h (by simp[Fr.all,hh])
theorem A0u{d}(h0:(ofF d).2=0){f}(hf:f∈d.frames){l}(hl:l∈f.text::H8 f.hyps){T}(hT:B1 d l=(T,0)){s}(hv:A0m (ofF d).1.rules s=true)(ho:ocT s T=true):s∈(f.hyps.filter (·.floating)).map (·.label):=by
 obtain⟨t0,text,e,hin⟩:=(A4s hT).tx;rw[e]at hl;obtain⟨h,hh,h1,h2⟩:=A48 h0 hf hl (hin s ho) hv
 grind
theorem A5u{f:Fr}{h}(hh:h∈f.hyps)(hf:h.floating=false):h.text∈f.text::H8 f.hyps:=
 aj_ _ (bt_.2 ⟨h,cp_.2 ⟨hh,gr⟩,rfl⟩)
theorem A3s{d m}(hO:Ayd (ofF d) m=0){f}(hf:f∈d.frames)(hl:f.hyps.length<1000000):A07 (ofF d).1 (Ayc d f):=by
 have h0:=A3r hO;have hcl:=A01 (d:=d) f.hyps ⟨[],[],0⟩
 have hb:(Ayc d f).vars.length<1000000/\(Ayc d f).prem.length<1000000:=by
  have hc:(Ayk d f.hyps).vars.length<=f.hyps.length/\(Ayk d f.hyps).prem.length<=f.hyps.length:=by unfold Ayk;grind
  unfold Ayc
  grind
 refine⟨hb.1,hb.2,fun h1 h2=>?_,fun h1 h2=>?_⟩
 ·rw[(A1h h1 h2).vars];exact A2t h0 hf
 ·have hc:=A1h h1 h2;have hp:=A4s hc.form
  refine⟨fun t ht=>?_,hp.ok,by have:=hp.cn;omega⟩
  obtain⟨h,_,_,hT⟩:=hc.prem t ht;have hq:=A4s hT
  exact⟨hq.ok,by have:=hq.cn;omega⟩
mutual
theorem A2u {g:List Rl}:∀(t:Ax) (acc:List Str),acc.Nodup->(Ayh g t acc).Nodup
 |.node s ks,acc,h=>by
  unfold Ayh;refine A2v ks _ ?_
  grind
theorem A2v {g:List Rl}:∀(l:List Ax) (acc:List Str),acc.Nodup->(Ayv g l acc).Nodup
 |[],acc,h=>h
 |t::r,acc,h=>by
  unfold Ayv;exact A2v r _ (A2u t acc h)
end
theorem Ay4(d l):A23 (ofF d).1 (Ayr d (ofF d).1 l):=by
 unfold Ayr
 split
 ·split
  ·exact⟨show 0<1000000 by decide,fun h=>absurd h (by assumption),fun h=>absurd h (by assumption)⟩
  ·rename_i h2
   have hT:B1 d l=((B1 d l).1,0):=Prod.ext rfl (Classical.byContradiction h2);have hp:=A4s hT;have hl:=A00 (g:=(ofF d).1.rules) (B1 d l).1 []
   exact⟨by have:=hp.cn;grind,fun _=>A2u _ _ dk_,fun _=>⟨hp.ok,ai_ hp.cn (by decide)⟩⟩
 ·exact⟨show 0<1000000 by decide,fun h=>absurd (show(11:Int)=0 from h) (by decide),fun h=>absurd (show(11:Int)=0 from h) (by decide)⟩
theorem A3a{α:Type}{l:List α}(h:l.Nodup):l.reverse.Nodup:=List.pairwise_reverse.2 (h.imp fun q=>gx_ q)
theorem A33{d m f}(hf:f∈d.frames){fuel R}(h:Azg d m f fuel R)(h1:R.1=false)(h2:R.2.2=0):(ofF d).2=0/\Azl d m f.text R.2.1=false/\∀h∈f.hyps,h.floating=false->Nv h.text=true->Azl d m h.text R.2.1=true:=by
 unfold Azg at h
 split at h
 ·rename_i hO
  have h0:=A3r hO;obtain⟨hn1,hn5,hTm⟩:=Ayu hO;unfold Ayo at h
  split at h
  ·grind
  ·rename_i hs
   split at h
   ·grind
   ·rename_i hc
    have hc:(Ayc d f).code=0:=Classical.byContradiction hc;have hs:(Ayc d f).silent=false:=gr;have hk:=A1h hs hc
    split at h
    ·grind
    ·obtain⟨o,bq,hR⟩:=h;cases o with
     |none=>rw[hR]at h1;cases h1
     |some vm=>
      have hnd:(Ayc d f).vars.Nodup:=by rw[hk.vars];exact A2t h0 hf
      obtain⟨hbad,hvr⟩:=bq.ok (A3a hnd) (A0q hn1 _) vm rfl;rw[hR];unfold A12 at hbad;simp only[ad_,bi_]at hbad;refine⟨h0,?_,fun h hh hfl ha=>?_⟩
      ·rw[A1g hO hk.form hvr fun s a b=>by rw[hk.vars];exact A0u h0 hf (ap_ ..) hk.form a b]
       have:=hbad.2;unfold Ay9 at this
       grind
      ·obtain⟨t,ht,hT⟩:=hk.all h hh hfl ha
       rw[A1g hO hT hvr fun s a b=>by rw[hk.vars];exact A0u h0 hf (A5u hh hfl) hT a b]
       have:=dv_.1 hbad.1 t ht;unfold Ay9 at this
       grind
 grind
theorem A3b{d m l fuel R}(h:Ayt d m l fuel R)(h2:R.2=0):Azl d m l R.1=false:=by
 unfold Ayt at h
 split at h
 ·rename_i hO
  obtain⟨hn1,hn5,hTm⟩:=Ayu hO;obtain⟨M,_,h⟩:=h
  split at h
  ·grind
  ·split at h
   ·grind
   ·split at h
    ·grind
    ·rename_i hc
     have hc:(Ayr d (ofF d).1 l).code=0:=Classical.byContradiction hc
     split at h
     ·grind
     ·obtain⟨o,bq,hR⟩:=h;cases o with
      |none=>rw[hR]at h2;exact absurd (show(5:Int)=0 from h2) (by decide)
      |some vm=>
       have hg:=Ay4 d l;obtain⟨hbad,hvr⟩:=bq.ok (A3a (hg.nd hc)) (A0q hn1 _) vm rfl
       have hT:B1 d l=((Ayr d (ofF d).1 l).tree,0)/\(Ayr d (ofF d).1 l).vars=Ayh (ofF d).1.rules (Ayr d (ofF d).1 l).tree []:=by
        unfold Ayr at hc⊢
        grind
       rw[hR]
       show Azl d m l (Aye (Ayr d (ofF d).1 l).vars vm)=false
       rw[A1g hO hT.1 hvr fun s a b=>by rw[hT.2];exact(Azi _ _).2 (.inr ⟨a,b⟩)]
       unfold Ay9 at hbad
       simpa using hbad
 grind
theorem A4u{n}(hn:1<=n){rv}(hd:rv.Nodup){bad}:∀(k:Nat) (m:SM Int),VR n m->(n ^ rv.length-Ay7 n rv m).toNat<=k->∃o,Run n rv bad m o
 |0,m,hm,hk=>by have:=(A10 hn (r:=rv) hm).2;omega
 |k+1,m,hm,hk=>by
  cases hb:bad m with
  |true=>exact⟨_,.hit hb⟩
  |false=>
   cases ha:A0a n rv m with
   |none=>exact⟨_,.done hb ha⟩
   |some m'=>
    obtain⟨h1,h2⟩:=A0p hd hm ha;have:=(A10 hn (r:=rv) hm).2;obtain⟨o,ho⟩:=A4u hn hd k m' h1 gr;exact⟨o,.step hb ha ho⟩
theorem A1i{vars vm}:(Aye vars vm).length=vars.length:=by unfold Aye;grind
theorem A34{d m f}(hC:Ayd (ofF d) m=0->A07 (ofF d).1 (Ayc d f))(fuel):∃R,Azg d m f fuel R/\(∀R',Azg d m f fuel R'->R'=R)/\R.2.1.length<1000000:=by
 unfold Azg
 by_cases hO:Ayd (ofF d) m=0
 ·simp only[if_pos hO];have hc:=hC hO;obtain⟨hn1,_,_⟩:=Ayu hO;unfold Ayo
  by_cases h1:(Ayc d f).silent=true
  ·simp only[if_pos h1];grind
  ·simp only[if_neg h1]
   by_cases h2:(Ayc d f).code≠0
   ·simp only[if_pos h2];grind
   ·simp only[if_neg h2]
    by_cases h3:fuel<Ayi m.n fuel (Ayc d f).vars.length 1
    ·simp only[if_pos h3];grind
    ·simp only[if_neg h3];have hnd:=hc.nd gr (Classical.byContradiction h2);obtain⟨o,ho⟩:=A4u hn1 (A3a hnd) (bad:=A12 m.des m.n (tmO d m) (Ayc d f)) _ _ (A0q hn1 (Ayc d f).vars) nl;refine⟨_,⟨o,ho,rfl⟩,fun R' h'=>?_,?_⟩
     ·obtain⟨o',ho',e⟩:=h';rw[e,ho.det o' ho']
     ·cases o with
      |none=>show 0<1000000;decide
      |some vm=>show(Aye _ vm).length<1000000;rw[A1i];exact hc.v
 ·simp only[if_neg hO];grind
theorem A1j{d m l fuel R}(h:Ayt d m l fuel R):R.1.length<1000000:=by
 unfold Ayt at h
 split at h
 ·obtain⟨M,_,h⟩:=h
  split at h
  ·grind
  ·split at h
   ·grind
   ·split at h
    ·grind
    ·split at h
     ·grind
     ·obtain⟨o,_,hR⟩:=h;rw[hR];cases o with
      |none=>show 0<1000000;decide
      |some vm=>show(Aye _ vm).length<1000000;rw[A1i];exact(Ay4 d l).v
 grind
theorem A4v{d}(h:W6 d 15 60=true):W6 d 25 100=true:=by
 unfold W6 at h⊢;simp only[ad_,decide_eq_true_eq,bi_]at h⊢;obtain⟨⟨⟨h1,h2⟩,h3⟩,h4⟩:=h
 refine⟨⟨⟨by omega,h2⟩,h3⟩,dv_.2 fun f hf=>?_⟩
 have:=dv_.1 h4 f hf;unfold bigF at this⊢
 grind
theorem A49{m}(h:fewM m=true):MdB m:=by
 unfold fewM at h;simp only[ad_,decide_eq_true_eq,bi_,bu_]at h
 refine⟨by omega,by omega,fun t ht=>?_⟩
 have:=dv_.1 h.2 t ht;unfold bigT at this
 grind
section
variable {Rr:Rec}{ρ:Ad}{J:Sto}{t ty p q:Nat}{k:IntKind}{x y:Operand}
theorem td3:(Ay Ew.P 3).map (·.desc)=some (.int .i64):=Kr
theorem ts5:(Ay Ew.P 5).isSome=true:=Kr
theorem A17(hx:Ah Ew ρ x=some (.int k (.ofNat p)))(hp:p<256):As Ew Rr (.convert 5 3 x) ρ J (nV p) J:=fun tm h=>by
 obtain⟨td,h1,h2⟩:=cy_.1 td3;obtain⟨ts,h3⟩:=bg_.1 ts5;have hb:Nat.ble p 9223372036854775807=true:=ar_ Om;simp only[opA,Aw,h1,h2,h3,h.opd hx,Pp,Me,Ak,M0,hb,cond_true];rfl
theorem A4w(hi:okI Ew.P t=true)(hx:Ah Ew ρ x=some (nV p))(hy:Ah Ew ρ y=some (nV q))(h:q≠0):As Ew Rr (.binOp .rem t x y ty) ρ J (nV (p%q)) J:=by
 obtain⟨q,rfl⟩:∃k,q=k+1:=⟨q-1,by omega⟩
 exact L0 (p:=.ofNat p) (q:=.ofNat (q+1)) hi hx hy (by show(C7 (p%(q+1)) fun m=>some (AV.int .i64 (.ofNat m)))=_;rw[Ak];rfl)
end
theorem f5L(d:Db)(m:Ax9)(k:Nat)(hk:k<256)(text:List Str)(hA:∀J,Cv 23 [] J (.bool true))(J:Sto):
  Cv 5 [dbV d,mdV m,.int .u8 (.ofNat k),Af text] J (.bool true):=by
 refine Aj Tryz.func5 rfl rfl fun hw hu0=>?_
 refine G10 ?_
 refine Ca (f9 d 15 60 J (by decide) (by decide)) ?_
 refine G2 ?_;refine Qh 3 _ (!fewM m) rfl rfl rfl rfl rfl (Eh rfl) (fun hg=>?_) (fun hg=>?_) ?_
 ·refine Gn hg ?_
  refine Bh rfl rfl rfl (by rw[hg];rfl) rfl rfl rfl rfl (f22w m J) ?_
  refine Gn hg ?_;refine G ?_;refine⟨rfl,?_,?_⟩
  ·exact sb
  ·exact rfl
 ·iterate 3 refine Of hg ?_
  refine G ?_;exact⟨rfl,sb⟩
 refine G ?_;refine Qh 4 _ (decide (Int.ofNat d.frames.length=0)) rfl rfl rfl rfl rfl (Eh rfl) (fun hg=>?_) (fun hg=>?_) ?_
 ·refine Gn hg ?_;refine On hg (Ac (v:=slV eF 8 d.frames) ldC rfl rfl rfl) ?_
  iterate 2 refine Gn hg ?_
  refine G ?_;refine⟨rfl,?_,?_⟩
  ·exact sb
  ·exact rfl
 ·iterate 4 refine Of hg ?_
  refine G ?_;exact⟨rfl,sb⟩
 refine G ?_;refine Qh 3 _ (decide ((40:Int)<Int.ofNat text.length)) rfl rfl rfl rfl rfl (Eh rfl) (fun hg=>?_) (fun hg=>?_) ?_
 ·iterate 3 refine Gn hg ?_
  refine G ?_;refine⟨rfl,?_,?_⟩
  ·exact sb
  ·exact rfl
 ·iterate 3 refine Of hg ?_
  refine G ?_;exact⟨rfl,sb⟩
 refine G ?_;refine Ab rfl ?_ ?_<;>intro h1
 ·refine G2 ?_;refine Ca (hA _) ?_;refine G3 ?_;exact⟨_,rfl,_,_,a_ hw nl (fun _ _=>rfl),nl,.same rfl,rfl,rfl⟩
 ·simp only[bv_,df_,decide_eq_false_iff_not,bu_]at h1;obtain⟨⟨⟨h2,h3⟩,h4⟩,h5⟩:=h1;have hM:=A49 h3;obtain⟨hD,hvf,hsm⟩:=Ac1 (A4v h2)
  have htl:text.length<1000000:=by omega
  have hfr:∀f∈d.frames,f.hyps.length<=1000000/\f.text.length<1000000/\∀h∈f.hyps,h.text.length<1000000:=fun f hf=>⟨by have:=(hD.f f hf).h;omega,gr,gr⟩
  have hCm:∀f∈d.frames,Ayd (ofF d) m=0->A07 (ofF d).1 (Ayc d f):=fun f hf hO=>A3s hO hf (hD.f f hf).h
  have hne:d.frames.length≠0:=by omega
  obtain⟨i,hi⟩:∃i,k%d.frames.length=i:=⟨_,rfl⟩
  obtain⟨f,hf⟩:=Ar (show i<d.frames.length by rw[←hi];exact Nat.mod_lt _ Om)
  have hfm:=ab_ hf;obtain⟨⟨hok,hv,he⟩,hR,hR1,hvl⟩:=A34 (hCm f hfm) 2000;have hvl:hv.length<1000000:=hvl
  have h29:Cv 29 [dbV d,mdV m,nV i,iV 2000] J (.tup [.bool hok,slV eVl 2 hv,iV he]):=(f29 d m J hD hvf hfr hM hCm (by decide) (by decide) hf).mono gr
  have ma:∀rv re,Ayt d m text 2000 (rv,re)->(!decide (re=0)|| !Azl d m text rv)=true:=fun rv re h=>by
   by_cases hq:re=0
   ·rw[A3b h hq,fc_,Bool.or_true]
   grind
  refine G4 ?_;refine Ca (f8o m J hM.t) ?_;refine G7 ?_;refine Gz 11 [.str [],.bool false,nS,nS,nS,nS,nS,nS] (eF f) [] (Avp f) rfl (fun hw0=>?_) ?_
  ·refine L4 (Rr:=Dk []) (anns:=[⟨.pure,0,1⟩,⟨.read,0,1⟩,⟨.pure,0,1⟩,⟨.read,0,1⟩,⟨.pure,0,1⟩,⟨.read,0,1⟩,⟨.read,0,1⟩,⟨.pure,0,1⟩,⟨.pure,0,1⟩,⟨.read,0,1⟩,⟨.eff,0,1⟩,⟨.eff,1,2⟩]) Di (Bw (l:=[]) trivial) Kr ?_;refine G ?_;refine DF (Ac (v:=slV eF 8 d.frames) ldC rfl rfl rfl) ?_;refine G ?_;refine DF (A17 (p:=k) rfl hk) ?_;refine G ?_;refine DF (Ac (v:=slV eF 8 d.frames) ldC rfl rfl rfl) ?_;refine G ?_;refine DF (A4w (p:=k) (q:=d.frames.length) okC rfl rfl hne) ?_;rw[hi];refine G2 ?_
   refine DT (Bu ziC) (DT (sO (cs:=[.str [],.bool false,nS,nS,nS,nS,nS,nS]) (cs':=eF f) (by rw[ag_,if_pos rfl])) ?_)
   refine G ?_;exact⟨⟨trivial,(fun s hs=>⟨_,Ac (v:=slV eF 8 d.frames) (ldC (t:=23)) rfl rfl rfl⟩),trivial,(fun s hs=>⟨_,A17 (p:=k) rfl hk⟩),trivial,(fun s hs=>⟨_,Ac (v:=slV eF 8 d.frames) (ldC (t:=23)) rfl rfl rfl⟩),(fun s hs=>⟨_,Jl (slC (t:=23)) rfl⟩),trivial,trivial,(fun s hs=>⟨_,Ac (ldC (t:=50)) rfl rfl rfl⟩),trivial,trivial,trivial⟩,trivial,sb,rfl,rfl⟩
  refine G2 ?_;refine XS (l:=[(29,[dbV d,mdV m,nV i,iV 2000],J,.tup [.bool hok,slV eVl 2 hv,iV he],J)]) ⟨h29,trivial⟩ ?_;refine G3 ?_;refine DF (A17 (p:=k) rfl hk) ?_;refine G ?_;refine DF (Ac (v:=slV eF 8 d.frames) ldC rfl rfl rfl) ?_;refine G ?_;refine DF (A4w (p:=k) (q:=d.frames.length) okC rfl rfl hne) ?_;rw[hi]
  iterate 14 refine G ?_
  refine Hq 2 _ (!hok) rfl rfl rfl rfl rfl (Eh rfl) (fun hg=>?_) (fun hg=>?_) ?_
  ·iterate 2 refine Gn hg ?_
   refine G ?_;refine⟨rfl,?_,?_⟩
   ·exact sb
   ·exact rfl
  ·iterate 2 refine Of hg ?_
   refine G ?_;exact⟨rfl,sb⟩
  refine G ?_;refine Ab rfl ?_ ?_<;>intro h6
  ·have h6:(decide (he=0)&& !hok)=true:=h6;rw[ad_,bi_,decide_eq_true_eq]at h6;obtain⟨h0,hl1,hl2⟩:=A33 hfm hR h6.2 h6.1;have hl1:Azl d m f.text hv=false:=hl1;have hl2:∀h∈f.hyps,h.floating=false->Nv h.text=true->Azl d m h.text hv=true:=hl2;have om:=A5t h0 hfm;refine G7 ?_;refine Ca (f25 d m f.text hv _ hD hvf hM (hfr f hfm).2.1 hvl) ?_;refine G ?_;refine Ab rfl ?_ ?_<;>intro h7
   ·grind
   ·refine G4 ?_;refine O1 (Ac (v:=slV eH 3 f.hyps) ldC rfl rfl rfl) ?_;refine G4 ?_;refine Bz f.hyps.length (fun i0=>[(3,Af text),(4,.pv [Af d.consts,Af d.vars,slV eF 8 d.frames]),(9,.pv [iV m.n,slV eI 1 m.des,slV eTb 2 m.tabs]),(10,.fn (.func 25) [] [.pv [Af d.consts,Af d.vars,slV eF 8 d.frames],.pv [iV m.n,slV eI 1 m.des,slV eTb 2 m.tabs],.pv [iV m.n,slV eI 1 m.des,slV eTb 2 m.tabs]]),(13,slV eVl 2 hv),(77,slV eH 3 f.hyps),(78,iV (.ofNat f.hyps.length)),(79,iV (.ofNat i0))]) (fun i0 J0=>J0=J) SL rfl ?_
    rintro i0 J0 hi0 rfl;refine G5 ?_;refine Ab rfl ?_ ?_<;>intro h8
    ·have bc:i0<f.hyps.length:=gr;obtain⟨a0,ha0⟩:=Ar bc;have ham:=ab_ ha0
     iterate 15 refine G ?_
     refine Hq 5 _ (Nv a0.text) rfl rfl rfl rfl rfl (Eh rfl) (fun hg=>?_) (fun hg=>?_) ?_
     ·obtain⟨c0,cl,hcx⟩:∃c0 cl,a0.text=c0::cl:=by
       cases hx:a0.text with
       |nil=>exact absurd hx (om a0 ham gr)
       |cons a l=>exact⟨a,l,rfl⟩
      refine Gn hg ?_;refine On hg (Ac (v:=Af a0.text) ldC rfl rfl rfl) (On hg (A1 (a:=c0) (i:=0) elC (fun _=>rfl) rfl rfl gr) ?_)
      refine Gn hg ?_;refine On hg (H5 (q:=[124,45]) okC rfl rfl) ?_;refine G ?_;refine⟨rfl,?_,?_⟩
      ·exact sb
      ·exact congrArg (fun b=>some (AV.bool b)) (by unfold Nv;grind)
     ·iterate 5 refine Of hg ?_
      refine G ?_;exact⟨rfl,sb⟩
     refine G ?_;refine Hq 6 _ false rfl rfl rfl rfl rfl (Eh rfl) (fun hg=>?_) (fun hg=>?_) ?_
     ·iterate 2 refine Gn hg ?_
      refine On hg (Ac (v:=Af a0.text) ldC rfl rfl rfl) ?_;refine Gn hg ?_
      refine Bh rfl rfl rfl (by rw[hg];rfl) rfl rfl rfl rfl (f25 d m a0.text hv _ hD hvf hM ((hfr f hfm).2.2 a0 ham) hvl) ?_
      refine Gn hg ?_;refine G ?_;refine⟨rfl,?_,?_⟩
      ·exact sb
      ·exact congrArg (fun b=>some (AV.bool b)) gr
     ·iterate 6 refine Of hg ?_
      refine G ?_;exact⟨rfl,sb⟩
     refine G ?_;refine Ab rfl ?_ ?_<;>intro h9
     ·grind
     ·refine G2 ?_;refine O1 (D3 (q:=1) okC rfl rfl gr) ?_;refine G2 ?_;exact⟨bc,SL,rfl⟩
    ·refine G6 ?_
     refine Az rfl rfl rfl rfl (f30 d m _ hD hvf hfr hM hCm htl (fun _=>Ay4 d text) (show(1:Int)<=2000 by decide) (show(2000:Int)<=100000 by decide)) ?_
     rintro _ _ ⟨⟨rv,re⟩,rfl,hRR,rfl⟩;have hrl:=A1j hRR;refine G11 ?_;refine Qh 5 _ (!Azl d m text rv) rfl rfl rfl rfl rfl (Eh rfl) (fun hg=>?_) (fun hg=>?_) ?_
     ·iterate 3 refine Gn hg ?_
      refine Bh rfl rfl rfl (by rw[hg];rfl) rfl rfl rfl rfl (f25 d m text rv _ hD hvf hM htl hrl) ?_
      refine Gn hg ?_;refine G ?_;refine⟨rfl,?_,?_⟩
      ·exact sb
      ·exact rfl
     ·iterate 5 refine Of hg ?_
      refine G ?_;exact⟨rfl,sb⟩
     rw[show(!decide (re=0)|| !Azl d m text rv)=true from ma rv re hRR]
     refine G ?_;refine Bh rfl rfl rfl rfl rfl rfl rfl rfl (hA _) (O1 (A3 rfl rfl rfl) ?_);refine G3 ?_;exact⟨_,rfl,_,_,a_ hw nl (fun _ _=>rfl),nl,.same rfl,rfl,rfl⟩
  ·refine G6 ?_
   refine Az rfl rfl rfl rfl (f30 d m _ hD hvf hfr hM hCm htl (fun _=>Ay4 d text) (show(1:Int)<=2000 by decide) (show(2000:Int)<=100000 by decide)) ?_
   rintro _ _ ⟨⟨rv,re⟩,rfl,hRR,rfl⟩;have hrl:=A1j hRR;refine G11 ?_;refine Qh 5 _ (!Azl d m text rv) rfl rfl rfl rfl rfl (Eh rfl) (fun hg=>?_) (fun hg=>?_) ?_
   ·iterate 3 refine Gn hg ?_
    refine Bh rfl rfl rfl (by rw[hg];rfl) rfl rfl rfl rfl (f25 d m text rv _ hD hvf hM htl hrl) ?_
    refine Gn hg ?_;refine G ?_;refine⟨rfl,?_,?_⟩
    ·exact sb
    ·exact rfl
   ·iterate 5 refine Of hg ?_
    refine G ?_;exact⟨rfl,sb⟩
   rw[show(!decide (re=0)|| !Azl d m text rv)=true from ma rv re hRR]
   refine G ?_;refine Bh rfl rfl rfl rfl rfl rfl rfl rfl (hA _) (O1 (A3 rfl rfl rfl) ?_);refine G3 ?_;exact⟨_,rfl,_,_,a_ hw nl (fun _ _=>rfl),nl,.same rfl,rfl,rfl⟩
def dB:Db:=⟨[[119,102,102],[124,45],[40],[41],[45,62],[45,46]],[[112,104],[112,115],[99,104]],[⟨[119,105],false,[⟨[119,112,104],true,[[119,102,102],[112,104]]⟩,⟨[119,112,115],true,[[119,102,102],[112,115]]⟩],[],[[119,102,102],[40],[112,104],[45,62],[112,115],[41]],[⟨[119,99,104],true,[[119,102,102],[99,104]]⟩],[],[]⟩,
 ⟨[119,110],false,[⟨[119,112,104],true,[[119,102,102],[112,104]]⟩],[],[[119,102,102],[45,46],[112,104]],[⟨[119,112,115],true,[[119,102,102],[112,115]]⟩,⟨[119,99,104],true,[[119,102,102],[99,104]]⟩],[],[]⟩,
 ⟨[97,120,45,49],false,[⟨[119,112,104],true,[[119,102,102],[112,104]]⟩,⟨[119,112,115],true,[[119,102,102],[112,115]]⟩],[],[[124,45],[40],[112,104],[45,62],[40],[112,115],[45,62],[112,104],[41],[41]],[⟨[119,99,104],true,[[119,102,102],[99,104]]⟩],[],[]⟩]⟩
def rsB:List Rl:=[⟨[119,112,104],[119,102,102],[⟨[112,104],[],0⟩],true⟩,
 ⟨[119,112,115],[119,102,102],[⟨[112,115],[],0⟩],true⟩,
 ⟨[119,99,104],[119,102,102],[⟨[99,104],[],0⟩],true⟩,
 ⟨[119,105],[119,102,102],[⟨[40],[],0⟩,⟨[],[119,102,102],0⟩,⟨[45,62],[],0⟩,⟨[],[119,102,102],1⟩,⟨[41],[],0⟩],false⟩,
 ⟨[119,110],[119,102,102],[⟨[45,46],[],0⟩,⟨[],[119,102,102],0⟩],false⟩]
def gB:Gr:=⟨[[119,102,102]],rsB⟩
def mB:Ax9:=⟨2,[1],[⟨[119,105],[1,1,0,1]⟩,⟨[119,110],[1,0]⟩]⟩
def tmB:SM (List Int):=[([119,105],[1,1,0,1]),([119,110],[1,0])]
theorem vB:∀r∈rsB,Hr gB r=true:=by
 intro r hr
 have hp:(D1 r).Pairwise fun x y=>decide (x<=y)=true:=by revert r;decide+kernel
 unfold Hr;rw[Atl hp];clear hp
 revert r
 decide+kernel
theorem A5j:Eb gB=0:=by
 unfold Eb
 rw[if_neg (by decide+kernel),if_neg (by decide+kernel),show Pe gB gB.rules []=false from Akh vB (by decide+kernel)];rfl
theorem A5a:Ea dB=0:=Kr
theorem varsB:Kw (Il (Bt dB) []) dB.vars zG=some ⟨[[119,102,102]],rsB.take 3⟩:=Kr
theorem A5b:F6 dB.frames ⟨[[119,102,102]],rsB.take 3⟩=some gB:=Kr
theorem ofB:ofF dB=(gB,0):=by
 unfold ofF
 rw[if_neg (by rw[A5a];decide),varsB]
 simp only;rw[A5b];simp only
 rw[if_neg (by rw[A5j];decide)]
theorem A5v:W6 dB 25 100=true:=Kr
def lph:Str:=[119,112,104]
def lps:Str:=[119,112,115]
def tG:Ax:=.node [119,105] [vph,vps]
def tA:Ax:=.node [119,105] [vph,.node [119,105] [vps,vph]]
def tN:Ax:=.node [119,110] [vph]
def xB:List Str:=[[124,45],[40],[112,104],[45,62],[112,115],[41]]
theorem prsB{s text}:Fj gB s text=(if s∉gB.sorts then((none,5):Option (List Nde)×Int)else if text.length>200 then(none,4)else
   if(Ej gB s text).sets.length<=text.length∨(s,0,text.length)∉(Ej gB s text).done then(none,160)else
   match Im gB (Ej gB s text).done text (s,0,text.length)with
   |none=>(none,15)
   |some F=>(some F,0)):=by
 unfold Fj
 rw[if_neg (by rw[A5j];decide)];rfl
theorem A5k{t text}:B1 dB (t::text)=(if D7 t∉gB.sorts then(Ek,11)else match Fj gB (D7 t) text with
  |(none,e)=>(Ek,if e=160 then 190 else e)
  |(some F,_)=>Mu gB F):=by
 unfold B1
 rw[ofB,if_neg (by decide)];rfl
theorem A5w:B1 dB xB=(tG,0):=by unfold xB;rw[A5k,prsB];kernel_rfl
theorem A5x:B1 dB (dB.frames[2]?.getD zFr).text=(tA,0):=by
 show B1 dB ([124,45]::[[40],[112,104],[45,62],[40],[112,115],[45,62],[112,104],[41],[41]])=_
 rw[A5k,prsB];kernel_rfl
theorem A4x:Ayd (ofF dB) mB=0:=by rw[ofB];kernel_rfl
theorem tmoB:tmO dB mB=tmB:=by unfold tmO;rw[ofB];kernel_rfl
def cZ:Ax7:=⟨true,[],[],A1r,0⟩
def cA:Ax7:=⟨false,[lph,lps],[],tA,0⟩
theorem A5c:Ayg dB dB.frames.length=[(cZ,0),(cZ,1),(cA,2)]:=by
 have h2:Ayc dB (dB.frames[2]?.getD zFr)=cA:=by
  have hy:Ayk dB (dB.frames[2]?.getD zFr).hyps=⟨[lph,lps],[],0⟩:=Kr;unfold Ayc;rw[if_pos Kr,hy]
  show(⟨false,[lph,lps],[],(B1 dB (dB.frames[2]?.getD zFr).text).1,(B1 dB (dB.frames[2]?.getD zFr).text).2⟩:Ax7)=cA
  rw[A5x];rfl
 have h0:Ayc dB (dB.frames[0]?.getD zFr)=cZ:=by unfold Ayc;rw[if_neg (by decide+kernel)];rfl
 have h1:Ayc dB (dB.frames[1]?.getD zFr)=cZ:=by unfold Ayc;rw[if_neg (by decide+kernel)];rfl
 unfold Ayg
 rw[show List.range dB.frames.length=[0,1,2] by kernel_rfl]
 have g0:A13 dB 0=some (cZ,0):=by rw[←h0];rfl
 have g1:A13 dB 1=some (cZ,1):=by rw[←h1];rfl
 have g2:A13 dB 2=some (cA,2):=by rw[←h2];rfl
 grind
theorem A4y{R}(h:Ayo [1] 2 tmB cZ 100 R):R=(true,[],0):=by
 unfold Ayo at h;rwa[if_pos (show cZ.silent=true from rfl)]at h
theorem A5y{R}(h:Ayo [1] 2 tmB cA 100 R):R=(true,[],0):=by
 unfold Ayo at h
 rw[if_neg (by decide),if_neg (by decide),if_neg (by decide+kernel)]at h
 obtain⟨o,ho,hR⟩:=h;have h1:Run 2 cA.vars.reverse (A12 [1] 2 tmB cA) (Ayy cA.vars) none:=A11 (k:=10) Kr;rw[←ho.det _ h1]at hR;exact hR
theorem A4z{M}(h:A0b mB.des mB.n (tmO dB mB) 100 ((Ayg dB dB.frames.length).map (·.1)) 0 M):M=(true,0,0):=by
 rw[tmoB,A5c]at h;obtain⟨H,h1,h⟩:=h
 rw[A4y h1,if_neg (by decide)]at h
 obtain⟨H,h1,h⟩:=h
 rw[A4y h1,if_neg (by decide)]at h
 obtain⟨H,h1,h⟩:=h
 rw[A5y h1,if_neg (by decide)]at h
 exact h
def lB:List Ayb:=[⟨lph,1⟩,⟨lps,0⟩]
theorem goalB:Ayr dB (ofF dB).1 xB=⟨tG,[lph,lps],0⟩:=by
 unfold Ayr
 rw[if_pos Kr,A5w,if_neg (by decide),ofB]
 kernel_rfl
theorem A5d{R}(h:Ayt dB mB xB 100 R):R=(lB,0):=by
 unfold Ayt at h;rw[if_pos A4x]at h;obtain⟨M,hM,h⟩:=h;rw[A4z hM,goalB,tmoB]at h
 rw[if_neg (by decide),if_neg (by decide),if_neg (by decide),if_neg (by decide+kernel)]at h
 obtain⟨o,ho,hR⟩:=h;have h1:Run 2 [lps,lph] (fun m=>Ay9 [1] 2 tmB m tG) (Ayy [lph,lps]) (some [(lph,1),(lps,0)]):=A11 (k:=10) Kr
 rw[←ho.det _ h1]at hR;exact hR
theorem A5l:Ayp dB mB tN [⟨lph,1⟩]=0/\Ay3 dB mB tN [⟨lph,1⟩]=0:=by
 have h1:Ayp dB mB tN [⟨lph,1⟩]=0:=by
  unfold Ayp Ay8;rw[if_pos A4x,ofB]
  kernel_rfl
 refine⟨h1,?_⟩;unfold Ay3;rw[if_pos h1,tmoB,ofB]
 kernel_rfl
end Go.AM
