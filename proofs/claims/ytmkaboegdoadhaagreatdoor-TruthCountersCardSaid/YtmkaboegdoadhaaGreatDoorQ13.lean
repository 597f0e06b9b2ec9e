/- A part of the proof; shortened by program. -/
import Derived.Shelf.Small.Strs
import Derived.Shelf.Sort.Plain
import Derived.Shelf.Slices.In.SortNone
import Derived.Test.YtmkaboegdoadhaaGreatDoorProg
import Derived.Shelf.Small.Utf8
import Derived.Shelf.Strings.Runes
import Derived.Shelf.GgClosure.StringsRunes
import Derived.Test.YtmkaboegdoadhaaGreatDoorQ10
set_option maxRecDepth 100000
set_option maxHeartbeats 4000000
set_option linter.unusedSimpArgs false
set_option linter.unusedVariables false
namespace Go.AM
open Go
section
variable {E:Env}{ρ:Ad}{J J' U:Sto}{N:Nat}{α:Type}{enc enc':α->List AV}{sz by':Nat}{l:List α}{v:AV}
theorem Own.app1(he:∀a,(enc a).length=sz)(hN:N<=nx J)(h:Own J N enc sz l v)(b)(bn:(l.length+1)*(by'+1)<=sizeLim):
  ∃J',B6 J sz by' v 1 (enc b)=some (.sr (nx J) 0 sz (l.length+1) none,J')/\J'.get (nx J)=some (.cells ((l++[b]).flatMap enc))/\nx J'=nx J+1/\Own J' N enc sz (l++[b]) (.sr (nx J) 0 sz (l.length+1) none)/\
   (∀a,a<nx J->(∀c,v=.sr c 0 sz l.length none->a≠c)->J'.get a=J.get a):=by
 obtain⟨v',J',h1,h2,h3,h4⟩:=h.app (by':=by') he hN [b] gr
 have hb:Nat.ble ((l.length+1)*(by'+1)) sizeLim=true:=ar_ bn
 have h1':B6 J sz by' v 1 (enc b)=some (v',J'):=gr
 have key:v'=.sr (nx J) 0 sz (l.length+1) none/\J'.get (nx J)=some (.cells ((l++[b]).flatMap enc))/\nx J'=nx J+1:=by
  rcases h with⟨rfl,rfl|rfl⟩|⟨a,tl,k1,k2,rfl,k3⟩
  ·have hb':Nat.ble ((0+1)*(by'+1)) sizeLim=true:=hb
   simp only[B6,Ja,hb',cond_true,Ak,bd_,af_,ba_]at h1'
   grind
  ·have hb':Nat.ble ((0+1)*(by'+1)) sizeLim=true:=hb
   have h0:Nat.ble (0+1) 0=false:=rfl;simp only[B6,aw_,h0,fc_,be_,cond_true,Ja,hb',Ak,bd_,af_,ba_]at h1'
   grind
  ·have ev:J.cells a=some (l.flatMap enc++tl):=by unfold Sto.cells;rw[k3]
   have b9:Dr (l.length*sz) ((l.flatMap enc++tl).drop 0)=some (l.flatMap enc):=by
    have:=D0 (l:=l.flatMap enc) (r:=tl)
    rwa[Dl he]at this
   simp only[B6,aw_,cond_true,ev,b9,Ja,hb,Ak,B3,af_,ba_]at h1'
   grind
 grind
theorem FzL.app:∀{a b c d:List AV},FzL J U a b->FzL J U c d->FzL J U (a++c) (b++d)
 |_,_,_,_,.nil,h=>h
 |_,_,_,_,.cons h1 h2,h=>.cons h1 (h2.app h)
theorem FzL.flat(h:∀a,FzL J U (enc a) (enc' a)):∀l:List α,FzL J U (l.flatMap enc) (l.flatMap enc')
 |[]=>.nil
 |a::l=>by simp only[bs_];exact(h a).app (FzL.flat h l)
theorem Own.fzE(he:∀a,(enc a).length=sz)(h:Own J N enc sz l v)(hτ:∀a,N<=a->U.get a=none)(hu:∀a,FzL J U (enc a) (enc' a)):Fz J U v (slV enc' sz l):=by
 rcases h with⟨rfl,rfl|rfl⟩|⟨a,tl,h1,_,rfl,h3⟩
 ·exact .nils gr
 ·exact .sv gr .nil
 ·have b9:Dr (l.length*sz) ((l.flatMap enc++tl).drop 0)=some (l.flatMap enc):=by
   have:=D0 (l:=l.flatMap enc) (r:=tl)
   rwa[Dl he]at this
  exact .sr h3 (hτ a h1) b9 (FzL.flat hu l)
end
section
set_option linter.unusedSectionVars false
class KE (κ:Type)[DecidableEq κ] where
 k:κ->Key
 eq:∀a b,Key.eq (k a) (k b)=decide (a=b)
theorem Nn(a b):Tz a b=decide (a=b):=by
 cases a with
 |ofNat x=>cases b with
  |ofNat y=>
   show Nat.beq x y=_
   by_cases h:x=y
   ·subst h;simp
   ·rw[decide_eq_false (fun hh=>h (ci_ hh))]
    cases hb:Nat.beq x y with
    |true=>exact absurd (ac_ hb) h
    |false=>rfl
  |negSucc y=>rfl
 |negSucc x=>cases b with
  |ofNat y=>rfl
  |negSucc y=>
   show Nat.beq x y=_
   by_cases h:x=y
   ·subst h;simp
   ·rw[decide_eq_false (fun hh=>h (Int.negSucc.inj hh))]
    cases hb:Nat.beq x y with
    |true=>exact absurd (ac_ hb) h
    |false=>rfl
instance:KE Int where
 k n:=.int .i64 n
 eq a b:=by show(Ed .i64 .i64&&Tz a b)=_;rw[Nn];rfl
abbrev Kk:=Str×Int×Int
instance:KE Kk where
 k p:=.agg [kS p.1,.int .i64 p.2.1,.int .i64 p.2.2]
 eq a b:=by
  obtain⟨s,x,y⟩:=a;obtain⟨t,u,v⟩:=b;simp only[Key.eq,Key.eqs,Abl,Nn,Ed]
  by_cases h1:s=t<;>by_cases h2:x=u<;>by_cases h3:y=v<;>simp[h1,h2,h3]
abbrev GM(κ α:Type):=List (κ×α)
section
variable {κ α:Type}[DecidableEq κ][KE κ]
def Hi(enc:α->AV)(m:GM κ α):List (Key×AV):=m.map fun p=>(KE.k p.1,enc p.2)
def GM.get:GM κ α->κ->Option α
 |[],_=>none
 |(k,v)::r,s=>if s=k then some v else GM.get r s
def GM.set:GM κ α->κ->α->GM κ α
 |[],_,_=>[]
 |(k,v)::r,s,x=>if s=k then(k,x)::r else(k,v)::GM.set r s x
def GM.ins:GM κ α->κ->α->GM κ α
 |[],s,x=>[(s,x)]
 |(k,v)::r,s,x=>if Key.lt (KE.k s) (KE.k k)then(s,x)::(k,v)::r else(k,v)::GM.ins r s x
def GM.put(m:GM κ α)(s:κ)(x:α):GM κ α:=match m.get s with|some _=>m.set s x|none=>m.ins s x
variable {enc:α->AV}{m:GM κ α}{s t:κ}{x:α}
theorem Rt:∀{m:GM κ α},D5 (KE.k s) (Hi enc m)=(m.get s).map enc
 |[]=>rfl
 |(k,v)::r=>by
  show cond (Key.eq (KE.k s) (KE.k k)) (some (enc v)) (D5 (KE.k s) (Hi enc r))=_
  rw[KE.eq,GM.get]
  by_cases h:s=k
  ·rw[decide_eq_true h,cond_true,if_pos h];rfl
  ·rw[decide_eq_false h,cond_false,if_neg h];exact Rt
theorem Aiv:∀{m:GM κ α},Ph (KE.k s) (enc x) (Hi enc m)=Hi enc (m.set s x)
 |[]=>rfl
 |(k,v)::r=>by
  show cond (Key.eq (KE.k s) (KE.k k)) ((KE.k k,enc x)::Hi enc r) ((KE.k k,enc v)::Ph (KE.k s) (enc x) (Hi enc r))=_
  rw[KE.eq,GM.set]
  by_cases h:s=k
  ·rw[decide_eq_true h,cond_true,if_pos h];rfl
  ·rw[decide_eq_false h,cond_false,if_neg h,Aiv];rfl
theorem Aiw:∀{m:GM κ α},Nx (KE.k s) (enc x) (Hi enc m)=Hi enc (m.ins s x)
 |[]=>rfl
 |(k,v)::r=>by
  show cond (Key.lt (KE.k s) (KE.k k)) ((KE.k s,enc x)::(KE.k k,enc v)::Hi enc r) ((KE.k k,enc v)::Nx (KE.k s) (enc x) (Hi enc r))=_
  rw[GM.ins];cases h:Key.lt (KE.k s) (KE.k k)
  ·rw[cond_false,if_neg (by simp),Aiw];rfl
  ·rw[cond_true,if_pos rfl];rfl
theorem Ark:Aot (KE.k s) (enc x) (Hi enc m)=Hi enc (m.put s x):=by
 unfold Aot GM.put;rw[Rt];cases m.get s with
 |none=>exact Aiw
 |some y=>exact Aiv
theorem GM.get_set:∀{m:GM κ α},(m.set s x).get t=if t=s/\(m.get s).isSome then some x else m.get t
 |[]=>by simp[GM.set,GM.get]
 |(k,v)::r=>by
  unfold GM.set
  by_cases h:s=k
  ·subst h;rw[if_pos rfl];simp only[GM.get,if_true,ew_,and_true]
   by_cases ht:t=s
   ·simp[ht]
   ·simp[ht]
  ·rw[if_neg h];simp only[GM.get,if_neg h]
   by_cases ht:t=k
   ·subst ht;rw[if_pos rfl,if_pos rfl,if_neg (fun hh=>h hh.1.symm)]
   ·rw[if_neg ht,if_neg ht];exact GM.get_set
theorem GM.get_ins:∀{m:GM κ α},m.get s=none->(m.ins s x).get t=if t=s then some x else m.get t
 |[],_=>by simp[GM.ins,GM.get]
 |(k,v)::r,hn=>by
  have hk:s≠k:=fun h=>by simp[GM.get,h]at hn
  have hr:GM.get r s=none:=by simpa[GM.get,hk]using hn
  unfold GM.ins
  split
  ·simp only[GM.get]
  ·simp only[GM.get]
   by_cases ht:t=k
   ·subst ht;rw[if_pos rfl,if_neg (fun h=>hk h.symm),if_pos rfl]
   ·rw[if_neg ht,if_neg ht];exact GM.get_ins hr
theorem GM.get_put:(m.put s x).get t=if t=s then some x else m.get t:=by
 unfold GM.put;cases h:m.get s with
 |none=>exact GM.get_ins h
 |some y=>simp only[GM.get_set,h,ew_,and_true]
abbrev fp_:=@GM.get_put
end
def GAt{κ α:Type}[DecidableEq κ][KE κ](kt:Nat)(enc:α->AV)(J:Sto)(r:Nat)(m:GM κ α):Prop:=∃ver,J.get r=some (.map kt (Hi enc m) ver)
section
variable {E:Env}{ρ:Ad}{J J':Sto}{Rr:Rec}{t kt sz r a:Nat}{x y w:Operand}{agg:Bool}{z u:AV}{κ α:Type}[DecidableEq κ][KE κ]{enc:α->AV}{m:GM κ α}{k:κ}{v:α}
theorem Amz(hi:mpI E.P t=some (kt,z,sz,agg))(hx:Ah E ρ x=some (.mp r))(hm:GAt kt enc J r m)(hy:Ah E ρ y=some u)(hk:D4 E.P kt u=some (KE.k k)):
  As E Rr (.lookup t x y false) ρ J (((m.get k).map enc).getD z) J:=by
 have:=Aet (Rr:=Rr) hi hx (show Xz J kt (Hi enc m) (.mp r)from hm) hy hk
 rwa[Rt]at this
theorem Arl(hi:mpI E.P t=some (kt,z,sz,agg))(hx:Ah E ρ x=some (.mp r))(hm:GAt kt enc J r m)(hy:Ah E ρ y=some u)(hk:D4 E.P kt u=some (KE.k k)):
  As E Rr (.lookup t x y true) ρ J (.tup [((m.get k).map enc).getD z,.bool (m.get k).isSome]) J:=by
 have:=Abf (Rr:=Rr) hi hx (show Xz J kt (Hi enc m) (.mp r)from hm) hy hk
 rwa[Rt,Option.isSome_map]at this
theorem K7{ver}(hi:mpI E.P t=some (kt,z,sz,agg))(hx:Ah E ρ x=some (.mp r))(hm:J.get r=some (.map kt (Hi enc m) ver))(hy:Ah E ρ y=some u)(hk:D4 E.P kt u=some (KE.k k))
  (hw:Ah E ρ w=some (enc v))(hf:∀te:TI,te.size=sz->te.isAgg=agg->Je te (enc v)=true):
  As E Rr (.mapUpdate t x y w) ρ J An (J.set r (.map kt (Hi enc (m.put k v)) (ver+1))):=by
 have:=Aeu (Rr:=Rr) hi hx hm hy hk hw hf
 rwa[Ark]at this
theorem GAt.of_get(h:GAt kt enc J r m)(hg:J'.get r=J.get r):GAt kt enc J' r m:=by obtain⟨v,h⟩:=h;exact⟨v,hg.trans h⟩
theorem GAt.put{ver}:GAt kt enc (J.set r (.map kt (Hi enc m) ver)) r m:=⟨ver,by rw[aa_,if_pos rfl]⟩
end
end
section
variable {E:Env}{ρ:Ad}{J J' U:Sto}{Rr:Rec}{t ty n a i k N off sz sz0 by':Nat}{x y:Operand}{agg:Bool}{cs cs' c tl:List AV}{u v:AV}{α:Type}{enc:α->List AV}{l:List α}{e:α}
theorem E8(hg:J.get a=some (.cells cs))(hi:ldI E.P t=some (sz,agg))(hx:Ah E ρ x=some (.pr a off))(hv:Cz sz agg (cs.drop off)=some v):As E Rr (.load t x) ρ J v J:=
 Ac hi hx (by simp only[Em,Sto.cells,hg]) hv
theorem G1(hg:J.get a=some (.cells cs))(hi:ldI E.P t=some (sz,agg))(hx:Ah E ρ x=some (.pr a off))(hy:Ah E ρ y=some v)(hc:v.cellsN sz=some c)(hs:Et cs off c=some cs'):As E Rr (.store t x y) ρ J An (J.set a (.cells cs')):=
 By hi hx hy hc (by simp only[Sto.cells,hg]) hs
def adr:AV->Option Nat
 |.sr a _ _ _ _=>some a
 |_=>none
theorem Own.adr_lt(h:Own J N enc sz l v){a}(ha:adr v=some a):N<=a/\a<nx J:=by
 rcases h with⟨_,rfl|rfl⟩|⟨b,tl,h1,h2,rfl,_⟩
 ·cases ha
 ·cases ha
 ·simp only[adr,af_]at ha;subst ha;exact⟨h1,h2⟩
theorem Own.of_get(h:Own J N enc sz l v)(hn:nx J<=nx J')(hg:∀a,adr v=some a->J'.get a=J.get a):Own J' N enc sz l v:=
 h.mono hn fun a tl hv _ _ _=>hg a (by rw[hv];rfl)
theorem Own.sr(h:Own J N enc sz l v)(hi:i<l.length):∃a tl,N<=a/\a<nx J/\v=.sr a 0 sz l.length none/\J.get a=some (.cells (l.flatMap enc++tl)):=by
 rcases h with⟨rfl,_⟩|h
 ·exact absurd hi (gz_ _)
 ·exact h
theorem Own.app2(he:∀a,(enc a).length=sz)(hN:N<=nx J)(h:Own J N enc sz l v)(b)(bn:(l.length+1)*(by'+1)<=sizeLim):
  ∃J',B6 J sz by' v 1 (enc b)=some (.sr (nx J) 0 sz (l.length+1) none,J')/\nx J'=nx J+1/\Own J' N enc sz (l++[b]) (.sr (nx J) 0 sz (l.length+1) none)/\(∀a,a<nx J->adr v≠some a->J'.get a=J.get a):=by
 obtain⟨J',h1,_,h3,h4,h5⟩:=h.app1 (by':=by') he hN b bn
 exact⟨J',h1,h3,h4,fun a ha hne=>h5 a ha fun c hc hac=>hne (by rw[hc,hac];rfl)⟩
abbrev dn_:=@Own.app2
theorem WFS.kill(hw:WFS J)(a):WFS (J.kill a):=fun b O hb=>by
 rw[bf_]at hb
 split at hb
 ·cases hb
 ·obtain⟨h1,h2,h3⟩:=hw b O hb;rw[B3];refine⟨h1,h2,?_⟩;unfold Agt at h3⊢
  split at h3
  ·intro kt es hg;rw[bf_]at hg;rw[B3]
   split at hg
   ·cases hg
   ·exact h3 kt es hg
  ·trivial
theorem Own.fzA(he:∀a,(enc a).length=sz)(h:Own J N enc sz l v)(hτ:∀a,adr v=some a->U.get a=none)(hu:AV.unds (nx U) (l.flatMap enc)=true):Fz J U v (slV enc sz l):=by
 rcases h with⟨rfl,rfl|rfl⟩|⟨a,tl,h1,_,rfl,h3⟩
 ·exact .nils (fun q hq=>by cases hq)
 ·exact .sv (fun q hq=>by cases hq) .nil
 ·have b9:Dr (l.length*sz) ((l.flatMap enc++tl).drop 0)=some (l.flatMap enc):=by
   have:=D0 (l:=l.flatMap enc) (r:=tl)
   rwa[Dl he]at this
  exact .sr h3 (hτ a rfl) b9 (dj_ hu)
def without(J:Sto)(v:AV):Sto:=match adr v with|some a=>J.kill a|none=>J
theorem L7:nx (without J v)=nx J:=by
 unfold without
 split
 ·exact B3 _ _
 ·rfl
theorem E0{b}:(without J v).get b=if adr v=some b then none else J.get b:=by
 unfold without;cases h:adr v with
 |none=>simp
 |some a=>
  simp only[bf_,af_]
  by_cases hb:b=a
  ·subst hb;simp
  ·rw[if_neg hb,if_neg (fun hh=>hb hh.symm)]
theorem WFS.without(hw:WFS J):WFS (without J v):=by
 unfold AM.without
 split
 ·exact hw.kill _
 ·exact hw
theorem Ds.sub(h:WFS U)(hn:nx U<=nx J)(hg:∀a O,U.get a=some O->J.get a=some O):Ds J U:=by
 refine⟨hn,fun a O ha=>?_⟩
 obtain⟨h1,h2,h3⟩:=h a O ha;refine⟨h1,O,hg a O ha,?_⟩;cases O with
 |cells vs=>exact .cells (dj_ h2)
 |map kt es ver=>exact .map (Oi .same h2)
 |iter m ver left cur=>exact .iter h2 h3
 |stamp m ver k=>exact .stamp h2
 |loop st=>exact .loop
abbrev ft_:=@Ds.sub
theorem Ds.without(hw:WFS J):Ds J (without J v):=ft_ hw.without (by rw[L7];exact nl) fun a O ha=>by
 rw[E0]at ha
 split at ha
 ·cases ha
 ·exact ha
end
section
open Go Go.Proofs
theorem Kr{p:Prop}(h:p:=by kernel_rfl):p:=h
theorem SL{p:Prop}(h:p:=by repeat (first|exact trivial|refine⟨rfl,?_⟩)):p:=h
class Ld (t:Nat)(s:outParam Nat)(g:outParam Bool):Prop where
 h:ldI Ew.P t=some (s,g):=by kernel_rfl
class Fd (t i:Nat)(o s:outParam Nat)(g:outParam Bool):Prop where
 h:fdI Ew.P t i=some (o,s,g):=by kernel_rfl
class Sl (t:Nat):Prop where
 h:Mk Ew.P t=true:=by kernel_rfl
class Ok (t:Nat):Prop where
 h:okI Ew.P t=true:=by kernel_rfl
class El (t:Nat)(s b:outParam Nat)(z:outParam (Option (List AV))):Prop where
 h:elI Ew.P t=some (s,b,z):=by kernel_rfl
class Zi (t:Nat)(z:outParam (List AV)):Prop where
 h:zI Ew.P t=some z:=by kernel_rfl
class Bd (t:Nat)(z:outParam (List AV))(l:outParam (List (Nat×Nat))):Prop where
 h:bdI Ew.P t=some (z,l):=by kernel_rfl
theorem stZ:Fs Ew.P 9=true:=by kernel_rfl
theorem ldC{t s g}[i:Ld t s g]:ldI Ew.P t=some (s,g):=i.h
theorem fdC{t i o s g}[k:Fd t i o s g]:fdI Ew.P t i=some (o,s,g):=k.h
theorem slC{t}[i:Sl t]:Mk Ew.P t=true:=i.h
theorem okC{t}[i:Ok t]:okI Ew.P t=true:=i.h
theorem elC{t s b z}[i:El t s b z]:elI Ew.P t=some (s,b,z):=i.h
theorem ziC{t z}[i:Zi t z]:zI Ew.P t=some z:=i.h
theorem bdC{t z l}[i:Bd t z l]:bdI Ew.P t=some (z,l):=i.h
section
variable {nt B:Nat}{df:List (Nat×List AV)}{Q:Cc}{ρ:Ad}{J:Sto}{K:Ad->Sto->Prop}{Rr:Rec}
def anO(E:Env)(ops:Array Oper)(f:List Ann->Bool):Bool:=match Lo E ops with|some l=>f l|none=>false
theorem Ag5{E ops f}(h:anO E ops f=true):∃l,Lo E ops=some l/\f l=true:=by
 unfold anO at h
 split at h
 ·exact⟨_,by assumption,h⟩
 ·cases h
theorem XI{id ops l}(hk:Aev Ew l)(h:TD Ew nt (Dk l) ops.toList ops.toList (KDI Q J) ρ J [J] [])(ha:anO Ew ops (fun _=>true)=true:=by kernel_rfl):T Ew nt df B (.region id ops true) Q ρ J:=by
 obtain⟨_,h1,_⟩:=Ag5 ha;exact Auk Di (Bw hk) h1 h
theorem X0{id ops}(h:TD Ew nt (fun _ _ _=>none) ops.toList ops.toList (KD0 Q J) ρ J [J] [])(ha:anO Ew ops (fun _=>Amo Ew ops.toList)=true:=by kernel_rfl):T Ew nt df B (.region id ops true) Q ρ J:=by
 obtain⟨_,h1,h2⟩:=Ag5 ha;exact Aui Di h1 h2 h
theorem XS{id ops l}(hk:Aev Ew l)(h:TD Ew nt (Dk l) ops.toList ops.toList (KDS Q) ρ J [J] [])(ha:anO Ew ops (fun a=>Rm Ew a ops.toList 0)=true:=by kernel_rfl):T Ew nt df B (.region id ops true) Q ρ J:=by
 obtain⟨_,h1,h2⟩:=Ag5 ha;exact Auj Di (Bw hk) h1 h2 h
theorem XX(m){id ops l}(hk:Aev Ew l)(h:TD Ew nt (Dk l) ops.toList ops.toList (KDX Q m J) ρ J [J] [])(ha:anO Ew ops (fun a=>Jo Ew m a ops.toList false)=true:=by kernel_rfl):T Ew nt df B (.region id ops true) Q ρ J:=by
 obtain⟨_,h1,h2⟩:=Ag5 ha;exact Amt m Di (Bw hk) h1 h2 h
theorem TAn(n){b}(q){ops r r' o t c x} 
  (hon:b=true->TO Ew nt df B ops (r.take n) (fun ρ' J'=>J'=J/\Hy ρ ρ'/\Ah Ew ρ' x=some (.bool q)) ρ J)
  (k:TO Ew nt df B ops r' K ((t,.bool (b&&q))::ρ) J)
  (hr:r.drop n=o::r':=by exact rfl)(hop:o.op=.pick c x (.const (.bool false)):=by exact rfl)(ct:o.dst=some t:=by exact rfl)(h0:Ah Ew ρ c=some (.bool b):=by exact rfl)(ht:Nat.blt t nt=true:=by exact rfl)(hg:o.guard=none:=by exact rfl)
  (ep:b=false->TO Ew nt df B ops (r.take n) (fun ρ' J'=>J'=J/\Hy ρ ρ') ρ J:=by intro hg;(repeat (first|refine Of hg ?_|refine Ou ?_));exact Dd ⟨rfl,sb⟩):TO Ew nt df B ops r K ρ J:=
 Hq n b q h0 hr hop ct ht (Eh hg) hon ep k
theorem TOr(n){b}(q){ops r r' o t c x} 
  (hon:b=false->TO Ew nt df B ops (r.take n) (fun ρ' J'=>J'=J/\Hy ρ ρ'/\Ah Ew ρ' x=some (.bool q)) ρ J)
  (k:TO Ew nt df B ops r' K ((t,.bool (b||q))::ρ) J)
  (hr:r.drop n=o::r':=by exact rfl)(hop:o.op=.pick c (.const (.bool true)) x:=by exact rfl)(ct:o.dst=some t:=by exact rfl)(h0:Ah Ew ρ c=some (.bool b):=by exact rfl)(ht:Nat.blt t nt=true:=by exact rfl)(hg:o.guard=none:=by exact rfl)
  (ep:b=true->TO Ew nt df B ops (r.take n) (fun ρ' J'=>J'=J/\Hy ρ ρ') ρ J:=by intro hg;(repeat (first|refine Of hg ?_|refine Ou ?_));exact Dd ⟨rfl,sb⟩):TO Ew nt df B ops r K ρ J:=
 Qh n b q h0 hr hop ct ht (Eh hg) hon ep k
theorem Xf{ops r Kd eps log o oj}{j d:Nat}{b want}(k:TD Ew nt Rr ops r Kd (Dt o.dst An ρ) J eps ((ρ,An)::log))(hg:o.guard=some (j,want):=by exact rfl)(hj:ops[j]? =some oj:=by exact rfl)(hdj:oj.dst=some d:=by exact rfl)(hb:Ad.at ρ d=some (.bool b):=by exact rfl)(hw:cond b want (!want)=false:=by first|rfl|simp only[*]<;>rfl|simp[*]<;>fail)
  (he:B5 (Bc Ew o.op)=false:=by exact rfl)(hd:B0 nt o.dst=true:=by exact rfl):TD Ew nt Rr ops (o::r) Kd ρ J eps log:=Dx hg hj hdj hb hw k he hd
theorem Xn{ops r Kd eps log o oj v J₁}{j d:Nat}{b want}(h:As Ew Rr o.op ρ J v J₁)(k:TD Ew nt Rr ops r Kd (Dt o.dst v ρ) J eps ((ρ,v)::log))(hg:o.guard=some (j,want):=by exact rfl)(hj:ops[j]? =some oj:=by exact rfl)(hdj:oj.dst=some d:=by exact rfl)(hb:Ad.at ρ d=some (.bool b):=by exact rfl)(hw:cond b want (!want)=true:=by first|rfl|simp only[*]<;>rfl|simp[*]<;>fail)
  (he:B5 (Bc Ew o.op)=false:=by exact rfl)(hd:B0 nt o.dst=true:=by exact rfl):TD Ew nt Rr ops (o::r) Kd ρ J eps log:=Dn hg hj hdj hb hw h k he hd
end
theorem k_lss{Rr ρ J}{t ty:Nat}{x k p q}(hi:okI Ew.P t=true)(hx:Ah Ew ρ x=some (.int k p)):As Ew Rr (.binOp .lss t x (.const (.int k q)) ty) ρ J (.bool (decide (p<q))) J:=Qe hi hx (by cases q<;>simp[Ah,ofV,Yh,Ak,hdV])
theorem k_leq{Rr ρ J}{t ty:Nat}{x k p q}(hi:okI Ew.P t=true)(hx:Ah Ew ρ x=some (.int k p)):As Ew Rr (.binOp .leq t x (.const (.int k q)) ty) ρ J (.bool (decide (p<=q))) J:=Hn hi hx (by cases q<;>simp[Ah,ofV,Yh,Ak,hdV])
theorem k_gtr{Rr ρ J}{t ty:Nat}{x k p q}(hi:okI Ew.P t=true)(hx:Ah Ew ρ x=some (.int k p)):As Ew Rr (.binOp .gtr t x (.const (.int k q)) ty) ρ J (.bool (decide (q<p))) J:=Wv hi hx (by cases q<;>simp[Ah,ofV,Yh,Ak,hdV])
theorem k_geq{Rr ρ J}{t ty:Nat}{x k p q}(hi:okI Ew.P t=true)(hx:Ah Ew ρ x=some (.int k p)):As Ew Rr (.binOp .geq t x (.const (.int k q)) ty) ρ J (.bool (decide (q<=p))) J:=Agq hi hx (by cases q<;>simp[Ah,ofV,Yh,Ak,hdV])
theorem k_eqi{Rr ρ J}{t ty:Nat}{x k p q}(hi:okI Ew.P t=true)(hx:Ah Ew ρ x=some (.int k p)):As Ew Rr (.binOp .eql t x (.const (.int k q)) ty) ρ J (.bool (decide (p=q))) J:=H4 hi hx (by cases q<;>simp[Ah,ofV,Yh,Ak,hdV])
theorem k_nei{Rr ρ J}{t ty:Nat}{x k p q}(hi:okI Ew.P t=true)(hx:Ah Ew ρ x=some (.int k p)):As Ew Rr (.binOp .neq t x (.const (.int k q)) ty) ρ J (.bool (!decide (p=q))) J:=Aqz hi hx (by cases q<;>simp[Ah,ofV,Yh,Ak,hdV])
theorem Ez{nt B df ρ ρ' J ops x q}(h1:Hy ρ ρ':=by repeat (first|exact .refl|refine .cons rfl ?_))(h2:Ah Ew ρ' x=some (.bool q):=by exact rfl):TO Ew nt df B ops [] (fun ρ'' J''=>J''=J/\Hy ρ ρ''/\Ah Ew ρ'' x=some (.bool q)) ρ' J:=Dd ⟨rfl,h1,h2⟩
theorem Cb{a b}(h:a=b:=by first|rfl|simp only[*]<;>rfl|simp[*]<;>fail):some (AV.bool a)=some (AV.bool b):=congrArg (fun b=>some (AV.bool b)) h
theorem Oq{Rr op ρ J v J₁}(h:As Ew Rr op ρ J v J₁:=by first|exact Ag rfl|exact Gd rfl|exact Ac ldC rfl rfl rfl|exact Ac ldC rfl rfl (Wz (Dh _))|exact Ae fdC rfl rfl|exact Jl slC rfl|exact S7 rfl rfl|exact A1 elC (fun _=>rfl) rfl rfl (by assumption)|exact D3 (q:=1) okC rfl rfl Om|exact Dc rfl|exact k_lss okC rfl|exact Qe okC rfl rfl|exact k_nei okC rfl|exact Aqz okC rfl rfl|exact k_gtr okC rfl|exact Wv okC rfl rfl|exact k_eqi okC rfl|exact H4 okC rfl rfl|exact k_geq okC rfl|exact Agq okC rfl rfl|exact Ut bdC rfl rfl|exact Amh rfl rfl|exact Bq rfl rfl Bv|exact Eq rfl|exact Ge rfl|exact Aug stZ rfl|exact H5 (q:=[]) okC rfl rfl|exact H5 okC rfl rfl|exact A3 rfl (by first|rfl|simp only[*]<;>rfl|simp[*]<;>fail) rfl|exact Au rfl (by first|rfl|simp only[*]<;>rfl|simp[*]<;>fail) rfl|fail):As Ew Rr op ρ J v J₁:=h
section
variable {Ls:List RF}{nt b B:Nat}{df:List (Nat×List AV)}{Q:Cc}{ρ:Ad}{J:Sto}{K:Ad->Sto->Prop}{Rr:Rec}
theorem TXr{id ops}(h:∀{df:List (Nat×List AV)},TO Ew nt df B ops.toList ops.toList (fun ρ J=>Q .normal ρ J) ρ J):TX Ew Ls nt b B (.region id ops false) Q ρ J:=Dy (fun df=>B7 h) rfl
theorem TOp(m){ops r}(h:∀{df:List (Nat×List AV)},TO Ew nt df B ops (r.take m) (fun ρ' J'=>TOX Ew Ls nt b B ops (r.drop m) K ρ' J') ρ J):TOX Ew Ls nt b B ops r K ρ J:=Gm m fun df=>h
theorem Ca{ops r f args}{tys:Array Nat}{dst}{ty:Nat}{pos after k first cap vs full v J'}(hc:Al Ew k full J fun u U=>u=v/\U=J')
  (kk:TO Ew nt df B ops r K (Dt dst v ρ) J')(hd:B0 nt dst=true:=by exact rfl)(hf:Ah Ew ρ f=some (.fn (.func k) first cap):=by exact rfl)(ha:Kc Ew ρ args.toList=some vs:=by exact rfl)(hl:first++vs++cap=full:=by exact rfl):TO Ew nt df B ops ({ dst:=dst,op:=.call ⟨.value f,args,tys⟩,type:=ty,pos:=pos,after:=after,guard:=none }::r) K ρ J:=
 Nm hd hf ha hl hc kk
theorem lO{t a off sz agg cs v x}[i:Ld t sz agg](hg:J.get a=some (.cells cs))(hx:Ah Ew ρ x=some (.pr a off):=by exact rfl)(hv:Cz sz agg (cs.drop off)=some v:=by exact rfl):As Ew Rr (.load t x) ρ J v J:=E8 hg i.h hx hv
theorem sO{t a off sz agg cs cs' c v x y}[i:Ld t sz agg](hg:J.get a=some (.cells cs))(hx:Ah Ew ρ x=some (.pr a off):=by exact rfl)(hy:Ah Ew ρ y=some v:=by exact rfl)(hc:v.cellsN sz=some c:=by exact rfl)(hs:Et cs off c=some cs':=by exact rfl):As Ew Rr (.store t x y) ρ J An (J.set a (.cells cs')):=G1 hg i.h hx hy hc hs
end
theorem G{P Q:Prop}(k:P)(h:P->Q:=by first|exact Aew|exact Dd|exact B7|exact fun k=>O1 Oq k|exact Agu|exact Amk|exact Agv|exact fun k=>Jv ldC rfl rfl rfl k|exact fun k=>Jv ldC rfl (A7 (Dh _)) rfl k|exact fun k=>Ho ziC ldC rfl (fun _=>rfl) rfl rfl rfl rfl k|exact Amj|exact Cf|exact TXr|exact Jw|exact Qn|exact Ux|exact Th|exact Er|exact Uy|exact fun k=>Mp ziC ldC rfl (fun _=>rfl) rfl rfl rfl k|exact fun k=>DF Oq k|exact fun k=>DT Oq k|exact C1|exact fun k=>Xf k|exact fun k=>Xn Oq k|exact fun k=>Du k|fail):Q:=h k
theorem Gn{b b':Bool}(hg:b=b'){P Q:Prop}(k:P)(h:P->Q:=by first|exact fun k=>On hg Oq k|exact fun k=>Of hg k|exact fun k=>Ou k|exact Dd|fail):Q:=h k
theorem Gs{P Q:Prop}(h:P->Q:=by first|exact Aew|exact Dd|exact B7|exact fun k=>O1 Oq k|exact Agu|exact Amk|exact Agv|exact fun k=>Jv ldC rfl rfl rfl k|exact fun k=>Jv ldC rfl (A7 (Dh _)) rfl k|exact fun k=>Ho ziC ldC rfl (fun _=>rfl) rfl rfl rfl rfl k|exact Amj|exact Cf|exact TXr|exact Jw|exact Qn|exact Ux|exact Th|exact Er|exact Uy|exact fun k=>Mp ziC ldC rfl (fun _=>rfl) rfl rfl rfl k|exact fun k=>DF Oq k|exact fun k=>DT Oq k|exact C1|exact fun k=>Xf k|exact fun k=>Xn Oq k|exact fun k=>Du k|fail):P->Q:=h
theorem G2{P Q R1:Prop}(k:P)(h1:R1->Q:=by exact Gs)(h2:P->R1:=by exact Gs):Q:=h1 (h2 k)
theorem G3{P Q R1 R2:Prop}(k:P)(h1:R1->Q:=by exact Gs)(h2:R2->R1:=by exact Gs)(h3:P->R2:=by exact Gs):Q:=h1 (h2 (h3 k))
theorem G4{P Q R1 R2 R3:Prop}(k:P)(h1:R1->Q:=by exact Gs)(h2:R2->R1:=by exact Gs)(h3:R3->R2:=by exact Gs)(h4:P->R3:=by exact Gs):Q:=h1 (h2 (h3 (h4 k)))
theorem G5{P Q R1 R2 R3 R4:Prop}(k:P)(h1:R1->Q:=by exact Gs)(h2:R2->R1:=by exact Gs)(h3:R3->R2:=by exact Gs)(h4:R4->R3:=by exact Gs)(h5:P->R4:=by exact Gs):Q:=h1 (h2 (h3 (h4 (h5 k))))
theorem G6{P Q R1 R2 R3 R4 R5:Prop}(k:P)(h1:R1->Q:=by exact Gs)(h2:R2->R1:=by exact Gs)(h3:R3->R2:=by exact Gs)(h4:R4->R3:=by exact Gs)(h5:R5->R4:=by exact Gs)(h6:P->R5:=by exact Gs):Q:=h1 (h2 (h3 (h4 (h5 (h6 k)))))
theorem G7{P Q R1 R2 R3 R4 R5 R6:Prop}(k:P)(h1:R1->Q:=by exact Gs)(h2:R2->R1:=by exact Gs)(h3:R3->R2:=by exact Gs)(h4:R4->R3:=by exact Gs)(h5:R5->R4:=by exact Gs)(h6:R6->R5:=by exact Gs)(h7:P->R6:=by exact Gs):Q:=h1 (h2 (h3 (h4 (h5 (h6 (h7 k))))))
theorem G8{P Q R1 R2 R3 R4 R5 R6 R7:Prop}(k:P)(h1:R1->Q:=by exact Gs)(h2:R2->R1:=by exact Gs)(h3:R3->R2:=by exact Gs)(h4:R4->R3:=by exact Gs)(h5:R5->R4:=by exact Gs)(h6:R6->R5:=by exact Gs)(h7:R7->R6:=by exact Gs)(h8:P->R7:=by exact Gs):Q:=h1 (h2 (h3 (h4 (h5 (h6 (h7 (h8 k)))))))
theorem G9{P Q R1 R2 R3 R4 R5 R6 R7 R8:Prop}(k:P)(h1:R1->Q:=by exact Gs)(h2:R2->R1:=by exact Gs)(h3:R3->R2:=by exact Gs)(h4:R4->R3:=by exact Gs)(h5:R5->R4:=by exact Gs)(h6:R6->R5:=by exact Gs)(h7:R7->R6:=by exact Gs)(h8:R8->R7:=by exact Gs)(h9:P->R8:=by exact Gs):Q:=h1 (h2 (h3 (h4 (h5 (h6 (h7 (h8 (h9 k))))))))
theorem G10{P Q R1 R2 R3 R4 R5 R6 R7 R8 R9:Prop}(k:P)(h1:R1->Q:=by exact Gs)(h2:R2->R1:=by exact Gs)(h3:R3->R2:=by exact Gs)(h4:R4->R3:=by exact Gs)(h5:R5->R4:=by exact Gs)(h6:R6->R5:=by exact Gs)(h7:R7->R6:=by exact Gs)(h8:R8->R7:=by exact Gs)(h9:R9->R8:=by exact Gs)(h10:P->R9:=by exact Gs):Q:=h1 (h2 (h3 (h4 (h5 (h6 (h7 (h8 (h9 (h10 k)))))))))
theorem G11{P Q R1 R2 R3 R4 R5 R6 R7 R8 R9 R10:Prop}(k:P)(h1:R1->Q:=by exact Gs)(h2:R2->R1:=by exact Gs)(h3:R3->R2:=by exact Gs)(h4:R4->R3:=by exact Gs)(h5:R5->R4:=by exact Gs)(h6:R6->R5:=by exact Gs)(h7:R7->R6:=by exact Gs)(h8:R8->R7:=by exact Gs)(h9:R9->R8:=by exact Gs)(h10:R10->R9:=by exact Gs)(h11:P->R10:=by exact Gs):Q:=h1 (h2 (h3 (h4 (h5 (h6 (h7 (h8 (h9 (h10 (h11 k))))))))))
theorem G12{P Q R1 R2 R3 R4 R5 R6 R7 R8 R9 R10 R11:Prop}(k:P)(h1:R1->Q:=by exact Gs)(h2:R2->R1:=by exact Gs)(h3:R3->R2:=by exact Gs)(h4:R4->R3:=by exact Gs)(h5:R5->R4:=by exact Gs)(h6:R6->R5:=by exact Gs)(h7:R7->R6:=by exact Gs)(h8:R8->R7:=by exact Gs)(h9:R9->R8:=by exact Gs)(h10:R10->R9:=by exact Gs)(h11:R11->R10:=by exact Gs)(h12:P->R11:=by exact Gs):Q:=h1 (h2 (h3 (h4 (h5 (h6 (h7 (h8 (h9 (h10 (h11 (h12 k)))))))))))
theorem R1{a1 p:Prop}(h1:a1)(r:a1->p:=by intro h1;first|rfl|simp only[h1]<;>rfl|simp[h1]):p:=r h1
theorem R2{a1 a2 p:Prop}(h1:a1)(h2:a2)(r:a1->a2->p:=by intro h1 h2;first|rfl|simp only[h1,h2]<;>rfl|simp[h1,h2]):p:=r h1 h2
theorem R3{a1 a2 a3 p:Prop}(h1:a1)(h2:a2)(h3:a3)(r:a1->a2->a3->p:=by intro h1 h2 h3;first|rfl|simp only[h1,h2,h3]<;>rfl|simp[h1,h2,h3]):p:=r h1 h2 h3
theorem R4{a1 a2 a3 a4 p:Prop}(h1:a1)(h2:a2)(h3:a3)(h4:a4)(r:a1->a2->a3->a4->p:=by intro h1 h2 h3 h4;first|rfl|simp only[h1,h2,h3,h4]<;>rfl|simp[h1,h2,h3,h4]):p:=r h1 h2 h3 h4
abbrev nS:AV:=.nil (.slice none 0 0)
abbrev z5:List AV:=[.str [],nS,nS,.str [],nS]
section
variable {nt:Nat}{ρ:Ad}{J:Sto}{Rr:Rec}{ops r:List Oper}{Kd:KD}{eps:List Sto}{log:List (Ad×AV)}{o oj:Oper}{j d:Nat}{b want:Bool}
theorem Wx(k:TD Ew nt Rr ops r Kd (Dt o.dst An ρ) J eps ((ρ,An)::log))(hg:o.guard=some (j,want):=by exact rfl)(hj:ops[j]? =some oj:=by exact rfl)(hdj:oj.dst=some d:=by exact rfl)(hb:Ad.at ρ d=some (.bool b):=by exact rfl)(he:B5 (Bc Ew o.op)=false:=by exact rfl)(hd:B0 nt o.dst=true:=by exact rfl)(w:cond b want (!want)=false):TD Ew nt Rr ops (o::r) Kd ρ J eps log:=Dx hg hj hdj hb w k he hd
theorem Wn{v J₁}(h:As Ew Rr o.op ρ J v J₁)(k:TD Ew nt Rr ops r Kd (Dt o.dst v ρ) J eps ((ρ,v)::log))(hg:o.guard=some (j,want):=by exact rfl)(hj:ops[j]? =some oj:=by exact rfl)(hdj:oj.dst=some d:=by exact rfl)(hb:Ad.at ρ d=some (.bool b):=by exact rfl)(he:B5 (Bc Ew o.op)=false:=by exact rfl)(hd:B0 nt o.dst=true:=by exact rfl)(w:cond b want (!want)=true):TD Ew nt Rr ops (o::r) Kd ρ J eps log:=Dn hg hj hdj hb w h k he hd
end
abbrev Cv(f:Nat)(a:List AV)(J:Sto)(x:AV):Prop:=Al Ew f a J fun v U=>v=x/\U=J
end
structure Pr where
 a:Str
 b:Str
 deriving DecidableEq
structure Hp where
 label:Str
 floating:Bool
 text:List Str
structure Fr where
 label:Str
 thm:Bool
 hyps:List Hp
 apart:List Pr
 text:List Str
 dummies:List Hp
 wide:List Pr
 proof:List Str
structure Db where
 consts:List Str
 vars:List Str
 frames:List Fr
inductive Ax where
 |node (label:Str)(kids:List Ax)
structure Sb where
 label:Str
 tree:Ax
structure Pt where
 symbol:Str
 sort:Str
 arg:Int
structure Rl where
 label:Str
 sort:Str
 parts:List Pt
 var:Bool
structure Gr where
 sorts:List Str
 rules:List Rl
abbrev Af(l:List Str):AV:=slV (fun s=>[sV s]) 1 l
def eP(p:Pr):List AV:=[sV p.a,sV p.b]
def eH(h:Hp):List AV:=[sV h.label,.bool h.floating,Af h.text]
def eF(f:Fr):List AV:=[sV f.label,.bool f.thm,slV eH 3 f.hyps,slV eP 2 f.apart,Af f.text,slV eH 3 f.dummies,slV eP 2 f.wide,Af f.proof]
def dbV(d:Db):AV:=.agg [Af d.consts,Af d.vars,slV eF 8 d.frames]
mutual
def eT:Ax->List AV
 |.node l ks=>[sV l,.sv (eTs ks) 2 ks.length none]
def eTs:List Ax->List AV
 |[]=>[]
 |t::r=>eT t++eTs r
end
theorem No:∀l:List Ax,eTs l=l.flatMap eT
 |[]=>by simp[eTs]
 |t::r=>by simp[eTs,No r]
theorem Cl(l ks):eT (.node l ks)=[sV l,slV eT 2 ks]:=by simp[eT,slV,No]
theorem Dh(t):(eT t).length=2:=by cases t;simp[eT]
def En(t:Ax):AV:=.agg (eT t)
def eS(s:Sb):List AV:=sV s.label::eT s.tree
def ePt(p:Pt):List AV:=[sV p.symbol,sV p.sort,iV p.arg]
def eR(r:Rl):List AV:=[sV r.label,sV r.sort,slV ePt 3 r.parts,.bool r.var]
def grV(g:Gr):AV:=.agg [Af g.sorts,slV eR 4 g.rules]
mutual
theorem Ax.ind' {P:Ax->Prop} (h:∀l ks,(∀t∈ks,P t)->P (.node l ks)):∀t,P t
 |.node l ks=>h l ks (Ax.indL' h ks)
theorem Ax.indL' {P:Ax->Prop} (h:∀l ks,(∀t∈ks,P t)->P (.node l ks)):∀(ks:List Ax),∀t∈ks,P t
 |[],t,ht=>by simp at ht
 |k::r,t,ht=>by
  have h1:=Ax.ind' h k;have h2:=Ax.indL' h r
  grind
end
theorem Uz{N}:∀{l m:List AV},AV.unds N l=true->AV.unds N m=true->AV.unds N (l++m)=true
 |[],m,_,h=>h
 |x::l,m,h,k=>by simp only[ay_,AV.unds,ad_]at h⊢;exact⟨h.1,Uz h.2 k⟩
mutual
theorem Es {N:Nat}:∀t:Ax,AV.unds N (eT t)=true
 |.node l ks=>by simp only[eT,AV.unds,AV.und,sV,Jq ks,be_]
theorem Jq {N:Nat}:∀l:List Ax,AV.unds N (eTs l)=true
 |[]=>rfl
 |t::r=>by simp only[eTs];exact Uz (Es t) (Jq r)
end
def Aix(o:Oper)(l:List Bool):Bool:=o.after.all fun e=> !Region.binds .any e||(l[e.on]?).getD false
def Abz:List Oper->List Bool->List (List Bool)
 |[],l=>[l]
 |o::r,l=>Abz r (l++[false])++cond (Aix o l) (Abz r (l++[true])) []
def Arm(ops:List Oper):Bool:=(List.range ops.length).all fun i=>match ops[i]? with
 |some o=>o.after.all fun e=> !Region.binds .any e||Nat.blt e.on i
 |none=>true
theorem Ae4:∀(r:List Oper) (pre suf:List Bool),suf.length=r.length->(∀(j:Nat) (o:Oper),r[j]? =some o->suf[j]? =some true->Aix o (pre++suf)=true)->
  (∀(j:Nat) (o:Oper),r[j]? =some o->(o.after.all fun e=> !Region.binds .any e||Nat.blt e.on (pre.length+j))=true)->pre++suf∈Abz r pre
 |[],pre,suf,hl,_,_=>by
  have:suf=[]:=ey_.1 hl;subst this
  simp[Abz]
 |o::r,pre,[],hl,_,_=>by simp at hl
 |o::r,pre,b::suf,hl,hc,hb=>by
  have ih:=Ae4 r (pre++[b]) suf gr (fun j o' h1 h2=>by
   have:=hc (j+1) o' gr gr
   grind) (fun j o' h1=>by
   have:=hb (j+1) o' gr
   grind)
  have e:pre++b::suf=pre++[b]++suf:=by simp
  rw[e];unfold Abz;cases b with
  |false=>exact dg_ _ ih
  |true=>
   have h1:=hc 0 o rfl rfl;have h2:=hb 0 o rfl
   have hok:Aix o pre=true:=by
    unfold Aix at h1⊢;rw[Array.all_eq_true]at h1 h2⊢;intro i hi;have q1:=h1 i hi;have q2:=h2 i hi;rw[bk_]at q1 q2⊢
    rcases q1 with q1|q1
    ·exact .inl q1
    ·rcases q2 with q2|q2
     ·exact .inl q2
     ·right
      have hlt:o.after[i].on<pre.length:=by
       have:=Nat.blt_eq▸q2
       grind
      grind
   rw[hok];exact fg_ _ ih
def Aiy(ops1 ops2:List Oper):Bool:=
 ((ops1++ops2).all fun o=>o.guard.isNone)&&Aiu ops1 (Dq ops1)&&Arm ops1&&((Abz ops1 []).all fun l=>Alb ops1 ops2 l)
  &&((List.range (ops2.length+1)).all fun j=>decide (Region.ready .any (ops1++ops2).toArray (Jp ops1++X8 ops2 j).toArray=if j<ops2.length then[ops1.length+j]else[]))
theorem Ab0:∀(n:Nat) (l:List Bool),l∈Qm n->l.length=n
 |0,l,h=>by simp[Qm]at h;rw[h];rfl
 |n+1,l,h=>by
  simp only[Qm,List.mem_flatMap]at h;obtain⟨m,hm,h⟩:=h;have:=Ab0 n m hm
  grind
theorem Ab1{ops1 ops2}(h:Aiy ops1 ops2=true):K6 ops1 ops2=true:=by
 unfold Aiy at h;simp only[ad_]at h;obtain⟨⟨⟨⟨h1,h2⟩,h3⟩,h4⟩,h5⟩:=h;unfold K6;rw[ad_,ad_,ad_];refine⟨⟨⟨h1,h2⟩,?_⟩,h5⟩;rw[b_];intro l hl;cases hc:Aiu ops1 l with
 |false=>rfl
 |true=>
  have bl:=Ab0 _ _ hl
  have hm:l∈Abz ops1 []:=by
   have:=Ae4 ops1 [] l bl (fun j o ho hs=>?_) (fun j o ho=>?_)
   ·grind
   ·unfold Aiu at hc;rw[b_]at hc;have hj:=(ae_.1 ho).1;have:=hc j (cw_.2 hj);rw[hs,ho]at this
    simpa[Aix]using this
   ·unfold Arm at h3
    grind
  rw[b_]at h4;rw[h4 l hm];rfl
theorem A3u{E:Env}{Ls:List RF}{nt b B:Nat}{Q:Cc}{ρ:Ad}{J:Sto}{c:Code}(h:TX E Ls nt b B c Q ρ J):TX E Ls nt b B (.scope c) Q ρ J:=by
 intro ro n hr Bs C w tm a df h0 hl hm ht st hB;refine Sc (wpIn_mono (h ro n hr Bs C w tm a df h0 hl hm ht st hB) fun e a' w' he=>?_)
 obtain⟨x',tm',ρ',J',C',df',h1,h2,h3,h4,hm',hB',h5⟩:=he;subst h1;cases x'<;>exact⟨_,tm',ρ',J',C',df',rfl,h2,h3,h4,hm',hB',h5⟩
end Go.AM
namespace Go.Proofs
open Go.Shelf
def Tryz.lays189_ren:Go.Shelf.Ren:=⟨fun|189=>186|125=>231|257=>230|128=>262|129=>263|294=>253|295=>254|296=>255|297=>256|298=>257|299=>258|216=>259|300=>260|301=>261|328=>279|329=>280|330=>281|331=>282|332=>283|215=>284|343=>293|n=>n,fun|28=>31|3=>3|46=>385|0=>0|51=>425|53=>427|4=>4|183=>419|182=>418|131=>305|5=>5|9=>9|218=>445|222=>449|228=>464|229=>388|n=>n,fun|n=>n⟩
theorem Tryz.lays189:Go.Proofs.Lays.n189 Tryz.prog Tryz.lays189_ren:=by repeat' first|kernel_rfl|(intro w;kernel_rfl)|constructor
open Go.Sort Go.RowKit in
theorem Tryz.slices_Sort_int (blk off cap:Nat) (zs:List Int) (w:World) (hH:Holds (Value.int .i64) w blk off zs.toArray) (pt:blk<w.heap.size) (hsz:zs.length<4611686018427387904):
  Calls Tryz.prog 186 #[.slice (some ⟨blk,off,none⟩) zs.length cap] w fun e w'=>
   e=.returned (.tuple #[])/\∃n os,w'=grow (putRow (Value.int .i64) (Sort.ahead w n) blk off (zs.mergeSort fun x y=>decide (x<=y)).toArray) os:=Any.slices_Sort_int Tryz.lays189 blk off cap zs w hH pt hsz
open Go.RowKit Go.Sort in
theorem Tryz.slices_Sort_int_none (p:Option Addr) (cap:Nat) (w:World):
  Calls Tryz.prog 186 #[.slice p 0 cap] w fun e w'=>e=.returned (.tuple #[])/\w'=w:=Any.slices_Sort_int_none Tryz.lays189 p cap w
end Go.Proofs
namespace Go.Proofs
open Go.Shelf
def Tryz.lays119_ren:Go.Shelf.Ren:=⟨fun|119=>302|n=>n,fun|21=>21|4=>4|n=>n,fun|n=>n⟩
theorem Tryz.lays119:Go.Proofs.Lays.n119 Tryz.prog Tryz.lays119_ren:=by repeat' first|kernel_rfl|(intro w;kernel_rfl)|constructor
theorem Tryz.utf8_ValidRune(r w):
  Calls Tryz.prog 302 #[.int .i32 r] w fun e w'=>e=.returned (.bool (Lib.validRune r))/\w'=w:=Any.utf8_ValidRune Tryz.lays119 r w
def Tryz.lays106_ren:Go.Shelf.Ren:=⟨fun|106=>271|213=>287|265=>294|n=>n,fun|9=>9|3=>3|n=>n,fun|n=>n⟩
theorem Tryz.lays106:Go.Proofs.Lays.n106 Tryz.prog Tryz.lays106_ren:=by repeat' first|kernel_rfl|(intro w;kernel_rfl)|constructor
open Go.RowKit in
theorem Tryz.strings_Compare (a b:ByteArray) (w:World):
  Calls Tryz.prog 271 #[.string a,.string b] w fun e w'=>e=.returned (.int .i64 (Lib.compareBytes a.data.toList b.data.toList))/\w'=w:=Any.strings_Compare Tryz.lays106 a b w
def Tryz.laysGw17_ren:Go.Shelf.Ren:=⟨fun|17=>295|15=>298|20=>300|n=>n,fun|9=>9|23=>468|4=>4|3=>3|0=>0|21=>21|n=>n,fun|n=>n⟩
theorem Tryz.laysGw17:Go.Proofs.LaysGw.n17 Tryz.prog Tryz.laysGw17_ren:=by repeat' first|kernel_rfl|(intro w;kernel_rfl)|constructor
open Go.RowKit Go.Lib in
def Tryz.lays151_ren:Go.Shelf.Ren:=⟨fun|151=>297|152=>299|137=>301|119=>302|224=>303|225=>304|217=>305|266=>306|n=>n,fun|9=>9|21=>21|4=>4|3=>3|5=>5|0=>0|46=>385|n=>n,fun|n=>n⟩
theorem Tryz.lays151:Go.Proofs.Lays.n151 Tryz.prog Tryz.lays151_ren:=by repeat' first|kernel_rfl|(intro w;kernel_rfl)|constructor
open Go.RowKit Go.Lib in
theorem Tryz.strings_ContainsRune_ascii (s:ByteArray) (r:Int) (w:World) (h0:0<=r) (h1:r<128):
  Calls Tryz.prog 297 #[.string s,.int .i32 r] w fun e w'=>e=.returned (.bool (decide (0<=Lib.indexByte s.data.toList r.toNat.toUInt8)))/\w'=w:=Any.strings_ContainsRune_ascii Tryz.lays151 s r w h0 h1
end Go.Proofs
namespace Go.AM
open Go Go.Proofs
instance:Ld 3 1 false:={}
instance:Ok 3:={}
instance:Zi 3 [.int .i64 (0)]:={}
instance:Ld 4 1 false:={}
instance:Zi 4 [.bool false]:={}
instance:Ld 5 1 false:={}
instance:Ok 5:={}
instance:Ld 9 1 false:={}
instance:Ok 9:={}
instance:Ld 22 1 false:={}
instance:Sl 22:={}
instance:El 22 1 16 (some [.str []]):={}
instance:Ld 23 1 false:={}
instance:Sl 23:={}
instance:El 23 8 168 (some [.str [],.bool false,nS,nS,nS,nS,nS,nS]):={}
instance:Ld 25 3 true:={}
instance:Zi 25 [nS,nS,nS]:={}
instance:Fd 25 0 0 1 false:={}
instance:Fd 25 1 1 1 false:={}
instance:Fd 25 2 2 1 false:={}
instance:Bd 25 [nS,nS,nS] [(0,1),(1,1),(2,1)]:={}
instance:Ld 31 1 false:={}
instance:Zi 31 [nS]:={}
instance:Sl 31:={}
instance:El 31 1 8 (some [.int .i64 (0)]):={}
instance:Ld 32 1 false:={}
instance:Ok 32:={}
instance:Ld 37 1 false:={}
instance:Zi 37 [nS]:={}
instance:Sl 37:={}
instance:El 37 2 40 (some [.str [],nS]):={}
instance:Ld 39 2 true:={}
instance:Zi 39 [.str [],nS]:={}
instance:Fd 39 0 0 1 false:={}
instance:Fd 39 1 1 1 false:={}
instance:Bd 39 [.str [],nS] [(0,1),(1,1)]:={}
instance:Ld 47 1 false:={}
instance:Sl 47:={}
instance:El 47 3 48 (some [.str [],.bool false,nS]):={}
instance:Ld 48 1 false:={}
instance:Sl 48:={}
instance:El 48 2 32 (some [.str [],.str []]):={}
instance:Ld 50 8 true:={}
instance:Zi 50 [.str [],.bool false,nS,nS,nS,nS,nS,nS]:={}
instance:Fd 50 0 0 1 false:={}
instance:Fd 50 1 1 1 false:={}
instance:Fd 50 2 2 1 false:={}
instance:Fd 50 3 3 1 false:={}
instance:Fd 50 4 4 1 false:={}
instance:Fd 50 5 5 1 false:={}
instance:Fd 50 6 6 1 false:={}
instance:Fd 50 7 7 1 false:={}
instance:Bd 50 [.str [],.bool false,nS,nS,nS,nS,nS,nS] [(0,1),(1,1),(2,1),(3,1),(4,1),(5,1),(6,1),(7,1)]:={}
instance:Ld 54 1 false:={}
instance:Ld 74 3 true:={}
instance:Zi 74 [.str [],.bool false,nS]:={}
instance:Fd 74 0 0 1 false:={}
instance:Fd 74 1 1 1 false:={}
instance:Fd 74 2 2 1 false:={}
instance:Bd 74 [.str [],.bool false,nS] [(0,1),(1,1),(2,1)]:={}
instance:Ld 107 1 false:={}
instance:Sl 122:={}
instance:El 122 1 24 (some [nS]):={}
instance:Ld 123 1 false:={}
instance:Ld 139 1 false:={}
instance:Sl 139:={}
instance:El 139 4 64 (some [.str [],.str [],nS,.bool false]):={}
instance:Ld 141 2 true:={}
instance:Zi 141 [nS,nS]:={}
instance:Fd 141 0 0 1 false:={}
instance:Fd 141 1 1 1 false:={}
instance:Bd 141 [nS,nS] [(0,1),(1,1)]:={}
instance:Ld 145 1 false:={}
instance:Sl 145:={}
instance:El 145 4 56 (some [.str [],.int .i64 (0),.int .i64 (0),nS]):={}
instance:Ld 147 1 true:={}
instance:Zi 147 [nS]:={}
instance:Fd 147 0 0 1 false:={}
instance:Bd 147 [nS] [(0,1)]:={}
instance:Ld 160 1 false:={}
instance:Ld 200 1 false:={}
instance:Zi 200 [nS]:={}
instance:Sl 200:={}
instance:El 200 3 40 (some [.str [],.str [],.int .i64 (0)]):={}
instance:Ld 202 4 true:={}
instance:Zi 202 [.str [],.str [],nS,.bool false]:={}
instance:Fd 202 0 0 1 false:={}
instance:Fd 202 1 1 1 false:={}
instance:Fd 202 2 2 1 false:={}
instance:Fd 202 3 3 1 false:={}
instance:Bd 202 [.str [],.str [],nS,.bool false] [(0,1),(1,1),(2,1),(3,1)]:={}
instance:Ld 221 1 false:={}
instance:Ld 223 3 true:={}
instance:Zi 223 [.str [],.str [],.int .i64 (0)]:={}
instance:Fd 223 0 0 1 false:={}
instance:Fd 223 1 1 1 false:={}
instance:Fd 223 2 2 1 false:={}
instance:Bd 223 [.str [],.str [],.int .i64 (0)] [(0,1),(1,1),(2,1)]:={}
instance:Ld 228 1 false:={}
instance:Ld 232 3 true:={}
instance:Zi 232 [.str [],.int .i64 (0),.int .i64 (0)]:={}
instance:Fd 232 0 0 1 false:={}
instance:Fd 232 1 1 1 false:={}
instance:Fd 232 2 2 1 false:={}
instance:Bd 232 [.str [],.int .i64 (0),.int .i64 (0)] [(0,1),(1,1),(2,1)]:={}
instance:Ld 233 1 false:={}
instance:Sl 233:={}
instance:El 233 1 24 (some [nS]):={}
instance:Ld 234 1 false:={}
instance:Sl 234:={}
instance:El 234 1 8 (some [.nil (.map none)]):={}
instance:Ld 235 1 false:={}
instance:Ld 237 7 true:={}
instance:Fd 237 0 0 2 true:={}
instance:Fd 237 1 2 1 false:={}
instance:Fd 237 2 3 1 false:={}
instance:Fd 237 3 4 1 false:={}
instance:Fd 237 4 5 1 false:={}
instance:Fd 237 5 6 1 false:={}
instance:Bd 237 [nS,nS,.nil (.map none),nS,nS,nS,.nil (.map none)] [(0,2),(2,1),(3,1),(4,1),(5,1),(6,1)]:={}
instance:Ld 239 1 false:={}
instance:Ld 240 1 false:={}
instance:Ld 241 1 false:={}
instance:Ld 242 1 false:={}
instance:Zi 242 [nS]:={}
instance:Sl 242:={}
instance:El 242 3 32 (some [.str [],.int .i64 (0),.int .i64 (0)]):={}
instance:Ld 244 4 true:={}
instance:Fd 244 0 0 1 false:={}
instance:Fd 244 1 1 1 false:={}
instance:Fd 244 2 2 1 false:={}
instance:Fd 244 3 3 1 false:={}
instance:Bd 244 [.nil (.pointer none),.nil (.map none),nS,.nil (.map none)] [(0,1),(1,1),(2,1),(3,1)]:={}
instance:Ld 246 1 false:={}
instance:Ld 250 3 true:={}
instance:Fd 250 0 0 1 true:={}
instance:Fd 250 1 1 1 false:={}
instance:Fd 250 2 2 1 false:={}
instance:Bd 250 [nS,nS,nS] [(0,1),(1,1),(2,1)]:={}
instance:Ld 251 1 false:={}
instance:Ld 253 3 true:={}
instance:Fd 253 0 0 1 false:={}
instance:Fd 253 1 1 2 true:={}
instance:Bd 253 [.nil (.pointer none),nS,nS] [(0,1),(1,2)]:={}
instance:Ld 256 3 true:={}
instance:Zi 256 [.int .i64 (0),.int .i64 (0),.bool false]:={}
instance:Fd 256 0 0 1 false:={}
instance:Fd 256 1 1 1 false:={}
instance:Fd 256 2 2 1 false:={}
instance:Bd 256 [.int .i64 (0),.int .i64 (0),.bool false] [(0,1),(1,1),(2,1)]:={}
instance:Ld 274 2 true:={}
instance:Ok 274:={}
instance:Zi 274 [.str [],.str []]:={}
instance:Fd 274 0 0 1 false:={}
instance:Fd 274 1 1 1 false:={}
instance:Ld 289 2 true:={}
instance:Zi 289 [.int .i64 (0),.int .i64 (0)]:={}
instance:Ld 311 1 false:={}
instance:Sl 311:={}
instance:El 311 2 32 (some [.int .i64 (0),nS]):={}
instance:Ld 313 4 true:={}
instance:Zi 313 [.str [],.int .i64 (0),.int .i64 (0),nS]:={}
instance:Fd 313 3 3 1 false:={}
instance:Bd 313 [.str [],.int .i64 (0),.int .i64 (0),nS] [(0,1),(1,1),(2,1),(3,1)]:={}
instance:Ld 318 2 true:={}
instance:Zi 318 [.int .i64 (0),nS]:={}
instance:Fd 318 0 0 1 false:={}
instance:Fd 318 1 1 1 false:={}
instance:Bd 318 [.int .i64 (0),nS] [(0,1),(1,1)]:={}
instance:Ld 329 1 false:={}
instance:Zi 329 [.nil (.nilFunc)]:={}
instance:Ld 331 1 false:={}
instance:Ld 332 1 false:={}
instance:Ld 333 1 false:={}
instance:Ld 335 5 true:={}
instance:Fd 335 0 0 1 false:={}
instance:Fd 335 1 1 1 false:={}
instance:Fd 335 2 2 1 false:={}
instance:Fd 335 3 3 1 false:={}
instance:Fd 335 4 4 1 false:={}
instance:Bd 335 [.nil (.map none),.nil (.map none),.nil (.map none),.nil (.map none),.nil (.map none)] [(0,1),(1,1),(2,1),(3,1),(4,1)]:={}
instance:Ld 349 1 false:={}
instance:Ld 351 3 true:={}
instance:Zi 351 [.int .i64 (0),.int .i64 (0),.int .i64 (0)]:={}
instance:Ld 352 1 false:={}
instance:Sl 352:={}
instance:El 352 3 24 (some [.int .i64 (0),.int .i64 (0),.int .i64 (0)]):={}
instance:Ld 356 1 false:={}
instance:Ld 373 2 true:={}
instance:Zi 373 [.nil (.map none),.nil (.map none)]:={}
instance:Fd 373 0 0 1 false:={}
instance:Fd 373 1 1 1 false:={}
instance:Bd 373 [.nil (.map none),.nil (.map none)] [(0,1),(1,1)]:={}
instance:Ld 386 4 true:={}
instance:Zi 386 [.int .i64 (0),.int .i64 (0),.int .i64 (0),.int .i64 (0)]:={}
instance:Sl 404:={}
instance:El 404 1 24 (some [nS]):={}
instance:Ld 415 4 true:={}
instance:Zi 415 [.int .i64 (0),.str [],nS,nS]:={}
instance:Fd 415 0 0 1 false:={}
instance:Fd 415 1 1 1 false:={}
instance:Fd 415 2 2 1 false:={}
instance:Fd 415 3 3 1 false:={}
instance:Bd 415 [.int .i64 (0),.str [],nS,nS] [(0,1),(1,1),(2,1),(3,1)]:={}
instance:Sl 416:={}
instance:El 416 4 72 (some [.int .i64 (0),.str [],nS,nS]):={}
instance:Ld 431 3 true:={}
instance:Fd 431 0 0 2 true:={}
instance:Fd 431 1 2 1 false:={}
instance:Bd 431 [nS,nS,.nil (.map none)] [(0,2),(2,1)]:={}
instance:Sl 435:={}
instance:El 435 1 1 (some [.int .u8 (0)]):={}
instance:Ld 436 256 true:={}
instance:Zi 436 (List.replicate 256 (.int .u8 (0))):={}
instance:Ld 456 2 true:={}
instance:Zi 456 [.str [],nS]:={}
instance:Fd 456 1 1 1 false:={}
instance:Bd 456 [.str [],nS] [(0,1),(1,1)]:={}
instance:Ld 461 4 true:={}
instance:Zi 461 [.str [],.bool false,.int .i64 (0),.int .i64 (0)]:={}
instance:Fd 461 0 0 1 false:={}
instance:Fd 461 1 1 1 false:={}
instance:Fd 461 2 2 1 false:={}
instance:Fd 461 3 3 1 false:={}
theorem A3v:arI Ew.P 159=some (5,1,false):=Kr
instance:Zi 9 [.str []]:={}
instance:Zi 22 [nS]:={}
instance:Zi 32 [.int .i64 (0)]:={}
instance:Ld 56 1 false:={}
instance:Sl 56:={}
instance:El 56 2 40 (some [.str [],nS]):={}
instance:Ld 58 3 true:={}
instance:Fd 58 0 0 1 false:={}
instance:Fd 58 1 1 1 false:={}
instance:Fd 58 2 2 1 false:={}
instance:Ld 60 1 false:={}
instance:Sl 60:={}
instance:El 60 2 40 (some [.str [],nS]):={}
instance:Ld 62 3 true:={}
instance:Zi 62 [.int .i64 (0),nS,nS]:={}
instance:Fd 62 0 0 1 false:={}
instance:Fd 62 1 1 1 false:={}
instance:Fd 62 2 2 1 false:={}
instance:Bd 62 [.int .i64 (0),nS,nS] [(0,1),(1,1),(2,1)]:={}
instance:Ld 64 1 false:={}
instance:Zi 64 [nS]:={}
instance:Sl 64:={}
instance:El 64 2 24 (some [.str [],.int .i64 (0)]):={}
instance:Zi 123 [.nil (.map none)]:={}
instance:Ld 129 2 true:={}
instance:Zi 129 [.str [],nS]:={}
instance:Fd 129 1 1 1 false:={}
instance:Ld 136 2 true:={}
instance:Ok 136:={}
instance:Fd 136 0 0 1 false:={}
instance:Fd 136 1 1 1 false:={}
instance:Bd 136 [.str [],.int .i64 (0)] [(0,1),(1,1)]:={}
instance:Ld 138 2 true:={}
instance:Zi 138 [.str [],nS]:={}
instance:Fd 138 0 0 1 false:={}
instance:Fd 138 1 1 1 false:={}
instance:Bd 138 [.str [],nS] [(0,1),(1,1)]:={}
instance:Ld 153 1 false:={}
instance:Ld 162 12 true:={}
instance:Fd 162 0 0 3 true:={}
instance:Fd 162 1 3 2 true:={}
instance:Fd 162 2 5 1 false:={}
instance:Fd 162 3 6 5 true:={}
instance:Fd 162 4 11 1 false:={}
instance:Bd 162 [nS,nS,nS,nS,nS,.int .i64 (0),.bool false,.bool false,.bool false,.bool false,.bool false,.nil (.map none)] [(0,3),(3,2),(5,1),(6,5),(11,1)]:={}
instance:Ld 170 6 true:={}
instance:Zi 170 [.bool false,nS,nS,.str [],nS,.int .i64 (0)]:={}
instance:Fd 170 0 0 1 false:={}
instance:Fd 170 1 1 1 false:={}
instance:Fd 170 2 2 1 false:={}
instance:Fd 170 3 3 2 true:={}
instance:Fd 170 4 5 1 false:={}
instance:Bd 170 [.bool false,nS,nS,.str [],nS,.int .i64 (0)] [(0,1),(1,1),(2,1),(3,2),(5,1)]:={}
instance:Sl 172:={}
instance:El 172 6 104 (some [.bool false,nS,nS,.str [],nS,.int .i64 (0)]):={}
instance:Ld 177 4 true:={}
instance:Zi 177 [.str [],nS,nS,.int .i64 (0)]:={}
instance:Fd 177 0 0 2 true:={}
instance:Fd 177 1 2 1 false:={}
instance:Fd 177 2 3 1 false:={}
instance:Bd 177 [.str [],nS,nS,.int .i64 (0)] [(0,2),(2,1),(3,1)]:={}
instance:Ld 265 1 false:={}
instance:Zi 265 [.nil (.nilFunc)]:={}
theorem st9:Fs Ew.P 9=true:=Kr
theorem Arn:mpI Ew.P 123=some (9,.int .i64 (0),1,false):=Kr
theorem Ae5:mpI Ew.P 160=some (9,nS,1,false):=Kr
theorem Qo:mpI Ew.P 221=some (9,.agg [.str [],.bool false,nS],3,true):=Kr
theorem Va:mpI Ew.P 235=some (232,.bool false,1,false):=Kr
theorem Am1:mpI Ew.P 240=some (232,.int .i64 (0),1,false):=Kr
theorem Ab2:mpI Ew.P 241=some (386,.bool false,1,false):=Kr
theorem Am2:mpI Ew.P 254=some (289,.agg [.int .i64 (0),.int .i64 (0),.bool false],3,true):=Kr
theorem ar289:arI Ew.P 289=some (2,1,false):=Kr
theorem Vb:mpI Ew.P 304=some (9,.bool false,1,false):=Kr
theorem Cr:mpI Ew.P 332=some (9,.bool false,1,false):=Kr
theorem Ae6:mpI Ew.P 333=some (9,.str [],1,false):=Kr
theorem Ae7:mpI Ew.P 338=some (9,.nil (.map none),1,false):=Kr
theorem Av7:arI Ew.P 340=some (2,1,false):=Kr
theorem Am3:mpI Ew.P 349=some (351,.bool false,1,false):=Kr
theorem Ii:arI Ew.P 351=some (3,1,false):=Kr
theorem ar386:arI Ew.P 386=some (4,1,false):=Kr
theorem ar436:arI Ew.P 436=some (256,1,false):=Kr
theorem Av8:arI Ew.P 462=some (10,4,true):=Kr
end Go.AM
