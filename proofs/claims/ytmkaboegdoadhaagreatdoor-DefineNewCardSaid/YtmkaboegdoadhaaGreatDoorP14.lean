/- A part of the proof; shortened by program. -/
import Derived.Test.YtmkaboegdoadhaaGreatDoorP13
set_option maxRecDepth 100000
set_option maxHeartbeats 4000000
set_option linter.unusedSimpArgs false
set_option linter.unusedVariables false
namespace Go.AM
open Go Go.Proofs
theorem f16(p l k cap σ)(hb:l.length<4611686018427387904)(hk:∀a∈l,Al Ew k ([.agg (eF a)]++cap) σ fun v σ'=>v=.bool (p a)/\σ'=σ):
  Cv 16 [slV eF 8 l,.fn (.func k) [] cap] σ (iV (A5 p l 0)):=by
 refine Aj Tryz.func16 rfl rfl fun hw hu=>?_
 refine G12 ?_;refine Bz l.length (fun i=>[(0,slV eF 8 l),(1,.fn (.func k) [] cap),(7,iV (.ofNat l.length)),(8,iV (.ofNat i))]) (fun i σ'=>σ'=σ/\A5 p l 0=A5 p (l.drop i) i) SL ⟨rfl,rfl⟩ ?_
 rintro i σ' hi ⟨rfl,hf⟩;refine G5 ?_;refine Ab rfl ?_ ?_<;>intro h
 ·have hlt:i<l.length:=by simpa using h
  obtain⟨a,ha⟩:∃a,l[i]? =some a:=⟨_,az_ hlt⟩
  have hd:l.drop i=a::l.drop (i+1):=by
   obtain⟨h1,rfl⟩:=ae_.1 ha;exact bj_ h1
  iterate 14 refine G ?_
  refine O1 (Ac ldC rfl rfl (A6 ((fun _=>rfl:∀a,(eF a).length=8) a) _)) ?_
  refine Az rfl rfl rfl rfl (hk a (ab_ ha)) ?_;rintro _ _ ⟨rfl,rfl⟩;refine G ?_;refine Ab rfl (fun h'=>?_) (fun h'=>?_)
  ·refine G6 ?_;refine⟨_,rfl,iV (.ofNat i),_,a_ hw nl (fun _ _=>rfl),nl,.same rfl,?_,rfl⟩
   rw[hf,hd];simp only[A5,h',cond_true]
  ·refine G2 ?_;refine O1 (D3 (p:=i) (q:=1) okC rfl rfl Om) ?_;refine G2 ?_;refine⟨hlt,SL,rfl,?_⟩;rw[hf,hd];simp only[A5,h',cond_false]
 ·have hge:l.length<=i:=by simpa using h
  refine G6 ?_;refine⟨_,rfl,iV (-1),_,a_ hw nl (fun _ _=>rfl),nl,.same rfl,?_,rfl⟩
  rw[hf,ah_ hge];rfl
theorem f42(p l k cap σ)(hb:l.length<4611686018427387904)(hk:∀a∈l,Al Ew k ([.agg (eF a)]++cap) σ fun v σ'=>v=.bool (p a)/\σ'=σ):
  Cv 42 [slV eF 8 l,.fn (.func k) [] cap] σ (.bool (l.any p)):=by
 refine Aj Tryz.func42 rfl rfl fun hw _=>?_
 refine G8 ?_;refine Az rfl rfl rfl rfl (f16 p l k cap σ hb hk) ?_;rintro _ _ ⟨rfl,rfl⟩;refine G4 ?_;refine B4 hw rfl ?_;exact congrArg AV.bool (Gf l)
theorem f98(p l k cap σ)(hb:l.length<4611686018427387904)(hk:∀a∈l,Al Ew k ([.agg (eH a)]++cap) σ fun v σ'=>v=.bool (p a)/\σ'=σ):
  Cv 98 [slV eH 3 l,.fn (.func k) [] cap] σ (iV (A5 p l 0)):=by
 refine Aj Tryz.func98 rfl rfl fun hw hu=>?_
 refine G12 ?_;refine Bz l.length (fun i=>[(0,slV eH 3 l),(1,.fn (.func k) [] cap),(7,iV (.ofNat l.length)),(8,iV (.ofNat i))]) (fun i σ'=>σ'=σ/\A5 p l 0=A5 p (l.drop i) i) SL ⟨rfl,rfl⟩ ?_
 rintro i σ' hi ⟨rfl,hf⟩;refine G5 ?_;refine Ab rfl ?_ ?_<;>intro h
 ·have hlt:i<l.length:=by simpa using h
  obtain⟨a,ha⟩:∃a,l[i]? =some a:=⟨_,az_ hlt⟩
  have hd:l.drop i=a::l.drop (i+1):=by
   obtain⟨h1,rfl⟩:=ae_.1 ha;exact bj_ h1
  iterate 14 refine G ?_
  refine O1 (Ac ldC rfl rfl (A6 ((fun _=>rfl:∀a,(eH a).length=3) a) _)) ?_
  refine Az rfl rfl rfl rfl (hk a (ab_ ha)) ?_;rintro _ _ ⟨rfl,rfl⟩;refine G ?_;refine Ab rfl (fun h'=>?_) (fun h'=>?_)
  ·refine G6 ?_;refine⟨_,rfl,iV (.ofNat i),_,a_ hw nl (fun _ _=>rfl),nl,.same rfl,?_,rfl⟩
   rw[hf,hd];simp only[A5,h',cond_true]
  ·refine G2 ?_;refine O1 (D3 (p:=i) (q:=1) okC rfl rfl Om) ?_;refine G2 ?_;refine⟨hlt,SL,rfl,?_⟩;rw[hf,hd];simp only[A5,h',cond_false]
 ·have hge:l.length<=i:=by simpa using h
  refine G6 ?_;refine⟨_,rfl,iV (-1),_,a_ hw nl (fun _ _=>rfl),nl,.same rfl,?_,rfl⟩
  rw[hf,ah_ hge];rfl
theorem f45(p l k cap σ)(hb:l.length<4611686018427387904)(hk:∀a∈l,Al Ew k ([.agg (eH a)]++cap) σ fun v σ'=>v=.bool (p a)/\σ'=σ):
  Cv 45 [slV eH 3 l,.fn (.func k) [] cap] σ (.bool (l.any p)):=by
 refine Aj Tryz.func45 rfl rfl fun hw _=>?_
 refine G8 ?_;refine Az rfl rfl rfl rfl (f98 p l k cap σ hb hk) ?_;rintro _ _ ⟨rfl,rfl⟩;refine G4 ?_;refine B4 hw rfl ?_;exact congrArg AV.bool (Gf l)
theorem f99(p l k cap σ)(hb:l.length<4611686018427387904)(hk:∀a∈l,Al Ew k ([sV a]++cap) σ fun v σ'=>v=.bool (p a)/\σ'=σ):
  Cv 99 [slV (fun s=>[sV s]) 1 l,.fn (.func k) [] cap] σ (iV (A5 p l 0)):=by
 refine Aj Tryz.func99 rfl rfl fun hw hu=>?_
 refine G12 ?_;refine Bz l.length (fun i=>[(0,slV (fun s=>[sV s]) 1 l),(1,.fn (.func k) [] cap),(7,iV (.ofNat l.length)),(8,iV (.ofNat i))]) (fun i σ'=>σ'=σ/\A5 p l 0=A5 p (l.drop i) i) SL ⟨rfl,rfl⟩ ?_
 rintro i σ' hi ⟨rfl,hf⟩;refine G5 ?_;refine Ab rfl ?_ ?_<;>intro h
 ·have hlt:i<l.length:=by simpa using h
  obtain⟨a,ha⟩:∃a,l[i]? =some a:=⟨_,az_ hlt⟩
  have hd:l.drop i=a::l.drop (i+1):=by
   obtain⟨h1,rfl⟩:=ae_.1 ha;exact bj_ h1
  iterate 15 refine G ?_
  refine Az rfl rfl rfl rfl (hk a (ab_ ha)) ?_;rintro _ _ ⟨rfl,rfl⟩;refine G ?_;refine Ab rfl (fun h'=>?_) (fun h'=>?_)
  ·refine G6 ?_;refine⟨_,rfl,iV (.ofNat i),_,a_ hw nl (fun _ _=>rfl),nl,.same rfl,?_,rfl⟩
   rw[hf,hd];simp only[A5,h',cond_true]
  ·refine G2 ?_;refine O1 (D3 (p:=i) (q:=1) okC rfl rfl Om) ?_;refine G2 ?_;refine⟨hlt,SL,rfl,?_⟩;rw[hf,hd];simp only[A5,h',cond_false]
 ·have hge:l.length<=i:=by simpa using h
  refine G6 ?_;refine⟨_,rfl,iV (-1),_,a_ hw nl (fun _ _=>rfl),nl,.same rfl,?_,rfl⟩
  rw[hf,ah_ hge];rfl
theorem f46(p l k cap σ)(hb:l.length<4611686018427387904)(hk:∀a∈l,Al Ew k ([sV a]++cap) σ fun v σ'=>v=.bool (p a)/\σ'=σ):
  Cv 46 [slV (fun s=>[sV s]) 1 l,.fn (.func k) [] cap] σ (.bool (l.any p)):=by
 refine Aj Tryz.func46 rfl rfl fun hw _=>?_
 refine G8 ?_;refine Az rfl rfl rfl rfl (f99 p l k cap σ hb hk) ?_;rintro _ _ ⟨rfl,rfl⟩;refine G4 ?_;refine B4 hw rfl ?_;exact congrArg AV.bool (Gf l)
theorem f161(p l k cap σ)(hb:l.length<4611686018427387904)(hk:∀a∈l,Al Ew k ([.agg (eR a)]++cap) σ fun v σ'=>v=.bool (p a)/\σ'=σ):
  Cv 161 [slV eR 4 l,.fn (.func k) [] cap] σ (iV (A5 p l 0)):=by
 refine Aj Tryz.func161 rfl rfl fun hw hu=>?_
 refine G12 ?_;refine Bz l.length (fun i=>[(0,slV eR 4 l),(1,.fn (.func k) [] cap),(7,iV (.ofNat l.length)),(8,iV (.ofNat i))]) (fun i σ'=>σ'=σ/\A5 p l 0=A5 p (l.drop i) i) SL ⟨rfl,rfl⟩ ?_
 rintro i σ' hi ⟨rfl,hf⟩;refine G5 ?_;refine Ab rfl ?_ ?_<;>intro h
 ·have hlt:i<l.length:=by simpa using h
  obtain⟨a,ha⟩:∃a,l[i]? =some a:=⟨_,az_ hlt⟩
  have hd:l.drop i=a::l.drop (i+1):=by
   obtain⟨h1,rfl⟩:=ae_.1 ha;exact bj_ h1
  iterate 14 refine G ?_
  refine O1 (Ac ldC rfl rfl (A6 ((fun _=>rfl:∀a,(eR a).length=4) a) _)) ?_
  refine Az rfl rfl rfl rfl (hk a (ab_ ha)) ?_;rintro _ _ ⟨rfl,rfl⟩;refine G ?_;refine Ab rfl (fun h'=>?_) (fun h'=>?_)
  ·refine G6 ?_;refine⟨_,rfl,iV (.ofNat i),_,a_ hw nl (fun _ _=>rfl),nl,.same rfl,?_,rfl⟩
   rw[hf,hd];simp only[A5,h',cond_true]
  ·refine G2 ?_;refine O1 (D3 (p:=i) (q:=1) okC rfl rfl Om) ?_;refine G2 ?_;refine⟨hlt,SL,rfl,?_⟩;rw[hf,hd];simp only[A5,h',cond_false]
 ·have hge:l.length<=i:=by simpa using h
  refine G6 ?_;refine⟨_,rfl,iV (-1),_,a_ hw nl (fun _ _=>rfl),nl,.same rfl,?_,rfl⟩
  rw[hf,ah_ hge];rfl
theorem f148(p l k cap σ)(hb:l.length<4611686018427387904)(hk:∀a∈l,Al Ew k ([.agg (eR a)]++cap) σ fun v σ'=>v=.bool (p a)/\σ'=σ):
  Cv 148 [slV eR 4 l,.fn (.func k) [] cap] σ (.bool (l.any p)):=by
 refine Aj Tryz.func148 rfl rfl fun hw _=>?_
 refine G8 ?_;refine Az rfl rfl rfl rfl (f161 p l k cap σ hb hk) ?_;rintro _ _ ⟨rfl,rfl⟩;refine G4 ?_;refine B4 hw rfl ?_;exact congrArg AV.bool (Gf l)
theorem f228(p l k cap σ)(hb:l.length<4611686018427387904)(hk:∀a∈l,Al Ew k ([.agg (ePt a)]++cap) σ fun v σ'=>v=.bool (p a)/\σ'=σ):
  Cv 228 [slV ePt 3 l,.fn (.func k) [] cap] σ (iV (A5 p l 0)):=by
 refine Aj Tryz.func228 rfl rfl fun hw hu=>?_
 refine G12 ?_;refine Bz l.length (fun i=>[(0,slV ePt 3 l),(1,.fn (.func k) [] cap),(7,iV (.ofNat l.length)),(8,iV (.ofNat i))]) (fun i σ'=>σ'=σ/\A5 p l 0=A5 p (l.drop i) i) SL ⟨rfl,rfl⟩ ?_
 rintro i σ' hi ⟨rfl,hf⟩;refine G5 ?_;refine Ab rfl ?_ ?_<;>intro h
 ·have hlt:i<l.length:=by simpa using h
  obtain⟨a,ha⟩:∃a,l[i]? =some a:=⟨_,az_ hlt⟩
  have hd:l.drop i=a::l.drop (i+1):=by
   obtain⟨h1,rfl⟩:=ae_.1 ha;exact bj_ h1
  iterate 14 refine G ?_
  refine O1 (Ac ldC rfl rfl (A6 ((fun _=>rfl:∀a,(ePt a).length=3) a) _)) ?_
  refine Az rfl rfl rfl rfl (hk a (ab_ ha)) ?_;rintro _ _ ⟨rfl,rfl⟩;refine G ?_;refine Ab rfl (fun h'=>?_) (fun h'=>?_)
  ·refine G6 ?_;refine⟨_,rfl,iV (.ofNat i),_,a_ hw nl (fun _ _=>rfl),nl,.same rfl,?_,rfl⟩
   rw[hf,hd];simp only[A5,h',cond_true]
  ·refine G2 ?_;refine O1 (D3 (p:=i) (q:=1) okC rfl rfl Om) ?_;refine G2 ?_;refine⟨hlt,SL,rfl,?_⟩;rw[hf,hd];simp only[A5,h',cond_false]
 ·have hge:l.length<=i:=by simpa using h
  refine G6 ?_;refine⟨_,rfl,iV (-1),_,a_ hw nl (fun _ _=>rfl),nl,.same rfl,?_,rfl⟩
  rw[hf,ah_ hge];rfl
theorem f182(p l k cap σ)(hb:l.length<4611686018427387904)(hk:∀a∈l,Al Ew k ([.agg (ePt a)]++cap) σ fun v σ'=>v=.bool (p a)/\σ'=σ):
  Cv 182 [slV ePt 3 l,.fn (.func k) [] cap] σ (.bool (l.any p)):=by
 refine Aj Tryz.func182 rfl rfl fun hw _=>?_
 refine G8 ?_;refine Az rfl rfl rfl rfl (f228 p l k cap σ hb hk) ?_;rintro _ _ ⟨rfl,rfl⟩;refine G4 ?_;refine B4 hw rfl ?_;exact congrArg AV.bool (Gf l)
theorem f288(p l k cap σ)(hb:l.length<4611686018427387904)(hk:∀a∈l,Al Ew k ([.agg (eP a)]++cap) σ fun v σ'=>v=.bool (p a)/\σ'=σ):
  Cv 288 [slV eP 2 l,.fn (.func k) [] cap] σ (iV (A5 p l 0)):=by
 refine Aj Tryz.func288 rfl rfl fun hw hu=>?_
 refine G12 ?_;refine Bz l.length (fun i=>[(0,slV eP 2 l),(1,.fn (.func k) [] cap),(7,iV (.ofNat l.length)),(8,iV (.ofNat i))]) (fun i σ'=>σ'=σ/\A5 p l 0=A5 p (l.drop i) i) SL ⟨rfl,rfl⟩ ?_
 rintro i σ' hi ⟨rfl,hf⟩;refine G5 ?_;refine Ab rfl ?_ ?_<;>intro h
 ·have hlt:i<l.length:=by simpa using h
  obtain⟨a,ha⟩:∃a,l[i]? =some a:=⟨_,az_ hlt⟩
  have hd:l.drop i=a::l.drop (i+1):=by
   obtain⟨h1,rfl⟩:=ae_.1 ha;exact bj_ h1
  iterate 14 refine G ?_
  refine O1 (Ac ldC rfl rfl (A6 ((fun _=>rfl:∀a,(eP a).length=2) a) _)) ?_
  refine Az rfl rfl rfl rfl (hk a (ab_ ha)) ?_;rintro _ _ ⟨rfl,rfl⟩;refine G ?_;refine Ab rfl (fun h'=>?_) (fun h'=>?_)
  ·refine G6 ?_;refine⟨_,rfl,iV (.ofNat i),_,a_ hw nl (fun _ _=>rfl),nl,.same rfl,?_,rfl⟩
   rw[hf,hd];simp only[A5,h',cond_true]
  ·refine G2 ?_;refine O1 (D3 (p:=i) (q:=1) okC rfl rfl Om) ?_;refine G2 ?_;refine⟨hlt,SL,rfl,?_⟩;rw[hf,hd];simp only[A5,h',cond_false]
 ·have hge:l.length<=i:=by simpa using h
  refine G6 ?_;refine⟨_,rfl,iV (-1),_,a_ hw nl (fun _ _=>rfl),nl,.same rfl,?_,rfl⟩
  rw[hf,ah_ hge];rfl
def Aro:Nat->Nat->List AV
 |0,_=>[]
 |n+1,x=>.int .u8 (.ofNat x)::Aro n x
def Aw9:List (Nat×Nat):=[(9,0),(2,1),(1,0),(2,1),(18,0),(1,1),(3,3),(1,4),(8,3),(2,2),(1,3),(10,2),(7,3),(26,2),(4,3),(1,2),(1,3),(26,2),(4,3),(129,0)]
def Ae8:List (Nat×Nat)->List AV
 |[]=>[]
 |(n,x)::r=>Aro n x++Ae8 r
def Cj:List AV:=Ae8 Aw9
def Tl(i:Nat):Nat:=if i=32∨(9<=i/\i<=13/\i≠11)then 1 else if i=36 then 4 else if(48<=i/\i<=57)∨(65<=i/\i<=90)∨(97<=i/\i<=122)∨i=45∨i=95∨i=46 then 2 else if 33<=i/\i<=126 then 3 else 0
theorem Arp:(List.range 256).all (fun i=>match Cj[i]? with|some (.int .u8 (.ofNat k))=>Nat.beq k (Tl i)|_=>false)=true:=Kr
theorem Auo{i}(h:i<256):Cj[i]? =some (.int .u8 (.ofNat (Tl i))):=by
 have:=b_.1 Arp i (cw_.2 h)
 split at this
 ·rename_i k hk;rw[hk,ac_ this]
 ·cases this
section
variable {Rr:Rec}{ρ:Ad}{σ:Sto}{ty a i p q:Nat}{k:IntKind}{x y:Operand}
theorem ti5:(Ay Ew.P 5).map (·.desc)=some (.int .u8):=Kr
theorem ti3:(Ay Ew.P 3).isSome=true:=Kr
theorem Axa(hx:Ah Ew ρ x=some (.int k (.ofNat p)))(hp:p<256):As Ew Rr (.convert 3 5 x) ρ σ (.int .u8 (.ofNat p)) σ:=fun tm h=>by
 obtain⟨td,h1,h2⟩:=cy_.1 ti5;obtain⟨ts,h3⟩:=bg_.1 ti3;have hb:Nat.ble p 255=true:=ar_ Om;simp only[opA,Aw,h1,h2,h3,h.opd hx,Pp,Me,Ak,M0,hb,cond_true]
theorem ti436:(match Ay Ew.P 436 with|some ti=>(match ti.desc with|.array len e=>(match Ay Ew.P e with|some te=>Nat.beq len 256&&Nat.beq te.size 1|none=>false)|_=>false)|none=>false)=true:=Kr
theorem Z1(hx:Ah Ew ρ x=some (.pr a 0))(hy:Ah Ew ρ y=some (.int k (.ofNat i)))(hi:i<256):As Ew Rr (.indexAddr 436 x y) ρ σ (.pr a i) σ:=fun tm h=>by
 have ht:=ti436
 split at ht
 ·rename_i ti h1
  split at ht
  ·rename_i len e h2
   split at ht
   ·rename_i te h3
    rw[ad_]at ht;have e1:=ac_ ht.1;have e2:=ac_ ht.2;have hb:Nat.blt i 256=true:=Ce hi;simp only[opA,Aw,h1,h2,h3,h.opd hx,h.opd hy,E6,e1,e2,hb,cond_true,Po,Ak,bn_,fr_]
   ·cases ht
  ·cases ht
 ·cases ht
end
def q2(i:Nat):Bool:=(decide (Int.ofNat i=32)||((decide ((9:Int)<=Int.ofNat i)&&decide (Int.ofNat i<=13))&& !decide (Int.ofNat i=11)))
def q4(i:Nat):Bool:=((((((decide ((48:Int)<=Int.ofNat i)&&decide (Int.ofNat i<=57))||(decide ((65:Int)<=Int.ofNat i)&&decide (Int.ofNat i<=90)))||(decide ((97:Int)<=Int.ofNat i)&&decide (Int.ofNat i<=122)))||decide (Int.ofNat i=45))||decide (Int.ofNat i=95))||decide (Int.ofNat i=46))
theorem cl1{i}(h2:q2 i=true):Tl i=1:=by
 unfold q2 at h2;simp only[bk_,ad_,bi_,decide_eq_true_eq,decide_eq_false_iff_not,bu_,bv_,Bool.and_eq_false_iff,df_]at *;unfold Tl;rw[if_pos Om]
theorem cl4{i}(h2:q2 i=false)(h3:decide (Int.ofNat i=36)=true):Tl i=4:=by
 unfold q2 at h2;simp only[bk_,ad_,bi_,decide_eq_true_eq,decide_eq_false_iff_not,bu_,bv_,Bool.and_eq_false_iff,df_]at *;unfold Tl;rw[if_neg Om,if_pos Om]
theorem cl2{i}(h2:q2 i=false)(h3:decide (Int.ofNat i=36)=false)(h4:q4 i=true):Tl i=2:=by
 unfold q2 at h2;unfold q4 at h4;simp only[bk_,ad_,bi_,decide_eq_true_eq,decide_eq_false_iff_not,bu_,bv_,Bool.and_eq_false_iff,df_]at *;unfold Tl;rw[if_neg Om,if_neg Om,if_pos Om]
theorem cl3{i}(h2:q2 i=false)(h3:decide (Int.ofNat i=36)=false)(h4:q4 i=false)(h5:(decide ((32:Int)<Int.ofNat i)&&decide (Int.ofNat i<=126))=true):Tl i=3:=by
 unfold q2 at h2;unfold q4 at h4;simp only[bk_,ad_,bi_,decide_eq_true_eq,decide_eq_false_iff_not,bu_,bv_,Bool.and_eq_false_iff,df_]at *;unfold Tl;rw[if_neg Om,if_neg Om,if_neg Om,if_pos Om]
theorem cl0{i}(h2:q2 i=false)(h3:decide (Int.ofNat i=36)=false)(h4:q4 i=false)(h5:(decide ((32:Int)<Int.ofNat i)&&decide (Int.ofNat i<=126))=false):Tl i=0:=by
 unfold q2 at h2;unfold q4 at h4;simp only[bk_,ad_,bi_,decide_eq_true_eq,decide_eq_false_iff_not,bu_,bv_,Bool.and_eq_false_iff,df_]at *;unfold Tl;rw[if_neg Om,if_neg Om,if_neg Om,if_neg Om]
theorem Ae9{N}:∀{l:List AV},l.all (fun v=>match v with|.int .u8 (.ofNat _)=>true|_=>false)=true->AV.unds N l=true
 |[],_=>rfl
 |v::l,h=>by
  rw[cs_,ad_]at h;have:=Ae9 (N:=N) h.2;have h1:=h.1
  split at h1
  ·simp only[AV.unds,this,AV.und,be_]
  ·cases h1
def zb:AV:=.int .u8 0
theorem f269(σ):Cv 269 [] σ (.agg Cj):=by
  refine Aj Tryz.func269 rfl rfl fun hw hu0=>?_
  refine G2 ?_;refine O1 (Bu ziC) ?_;refine G7 ?_
  refine Bz 256 (fun i=>[(0,.pr (nx σ) 0),(3,iV (.ofNat i))]) (fun i σ0=>σ0.get (nx σ)=some (.cells (Cj.take i++List.replicate (256-i) zb))/\nx σ<=nx σ0/\∀b,b<nx σ->σ0.get b=σ.get b) SL ⟨by rw[ag_,if_pos rfl];rfl,by rw[Ao];omega,fun b hb=>by rw[ag_,if_neg Om]⟩ ?_
  rintro i σ0 hi ⟨hc,n0,g0⟩;refine G5 ?_;refine Ab rfl ?_ ?_<;>intro h1
  · have hlt:i<256:=Int.ofNat_lt.1 (of_decide_eq_true h1)
    have htl:(Cj.take i).length=i:=by
      rw[cb_]
      have:Cj.length=256:=Kr
      omega
    have cz:List.replicate (256-i) zb=[zb]++List.replicate (256-(i+1)) zb:=by rw[show 256-i=(256-(i+1))+1 by omega,List.replicate_succ];rfl
    rw[cz,←ca_]at hc
    have htk:Cj.take (i+1)=Cj.take i++[.int .u8 (.ofNat (Tl i))]:=by rw[List.take_add_one,Auo hlt];rfl
    have cd:∀c:AV,Et (Cj.take i++[zb]++List.replicate (256-(i+1)) zb) i [c]=some (Cj.take i++[c]++List.replicate (256-(i+1)) zb):=fun c=>by
      have:=Ro (p:=Cj.take i) (q:=[zb]) (u:=[c]) (v:=List.replicate (256-(i+1)) zb) rfl
      rwa[htl]at this
    have key:∀c:Nat,Tl i=c->(σ0.set (nx σ) (.cells (Cj.take i++[.int .u8 (.ofNat c)]++List.replicate (256-(i+1)) zb))).get (nx σ)=some (.cells (Cj.take (i+1)++List.replicate (256-(i+1)) zb))/\nx σ<=nx (σ0.set (nx σ) (.cells (Cj.take i++[.int .u8 (.ofNat c)]++List.replicate (256-(i+1)) zb)))/\∀b,b<nx σ->(σ0.set (nx σ) (.cells (Cj.take i++[.int .u8 (.ofNat c)]++List.replicate (256-(i+1)) zb))).get b=σ.get b:=fun c hcf=>by
      refine⟨by rw[aa_,if_pos rfl,htk,hcf],by rw[Aq];exact n0,fun b hb=>by rw[aa_,if_neg Om];exact g0 b hb⟩
    have Akn:Tl i=0->σ0.get (nx σ)=some (.cells (Cj.take (i+1)++List.replicate (256-(i+1)) zb))/\nx σ<=nx σ0/\∀b,b<nx σ->σ0.get b=σ.get b:=fun hcf=>⟨by rw[hc,htk,hcf];rfl,n0,g0⟩
    refine G11 ?_;refine O1 (Axa rfl hlt) ?_;refine G8 ?_;refine TOr 10 ?_ (fun hg=>?_) ?_
    rotate_left
    · iterate 3 refine Gn hg ?_
      refine Hq 2 _ ?_ rfl rfl rfl rfl rfl (Ft rfl rfl rfl rfl (by rw[hg];rfl)) (fun hg=>?_) (fun hg=>?_) ?_
      rotate_left
      · refine Gn hg ?_
        refine On hg (Hn (q:=13) okC rfl rfl) ?_;refine G ?_;refine⟨rfl,?_,?_⟩
        · exact sb
        · exact rfl
      · iterate 2 refine Gn hg ?_
        refine G ?_;exact⟨rfl,sb⟩
      refine Gn hg ?_
      refine Hq 2 _ ?_ rfl rfl rfl rfl rfl (Ft rfl rfl rfl rfl (by rw[hg];rfl)) (fun hg=>?_) (fun hg=>?_) ?_
      rotate_left
      · iterate 2 refine Gn hg ?_
        refine G ?_;refine⟨rfl,?_,?_⟩
        · exact sb
        · exact rfl
      · iterate 2 refine Gn hg ?_
        refine G ?_;exact⟨rfl,sb⟩
      exact Ez
    refine G2 ?_;refine Ab rfl ?_ ?_<;>intro h2
    · refine G2 ?_
      refine O1 (Z1 rfl rfl hlt) (O1 (G1 hc ldC rfl rfl rfl (cd _)) ?_);refine G5 ?_;exact⟨hlt,SL,key 1 (cl1 h2)⟩
    · refine G6 ?_
      refine Ab rfl ?_ ?_<;>intro h3
      · refine G2 ?_
        refine O1 (Z1 rfl rfl hlt) (O1 (G1 hc ldC rfl rfl rfl (cd _)) ?_);refine G5 ?_;exact⟨hlt,SL,key 4 (cl4 h2 h3)⟩
      · refine G5 ?_
        refine TAn 2 ?_ (fun hg=>?_) ?_
        rotate_left
        · refine Gn hg ?_
          refine On hg (Hn (q:=57) okC rfl rfl) ?_;exact Ez
        refine G ?_;refine TOr 6 ?_ (fun hg=>?_) ?_
        rotate_left
        · iterate 3 refine Gn hg ?_
          refine Hq 2 _ ?_ rfl rfl rfl rfl rfl (Ft rfl rfl rfl rfl (by rw[hg];rfl)) (fun hg=>?_) (fun hg=>?_) ?_
          rotate_left
          · refine Gn hg ?_
            refine On hg (Hn (q:=90) okC rfl rfl) ?_;refine G ?_;refine⟨rfl,?_,?_⟩
            · exact sb
            · exact rfl
          · iterate 2 refine Gn hg ?_
            refine G ?_;exact⟨rfl,sb⟩
          exact Ez
        refine G ?_;refine TOr 6 ?_ (fun hg=>?_) ?_
        rotate_left
        · iterate 3 refine Gn hg ?_
          refine Hq 2 _ ?_ rfl rfl rfl rfl rfl (Ft rfl rfl rfl rfl (by rw[hg];rfl)) (fun hg=>?_) (fun hg=>?_) ?_
          rotate_left
          · refine Gn hg ?_
            refine On hg (Hn (q:=122) okC rfl rfl) ?_;refine G ?_;refine⟨rfl,?_,?_⟩
            · exact sb
            · exact rfl
          · iterate 2 refine Gn hg ?_
            refine G ?_;exact⟨rfl,sb⟩
          exact Ez
        refine G ?_;refine TOr 2 ?_ (fun hg=>?_) ?_
        rotate_left
        · iterate 2 refine Gn hg ?_
          exact Ez
        refine G ?_;refine TOr 2 ?_ (fun hg=>?_) ?_
        rotate_left
        · iterate 2 refine Gn hg ?_
          exact Ez
        refine G ?_;refine TOr 2 ?_ (fun hg=>?_) ?_
        rotate_left
        · iterate 2 refine Gn hg ?_
          exact Ez
        refine G2 ?_;refine Ab rfl ?_ ?_<;>intro h4
        · refine G2 ?_
          refine O1 (Z1 rfl rfl hlt) (O1 (G1 hc ldC rfl rfl rfl (cd _)) ?_);refine G5 ?_;exact⟨hlt,SL,key 2 (cl2 h2 h3 h4)⟩
        · refine G5 ?_
          refine TAn 2 ?_ (fun hg=>?_) ?_
          rotate_left
          · refine Gn hg ?_
            refine On hg (Hn (q:=126) okC rfl rfl) ?_;exact Ez
          refine G2 ?_;refine Ab rfl ?_ ?_<;>intro h5
          · refine G2 ?_
            refine O1 (Z1 rfl rfl hlt) (O1 (G1 hc ldC rfl rfl rfl (cd _)) ?_);refine G5 ?_;exact⟨hlt,SL,key 3 (cl3 h2 h3 h4 h5)⟩
          · refine G5 ?_
            exact⟨hlt,SL,Akn (cl0 h2 h3 h4 h5)⟩
  · have hge:256<=i:=bm_.1 (Int.not_lt.1 (fun q=>of_decide_eq_false h1 q))
    have:i=256:=by omega
    subst this
    have hc:σ0.get (nx σ)=some (.cells Cj):=hc.trans (by rw[show Cj.take 256++List.replicate (256-256) zb=Cj by kernel_rfl])
    refine G3 ?_
    refine O1 (E8 hc ldC rfl (show Cz 256 true Cj=some (.agg Cj) by kernel_rfl)) ?_
    refine O1 (G1 (cs':=Cj) hc ldC rfl rfl (show(AV.agg Cj).cellsN 256=some Cj by kernel_rfl) Kr) ?_
    refine G2 ?_
    exact⟨[.agg Cj],Am (vs:=Cj) (ldC (t:=436)) rfl (by simp only[Sto.cells];rw[aa_,if_pos rfl]) Kr rfl,_,σ,am_ hw ⟨by rw[Aq];exact n0,fun b hb=>by rw[aa_,if_neg Om];exact g0 b hb⟩,nl,.same (show AV.unds (nx σ) Cj=true from Ae9 Kr),rfl,rfl⟩
def clsN(n:Nat):Nat:=match Cj[n]? with|some (.int _ (.ofNat k))=>k|_=>0
theorem Alf:Cj.length=256:=Kr
theorem Alg:Cj.all (fun v=>match v with|.int .u8 (.ofNat _)=>true|_=>false)=true:=Kr
theorem Apb(b:UInt8):Cj.drop (b.toNat*1)=.int .u8 (.ofNat (clsN b.toNat))::Cj.drop (b.toNat+1):=by
 have hb:b.toNat<Cj.length:=by rw[Alf];exact b.toNat_lt
 rw[fr_,bj_ hb]
 congr 1
 have h:=b_.1 Alg _ (List.getElem_mem hb);unfold clsN;rw[az_ hb]
 generalize Cj[b.toNat]=v at h⊢
 split at h
 ·rfl
 ·cases h
theorem f56(l s σ)(hb:l.length<4611686018427387904):Cv 56 [slV (fun s=>[sV s]) 1 l,sV s] σ (iV (A5 (fun x=>decide (s=x)) l 0)):=by
 refine Aj Tryz.func56 rfl rfl fun hw _=>?_
 refine G12 ?_;refine Bz l.length (fun i=>[(0,slV (fun s=>[sV s]) 1 l),(1,sV s),(7,iV (.ofNat l.length)),(8,iV (.ofNat i))]) (fun i σ'=>σ'=σ/\A5 (fun x=>decide (s=x)) l 0=A5 (fun x=>decide (s=x)) (l.drop i) i) SL ⟨rfl,rfl⟩ ?_
 rintro i σ' hi ⟨rfl,hf⟩;refine G5 ?_;refine Ab rfl ?_ ?_<;>intro h
 ·have hlt:i<l.length:=gr;obtain⟨a,ha⟩:∃a,l[i]? =some a:=⟨_,az_ hlt⟩
  have hd:l.drop i=a::l.drop (i+1):=by
   obtain⟨h1,rfl⟩:=ae_.1 ha;exact bj_ h1
  iterate 17 refine G ?_
  refine Ab rfl (fun h'=>?_) (fun h'=>?_)
  ·refine G6 ?_;refine B4 hw rfl ?_;rw[hf,hd];simp only[A5,h',cond_true];rfl
  ·refine G2 ?_;refine O1 (D3 (p:=i) (q:=1) okC rfl rfl Om) ?_;refine G2 ?_;refine⟨hlt,SL,rfl,?_⟩;rw[hf,hd];simp only[A5,h',cond_false]
 ·have hge:l.length<=i:=gr;refine G6 ?_;refine B4 hw rfl ?_;rw[hf,ah_ hge];rfl
theorem byW(e):Ew.byref e=false:=rfl
def eB(n:Nat):List AV:=[.int .u8 (.ofNat n)]
theorem f286(l s σ)(hb:l.length<4611686018427387904):Cv 286 [slV eB 1 l,.int .u8 (.ofNat s)] σ (iV (A5 (fun x=>decide (Int.ofNat s=Int.ofNat x)) l 0)):=by
 refine Aj Tryz.func286 rfl rfl fun hw _=>?_
 refine G12 ?_;refine Bz l.length (fun i=>[(0,slV eB 1 l),(1,.int .u8 (.ofNat s)),(7,iV (.ofNat l.length)),(8,iV (.ofNat i))]) (fun i σ'=>σ'=σ/\A5 (fun x=>decide (Int.ofNat s=Int.ofNat x)) l 0=A5 (fun x=>decide (Int.ofNat s=Int.ofNat x)) (l.drop i) i) SL ⟨rfl,rfl⟩ ?_
 rintro i σ' hi ⟨rfl,hf⟩;refine G5 ?_;refine Ab rfl ?_ ?_<;>intro h
 ·have hlt:i<l.length:=gr;obtain⟨a,ha⟩:∃a,l[i]? =some a:=⟨_,az_ hlt⟩
  have hd:l.drop i=a::l.drop (i+1):=by
   obtain⟨h1,rfl⟩:=ae_.1 ha;exact bj_ h1
  iterate 17 refine G ?_
  refine Ab rfl (fun h'=>?_) (fun h'=>?_)
  ·refine G6 ?_;refine B4 hw rfl ?_;rw[hf,hd];simp only[A5,h',cond_true];rfl
  ·refine G2 ?_;refine O1 (D3 (p:=i) (q:=1) okC rfl rfl Om) ?_;refine G2 ?_;refine⟨hlt,SL,rfl,?_⟩;rw[hf,hd];simp only[A5,h',cond_false]
 ·have hge:l.length<=i:=gr;refine G6 ?_;refine B4 hw rfl ?_;rw[hf,ah_ hge];rfl
theorem f15(l s σ)(hb:l.length<4611686018427387904):Cv 15 [slV (fun s=>[sV s]) 1 l,sV s] σ (.bool (l.any fun x=>decide (s=x))):=by
 refine Aj Tryz.func15 rfl rfl fun hw _=>?_
 refine G8 ?_;refine Ca (f56 l s σ hb) ?_;refine G4 ?_;refine B4 hw rfl ?_;exact congrArg AV.bool (Gf l)
theorem f270(l s σ)(hb:l.length<4611686018427387904):Cv 270 [slV eB 1 l,.int .u8 (.ofNat s)] σ (.bool (l.any fun x=>decide (Int.ofNat s=Int.ofNat x))):=by
 refine Aj Tryz.func270 rfl rfl fun hw _=>?_
 refine G8 ?_;refine Ca (f286 l s σ hb) ?_;refine G4 ?_;refine B4 hw rfl ?_;exact congrArg AV.bool (Gf l)
def okB(perm:List Nat)(b:UInt8):Bool:=perm.any fun x=>decide (Int.ofNat (clsN b.toNat)=Int.ofNat x)
def Mq(perm:List Nat)(s:Str):Bool:= !(decide (s=[])||decide ((60:Int)<Int.ofNat s.length))&&s.all (okB perm)
theorem f244(s perm σ)(hb:perm.length<4611686018427387904):Cv 244 [sV s,slV eB 1 perm] σ (.bool (Mq perm s)):=by
 refine Aj Tryz.func244 rfl rfl fun hw _=>?_
 refine G10 ?_;refine TOr 3 ?_ (fun hg=>?_) ?_
 rotate_left
 ·iterate 3 refine Gn hg ?_
  exact Ez
 refine G ?_;refine Ab rfl ?_ ?_<;>intro h
 ·refine G5 ?_;refine B4 hw rfl ?_;rw[Mq,h];rfl
 ·refine G3 ?_;refine Ca (f269 σ) ?_;refine G10 ?_;refine Bz s.length (fun i=>[(0,sV s),(1,slV eB 1 perm),(5,.pv Cj),(16,iV (.ofNat s.length)),(17,iV (.ofNat i))]) (fun i σ'=>σ'=σ/\s.all (okB perm)=(s.drop i).all (okB perm)) SL ⟨rfl,rfl⟩ ?_
  rintro i σ' hi ⟨rfl,hf⟩;refine G5 ?_;refine Ab rfl ?_ ?_<;>intro h1
  ·have hlt:i<s.length:=gr;obtain⟨a,ha⟩:∃a,s[i]? =some a:=⟨_,az_ hlt⟩
   have hd:s.drop i=a::s.drop (i+1):=by
    obtain⟨h1,rfl⟩:=ae_.1 ha;exact bj_ h1
   iterate 13 refine G ?_
   refine O1 (Auh st9 rfl rfl ha) (O1 (Bp (n:=a.toNat) ar436 rfl rfl a.toNat_lt rfl) (O1 (Ac (v:=.int .u8 (.ofNat (clsN a.toNat))) ldC rfl rfl (by show Cz 1 false (Cj.drop (a.toNat*1))=_;rw[Apb];rfl)) ?_))
   refine Ca (f270 perm _ _ hb) ?_;refine G2 ?_;refine Ab rfl ?_ ?_<;>intro h2
   ·refine G5 ?_;refine B4 hw rfl ?_
    rw[Mq,h,hf,hd,cs_,show okB perm a=false by simpa[okB]using h2];rfl
   ·refine G2 ?_;refine O1 (D3 (p:=i) (q:=1) okC rfl rfl gr) ?_;refine G2 ?_;refine⟨hlt,SL,rfl,?_⟩
    rw[hf,hd,cs_,show okB perm a=true by simpa[okB]using h2];rfl
  ·have hge:s.length<=i:=gr;refine G6 ?_;refine B4 hw rfl ?_;rw[Mq,h,hf,ah_ hge];rfl
theorem f213(s σ):Cv 213 [sV s] σ (.bool (Mq [2] s)):=by
 refine Aj Tryz.func213 rfl rfl fun hw _=>?_
 refine G7 ?_;refine Cx (Ai elC byW rfl rfl rfl) (Dv (len:=1)) rfl rfl ?_
 refine Ca (f244 s [2] σ (by decide)) ?_
 refine G3 ?_;refine B4 hw rfl ?_;exact rfl
theorem f211(s σ):Cv 211 [sV s] σ (.bool (Mq [2,3] s)):=by
 refine Aj Tryz.func211 rfl rfl fun hw _=>?_
 refine G7 ?_;refine Cx (Ai elC byW rfl rfl rfl) (Dv (len:=2)) rfl rfl ?_
 refine Ca (f244 s [2,3] σ (by decide)) ?_
 refine G3 ?_;refine B4 hw rfl ?_;exact rfl
def X9(h:Hp):Bool:=decide ((60:Int)<Int.ofNat h.text.length)
def Arq(s:Str):Bool:=decide ((400:Int)<Int.ofNat s.length)
theorem f47(s σ):Cv 47 [sV s] σ (.bool (Arq s)):=by
 refine Aj Tryz.func47 rfl rfl fun hw _=>?_
 refine G12 ?_;refine B4 hw rfl ?_;exact rfl
theorem f44(h σ):Cv 44 [.agg (eH h)] σ (.bool (X9 h)):=by
 refine Aj Tryz.func44 rfl rfl fun hw _=>?_
 iterate 14 refine G ?_
 refine B4 hw rfl ?_;exact rfl
def bigF(words:Int)(f:Fr):Bool:=
 decide (words<Int.ofNat f.proof.length)||decide ((60:Int)<Int.ofNat f.text.length)||decide ((60:Int)<Int.ofNat f.hyps.length)||decide ((60:Int)<Int.ofNat f.dummies.length)||decide ((200:Int)<Int.ofNat f.apart.length)||
  decide ((300:Int)<Int.ofNat f.wide.length)||f.hyps.any X9||f.dummies.any X9||f.proof.any Arq
def W6(d:Db)(frames words:Int):Bool:=
 decide (Int.ofNat d.frames.length<=frames)&&decide (Int.ofNat d.consts.length<=(200:Int))&&decide (Int.ofNat d.vars.length<=(60:Int))&& !(d.frames.any (bigF words))
theorem f43(f words σ)(hw':words<1000000):Cv 43 [.agg (eF f),.pv [iV words]] σ (.bool (bigF words f)):=by
 refine Aj Tryz.func43 rfl rfl fun hw _=>?_
 iterate 17 refine G ?_
 refine TOr 4 ?_ (fun hg=>?_) ?_
 rotate_left
 ·iterate 4 refine Gn hg ?_
  exact Ez
 refine G ?_;refine TOr 4 ?_ (fun hg=>?_) ?_
 rotate_left
 ·iterate 4 refine Gn hg ?_
  exact Ez
 refine G ?_;refine TOr 4 ?_ (fun hg=>?_) ?_
 rotate_left
 ·iterate 4 refine Gn hg ?_
  exact Ez
 refine G ?_;refine TOr 4 ?_ (fun hg=>?_) ?_
 rotate_left
 ·iterate 4 refine Gn hg ?_
  exact Ez
 refine G ?_;refine TOr 4 ?_ (fun hg=>?_) ?_
 rotate_left
 ·iterate 4 refine Gn hg ?_
  exact Ez
 refine G ?_;refine TOr 4 ?_ (fun hg=>?_) ?_
 rotate_left
 ·iterate 3 refine Gn hg ?_
  refine Bh rfl rfl rfl (by rw[hg];rfl) rfl rfl rfl rfl (f45 X9 f.hyps 44 [] σ (by simp at hg;omega) (fun a _=>f44 a σ)) ?_
  exact Ez
 refine G ?_;refine TOr 4 ?_ (fun hg=>?_) ?_
 rotate_left
 ·iterate 3 refine Gn hg ?_
  refine Bh rfl rfl rfl (by rw[hg];rfl) rfl rfl rfl rfl (f45 X9 f.dummies 44 [] σ (by simp at hg;omega) (fun a _=>f44 a σ)) ?_
  exact Ez
 refine G ?_;refine TOr 3 ?_ (fun hg=>?_) ?_
 rotate_left
 ·iterate 2 refine Gn hg ?_
  refine Bh rfl rfl rfl (by rw[hg];rfl) rfl rfl rfl rfl (f46 Arq f.proof 47 [] σ (by simp at hg;omega) (fun a _=>f47 a σ)) ?_
  exact Ez
 refine G3 ?_;refine B4 hw rfl ?_;exact rfl
theorem f9(d frames words σ)(h1:frames<1000000)(h2:words<1000000):Cv 8 [dbV d,iV frames,iV words] σ (.bool (W6 d frames words)):=by
 refine Aj Tryz.func8 rfl rfl fun hw _=>?_
 refine G12 ?_;refine O1 (Hn okC rfl rfl) ?_;refine G ?_;refine TAn 4 ?_ (fun hg=>?_) ?_
 rotate_left
 ·iterate 3 refine Gn hg ?_
  refine On hg (Hn (q:=200) okC rfl rfl) ?_;exact Ez
 refine G ?_;refine TAn 4 ?_ (fun hg=>?_) ?_
 rotate_left
 ·iterate 3 refine Gn hg ?_
  refine On hg (Hn (q:=60) okC rfl rfl) ?_;exact Ez
 refine G ?_;refine TAn 5 ?_ (fun hg=>?_) ?_
 rotate_left
 ·iterate 3 refine Gn hg ?_
  refine Bh rfl rfl rfl (by rw[hg];rfl) rfl rfl rfl rfl (f42 (bigF words) d.frames 43 [.pv [iV words]] σ (by simp at hg;omega) (fun a _=>f43 a words σ h2)) ?_
  refine Gn hg ?_;exact Ez
 refine G3 ?_;refine B4 hw rfl ?_;exact rfl
structure Kn where
 consts:SM Bool
 vars:SM Bool
 frames:SM Bool
 hyps:SM Hp
 types:SM Str
def hV(h:Hp):AV:=.agg (eH h)
def knV(m:Nat):AV:=.pv [.mp m,.mp (m+1),.mp (m+2),.mp (m+3),.mp (m+4)]
structure Hj (σ:Sto)(m:Nat)(k:Kn):Prop where
 c:Fi σ m k.consts
 v:Fi σ (m+1) k.vars
 f:Fi σ (m+2) k.frames
 h:B8 hV σ (m+3) k.hyps
 t:B8 sV σ (m+4) k.types
def Kn.isSym(k:Kn)(s:Str):Bool:=k.consts.has s||k.vars.has s
theorem Aiz(m k s σ)(hk:Hj σ m k):Cv 212 [knV m,sV s] σ (.bool (k.isSym s)):=by
 refine Aj Tryz.func212 rfl rfl fun hw _=>?_
 refine G11 ?_;refine O1 (De st9 Cr rfl hk.c rfl) ?_;refine G ?_;refine TOr 6 ?_ (fun hg=>?_) ?_
 rotate_left
 ·iterate 5 refine Gn hg ?_
  refine On hg (De st9 Cr rfl hk.v rfl) ?_;exact Ez
 refine G3 ?_;refine B4 hw rfl ?_;exact rfl
theorem f246(m k s σ)(hk:Hj σ m k):Cv 246 [sV s,.pv [knV m]] σ (.bool (!k.isSym s)):=by
 refine Aj Tryz.func246 rfl rfl fun hw _=>?_
 refine G8 ?_;refine Ca (Aiz m k s _ hk) ?_;refine G4 ?_;refine B4 hw rfl ?_;exact rfl
def Kn.textF(k:Kn)(l:List Str):Int:=
 if l=[]∨(200:Int)<Int.ofNat l.length then 2 else if(!k.consts.has (l.headD [])||l.tail.any fun s=> !k.isSym s)then 12 else 0
theorem f216(m k l σ)(hk:Hj σ m k)(hb:l.length<4611686018427387904):Cv 216 [knV m,Af l] σ (iV (k.textF l)):=by
 refine Aj Tryz.func216 rfl rfl fun hw _=>?_
 iterate 13 refine G ?_
 refine TOr 3 ?_ (fun hg=>?_) ?_
 rotate_left
 ·iterate 3 refine Gn hg ?_
  exact Ez
 refine G2 ?_;refine Ab rfl ?_ ?_<;>intro h
 ·refine G5 ?_;refine B4 hw rfl ?_
  rw[Kn.textF,if_pos (by cases l with|nil=>exact .inl rfl|cons a r=>right;simp at h⊢;omega)];rfl
 ·obtain⟨a,r,rfl⟩:∃a r,l=a::r:=by cases l with|nil=>simp at h|cons a r=>exact⟨a,r,rfl⟩
  have hn:¬(a::r=[]∨(200:Int)<Int.ofNat (a::r).length):=gr
  refine Gg [(14,.bool (!k.consts.has a||r.any fun s=> !k.isSym s))] ?_ ?_
  ·rcases av_ (!k.consts.has a)with hg9|hg9
   ·refine XS (l:=[]) trivial ?_;refine G5 ?_;refine DF (A1 (i:=0) elC (fun _=>rfl) rfl rfl rfl) ?_
    refine G ?_;refine DF (De st9 Cr rfl hk.c rfl) ?_;refine G2 ?_
    refine Wx (w:=by simp[hg9]) ?_
    refine Wx (w:=by simp[hg9]) ?_
    refine Wx (w:=by simp[hg9]) ?_
    refine Ta (e:=true) rfl rfl rfl rfl (by simp[hg9]) rfl rfl ?_
    refine DF (A3 rfl (by simp[hg9]) rfl) ?_
    refine G2 ?_
    exact⟨⟨congrArg (fun b=>some (AV.bool b)) (by simp[hg9]),trivial⟩,sb,rfl⟩
   ·refine XS (l:=[(46,[Af r,.fn (.func 246) [] [.pv [knV m]]],σ,.bool (r.any fun s=> !k.isSym s),σ)]) ⟨f46 (fun s=> !k.isSym s) r 246 [.pv [knV m]] σ gr (fun s _=>f246 m k s σ hk),trivial⟩ ?_
    refine G5 ?_;refine DF (A1 (i:=0) elC (fun _=>rfl) rfl rfl rfl) ?_
    refine G ?_;refine DF (De st9 Cr rfl hk.c rfl) ?_;refine G2 ?_
    refine Wn (w:=by simp[hg9]) (Ag rfl) ?_
    refine Wn (w:=by simp[hg9]) (Uu (a:=1) elC (fun _=>rfl) rfl rfl (by simp)) ?_
    refine Wn (w:=by simp[hg9]) (Amh rfl rfl) ?_
    refine Qi (e:=true) rfl rfl rfl rfl (by simp[hg9]) rfl rfl (Bq rfl rfl Bv) ?_
    refine DF (Au rfl (by simp[hg9]) rfl) ?_
    refine G2 ?_
    exact⟨⟨congrArg (fun b=>some (AV.bool b)) (by simp[hg9]),trivial⟩,sb,rfl⟩
  refine Ab rfl ?_ ?_<;>intro h
  ·refine G5 ?_;refine B4 hw rfl ?_;rw[Kn.textF,if_neg hn,if_pos gr];rfl
  ·refine G6 ?_;refine B4 hw rfl ?_;rw[Kn.textF,if_neg hn,if_neg gr];rfl
def Ai0(m:Nat)(σ σ':Sto):Prop:=nx σ'=nx σ/\∀b,b<m∨m+5<=b->σ'.get b=σ.get b
theorem Ai0.refl{m σ}:Ai0 m σ σ:=⟨rfl,fun _ _=>rfl⟩
theorem Ai0.set{m a σ σ' o}(h:Ai0 m σ σ')(h1:m<=a)(h2:a<m+5):Ai0 m σ (σ'.set a o):=
 ⟨by rw[Aq];exact h.1,fun b hb=>by rw[aa_,if_neg Om];exact h.2 b hb⟩
def L8(s:Str):Bool:=Mq [2,3] s
def Qp:List Str->Kn->Int×Kn
 |[],k=>(0,k)
 |c::r,k=>cond (!L8 c) (2,k) (cond (k.consts.has c) (6,k) (Qp r { k with consts:=k.consts.put c true }))
def Sf:List Str->Kn->Int×Kn
 |[],k=>(0,k)
 |c::r,k=>cond (!L8 c) (2,k) (cond (k.isSym c) (6,k) (Sf r { k with vars:=k.vars.put c true }))
def K8(d:Db)(k:Kn):Int×Kn:=if(Qp d.consts k).1=0 then Sf d.vars (Qp d.consts k).2 else Qp d.consts k
theorem A4{α:Type}{l:List α}{i a}(ha:l[i]? =some a):l.drop i=a::l.drop (i+1):=by
 obtain⟨h1,rfl⟩:=ae_.1 ha;exact bj_ h1
theorem Ar{α:Type}{l:List α}{i}(h:i<l.length):∃a,l[i]? =some a:=⟨_,az_ h⟩
theorem f175(m k d σ)(hk:Hj σ m k)(hb:d.consts.length<4611686018427387904)(hb2:d.vars.length<4611686018427387904):Al Ew 175 [knV m,dbV d] σ fun v σ'=>v=iV (K8 d k).1/\Ai0 m σ σ'/\Hj σ' m (K8 d k).2:=by
 refine Aj Tryz.func175 rfl rfl fun hw hu0=>?_
 iterate 14 refine G ?_
 refine Bz d.consts.length (fun i0=>[(0,knV m),(3,.pv [Af d.consts,Af d.vars,slV eF 8 d.frames]),(10,Af d.consts),(11,iV (.ofNat d.consts.length)),(12,iV (.ofNat i0))]) (fun i0 σ0=>∃ki,Ai0 m σ σ0/\Hj σ0 m ki/\Qp d.consts k=Qp (d.consts.drop i0) ki) SL ⟨k,.refl,hk,rfl⟩ ?_
 rintro i0 σ0 hi0 ⟨k0,hu0,hk0,hf0⟩;refine G5 ?_;refine Ab rfl ?_ ?_<;>intro h1
 ·have bc:i0<d.consts.length:=by simpa using h1
  obtain⟨a0,ha0⟩:=Ar bc;have hd0:=A4 ha0;obtain⟨ver0,me⟩:=hk0.c
  iterate 13 refine G ?_
  refine Ca (f211 a0 _) ?_;refine G2 ?_;refine Ab rfl ?_ ?_<;>intro h2
  ·refine G4 ?_;refine Bo fun hw'=>?_
   refine G ?_
   exact⟨_,rfl,_,_,a_ hw' nl (fun _ _=>rfl),by rw[hu0.1];exact nl,.same rfl,by rw[K8,hf0,hd0,Qp,L8,h2];rfl,hu0,by rw[K8,hf0,hd0,Qp,L8,h2];exact hk0⟩
  ·refine G9 ?_;refine O1 (De st9 Cr rfl hk0.c rfl) ?_;refine G ?_;refine Ab rfl ?_ ?_<;>intro h3
   ·refine G4 ?_;refine Bo fun hw'=>?_
    refine G ?_
    exact⟨_,rfl,_,_,a_ hw' nl (fun _ _=>rfl),by rw[hu0.1];exact nl,.same rfl,by rw[K8,hf0,hd0,Qp,L8,h2,h3];rfl,hu0,by rw[K8,hf0,hd0,Qp,L8,h2,h3];exact hk0⟩
   ·refine G7 ?_
    refine O1 (Gh (v:=true) st9 Cr rfl me rfl rfl (fun te k1 k2=>by first|exact I0 k1 k2|exact I1 k1 k2|exact I2 k1 k2|exact Jn k1 k2|exact H6 k1 k2 rfl)) ?_
    refine G5 ?_
    refine⟨bc,SL,{ k0 with consts:=k0.consts.put a0 true },hu0.set Om Om,⟨.put,hk0.v.set Om,hk0.f.set Om,hk0.h.set Om,hk0.t.set Om⟩,by rw[hf0,hd0,Qp,L8,h2,h3];rfl⟩
 ·have bj:d.consts.length<=i0:=by simpa using h1
  have hs:K8 d k=Sf d.vars k0:=by rw[K8,hf0,ah_ bj];rfl
  refine G10 ?_;refine Bz d.vars.length (fun i2=>[(0,knV m),(32,Af d.vars),(33,iV (.ofNat d.vars.length)),(34,iV (.ofNat i2))]) (fun i2 σ2=>∃ki,Ai0 m σ σ2/\Hj σ2 m ki/\Sf d.vars k0=Sf (d.vars.drop i2) ki) SL ⟨k0,hu0,hk0,rfl⟩ ?_
  rintro i2 σ2 hi2 ⟨k2,hu2,hk2,hf2⟩;refine G5 ?_;refine Ab rfl ?_ ?_<;>intro h2
  ·have bv:i2<d.vars.length:=by simpa using h2
   obtain⟨a2,ha2⟩:=Ar bv;have hd2:=A4 ha2;obtain⟨ver2,mi⟩:=hk2.v
   iterate 13 refine G ?_
   refine Ca (f211 a2 _) ?_;refine G2 ?_;refine Ab rfl ?_ ?_<;>intro h3
   ·refine G4 ?_;refine Bo fun hw'=>?_
    refine G ?_
    exact⟨_,rfl,_,_,a_ hw' nl (fun _ _=>rfl),by rw[hu2.1];exact nl,.same rfl,by rw[hs,hf2,hd2,Sf,L8,h3];rfl,hu2,by rw[hs,hf2,hd2,Sf,L8,h3];exact hk2⟩
   ·refine G6 ?_;refine Ca (Aiz m k2 a2 _ hk2) ?_;refine G ?_;refine Ab rfl ?_ ?_<;>intro h4
    ·refine G4 ?_;refine Bo fun hw'=>?_
     refine G ?_
     exact⟨_,rfl,_,_,a_ hw' nl (fun _ _=>rfl),by rw[hu2.1];exact nl,.same rfl,by rw[hs,hf2,hd2,Sf,L8,h3,h4];rfl,hu2,by rw[hs,hf2,hd2,Sf,L8,h3,h4];exact hk2⟩
    ·refine G7 ?_
     refine O1 (Gh (v:=true) st9 Cr rfl mi rfl rfl (fun te k1 k2=>by first|exact I0 k1 k2|exact I1 k1 k2|exact I2 k1 k2|exact Jn k1 k2|exact H6 k1 k2 rfl)) ?_
     refine G5 ?_
     refine⟨bv,SL,{ k2 with vars:=k2.vars.put a2 true },hu2.set Om Om,⟨hk2.c.set Om,.put,hk2.f.set Om,hk2.h.set Om,hk2.t.set Om⟩,by rw[hf2,hd2,Sf,L8,h3,h4];rfl⟩
  ·have ba:d.vars.length<=i2:=by simpa using h2
   refine G5 ?_;refine Bo fun hw'=>?_
   refine G ?_
   exact⟨_,rfl,_,_,a_ hw' nl (fun _ _=>rfl),by rw[hu2.1];exact nl,.same rfl,by rw[hs,hf2,ah_ ba];rfl,hu2,by rw[hs,hf2,ah_ ba];exact hk2⟩
theorem bo4:Zv Ew.P 4=true:=Kr
theorem Fw{α:Type}{l:List α}{i a}(ha:l[i]? =some a):l.take (i+1)=l.take i++[a]:=by rw[List.take_add_one,ha];rfl
theorem keyP(p):D4 Ew.P 274 (.agg (eP p))=some (.agg [kS p.a,kS p.b]):=Kr
theorem Am4(p q:Pr):Key.eq (.agg [kS p.a,kS p.b]) (.agg [kS q.a,kS q.b])=decide (p=q):=by
 show cond (Key.eq (kS p.a) (kS q.a)) (cond (Key.eq (kS p.b) (kS q.b)) true false) false=_
 rw[Abl,Abl];obtain⟨a,b⟩:=p;obtain⟨c,d⟩:=q
 grind
theorem f49(l m σ)(hb:m.length<4611686018427387904):Cv 49 [Af l,Af m] σ (.bool (decide (l=m))):=by
 refine Aj Tryz.func49 rfl rfl fun hw hu0=>?_
 iterate 13 refine G ?_
 refine Ab rfl ?_ ?_<;>intro h1
 ·refine G5 ?_;refine B4 hw rfl ?_;exact congrArg AV.bool (decide_eq_false gr).symm
 ·have bl:l.length=m.length:=gr;refine G9 ?_;refine Bz l.length (fun i0=>[(0,Af l),(1,Af m),(12,iV (.ofNat l.length)),(13,iV (.ofNat i0))]) (fun i0 σ0=>σ0=σ/\l.take i0=m.take i0) SL ⟨rfl,rfl⟩ ?_
  rintro i0 σ0 hi0 ⟨rfl,hf0⟩;refine G5 ?_;refine Ab rfl ?_ ?_<;>intro h2
  ·have bc:i0<l.length:=gr;obtain⟨a0,ha0⟩:=Ar bc;have hd0:=A4 ha0
   obtain⟨b,hb0⟩:=Ar (show i0<m.length by omega)
   refine G9 ?_;refine X0 ?_;refine G8 ?_;refine DF (Ko okC rfl rfl) ?_;refine G ?_;refine⟨rfl,rfl,?_⟩;refine Ab rfl ?_ ?_<;>intro h3
   ·refine G5 ?_;refine B4 hw rfl ?_;exact congrArg AV.bool (decide_eq_false gr).symm
   ·refine G5 ?_
    refine⟨bc,SL,rfl,(have h4:a0=b:=gr;by rw[Fw ha0,Fw hb0,hf0,h4])⟩
  ·have bj:l.length<=i0:=gr;refine G6 ?_;refine B4 hw rfl ?_;exact congrArg AV.bool (decide_eq_true gr).symm
theorem f250(l m σ)(hb:m.length<4611686018427387904):Cv 250 [slV eP 2 l,slV eP 2 m] σ (.bool (decide (l=m))):=by
 refine Aj Tryz.func250 rfl rfl fun hw hu0=>?_
 iterate 13 refine G ?_
 refine Ab rfl ?_ ?_<;>intro h1
 ·refine G5 ?_;refine B4 hw rfl ?_;exact congrArg AV.bool (decide_eq_false gr).symm
 ·have bl:l.length=m.length:=gr;refine G9 ?_;refine Bz l.length (fun i0=>[(0,slV eP 2 l),(1,slV eP 2 m),(12,iV (.ofNat l.length)),(13,iV (.ofNat i0))]) (fun i0 σ0=>σ0=σ/\l.take i0=m.take i0) SL ⟨rfl,rfl⟩ ?_
  rintro i0 σ0 hi0 ⟨rfl,hf0⟩;refine G5 ?_;refine Ab rfl ?_ ?_<;>intro h2
  ·have bc:i0<l.length:=gr;obtain⟨a0,ha0⟩:=Ar bc;have hd0:=A4 ha0
   obtain⟨b,hb0⟩:=Ar (show i0<m.length by omega)
   refine G9 ?_;refine X0 ?_;refine G8 ?_;refine DF (Aw3 okC rfl rfl rfl rfl (keyP a0) (keyP b)) ?_;refine G ?_;refine⟨rfl,rfl,?_⟩;refine Ab rfl ?_ ?_<;>intro h3
   ·refine G5 ?_;refine B4 hw rfl ?_
    exact congrArg AV.bool (decide_eq_false (fun hh=>by
     have h4:a0≠b:=(by rw[Am4]at h3;simpa using h3)
     grind)).symm
   ·refine G5 ?_
    refine⟨bc,SL,rfl,(have h4:a0=b:=(by rw[Am4]at h3;simpa using h3);by rw[Fw ha0,Fw hb0,hf0,h4])⟩
  ·have bj:l.length<=i0:=gr;refine G6 ?_;refine B4 hw rfl ?_;exact congrArg AV.bool (decide_eq_true gr).symm
def Am5(a b:Hp):Bool:=decide (a.label=b.label)&&(a.floating==b.floating)&&decide (a.text=b.text)
theorem f181(a b σ)(hb:b.text.length<4611686018427387904):Cv 181 [.agg (eH a),.agg (eH b)] σ (.bool (Am5 a b)):=by
 refine Aj Tryz.func181 rfl rfl fun hw hu0=>?_
 iterate 14 refine G ?_
 refine TAn 5 ?_ (fun hg=>?_) ?_
 rotate_left
 ·iterate 4 refine Gn hg ?_
  refine On hg (Aw2 bo4 rfl rfl) ?_;exact Ez
 refine G ?_;refine TAn 5 ?_ (fun hg=>?_) ?_
 rotate_left
 ·iterate 4 refine Gn hg ?_
  refine Bh rfl rfl rfl (by rw[hg];rfl) rfl rfl rfl rfl (f49 a.text b.text _ hb) ?_
  exact Ez
 refine G3 ?_;refine B4 hw rfl ?_;exact rfl
theorem f227(l σ)(hb:l.length<1000000):Cv 227 [Af l] σ (Af l):=by
 refine Aj Tryz.func227 rfl rfl fun hw hu0=>?_
 refine G8 ?_;refine Abi slC rfl rfl fun b hbn=>?_
 refine G ?_;refine Ab rfl ?_ ?_<;>intro h1
 ·refine G4 ?_;obtain rfl:=ce_ (hbn h1);refine G ?_;exact⟨_,rfl,Af [],σ,a_ hw nl (fun _ _=>rfl),nl,Ex,rfl,rfl⟩
 ·refine G3 ?_
  obtain⟨v,τ,c5,bf,cb,_⟩:=ex_ (enc:=fun s:Str=>[sV s]) (sz:=1) (l:=([]:List Str)) (by':=16) (N:=nx σ) (fun s=>rfl) nl (Own.emp (enc:=fun s:Str=>[sV s]) (sz:=1)) l (by simp[sizeLim];omega)
  refine O1 (Ai elC byW rfl rfl rfl) ?_;refine G ?_;refine O1 (Av elC rfl slC rfl rfl rfl (X7 (enc:=fun s:Str=>[sV s]) (sz:=1) (fun _=>rfl) _ l) c5) ?_
  refine G3 ?_;exact⟨_,rfl,Af l,σ,am_ hw cb,nl,bf.fz (fun _=>rfl) (fun a ha=>hw.none ha) (A2 (fun _=>rfl) l),rfl,rfl⟩
theorem f224(l σ)(hb:l.length<1000000):Al Ew 224 [slV eH 3 l] σ fun v σ'=>Own σ' (nx σ) eH 3 l v/\Below (nx σ) σ σ':=by
 refine Aj Tryz.func224 rfl rfl fun hw hu0=>?_
 refine G8 ?_;refine Abi slC rfl rfl fun b hbn=>?_
 refine G ?_;refine Ab rfl ?_ ?_<;>intro h1
 ·refine G4 ?_;obtain rfl:=ce_ (hbn h1);refine G ?_;exact⟨_,rfl,_,σ,a_ hw nl (fun _ _=>rfl),nl,.same rfl,.nil,.rfl'⟩
 ·refine G3 ?_
  obtain⟨v,τ,c5,bf,cb,_⟩:=ex_ (enc:=eH) (sz:=3) (l:=([]:List Hp)) (by':=48) (N:=nx σ) (fun s=>rfl) nl (Own.emp (enc:=eH) (sz:=3)) l (by simp[sizeLim];omega)
  refine O1 (Ai elC byW rfl rfl rfl) ?_;refine G ?_;refine O1 (Av elC rfl slC rfl rfl rfl (X7 (enc:=eH) (sz:=3) (fun _=>rfl) _ l) c5) ?_
  refine G2 ?_;refine Bo fun hw'=>Av4 (i:=2) rfl fun hu=>?_
  refine G ?_;exact⟨_,rfl,_,_,a_ hw' nl (fun _ _=>rfl),cb.1,.same hu,bf,cb⟩
theorem f273(l σ)(hb:l.length<1000000):Al Ew 273 [slV eP 2 l] σ fun v σ'=>Own σ' (nx σ) eP 2 l v/\Below (nx σ) σ σ':=by
 refine Aj Tryz.func273 rfl rfl fun hw hu0=>?_
 refine G8 ?_;refine Abi slC rfl rfl fun b hbn=>?_
 refine G ?_;refine Ab rfl ?_ ?_<;>intro h1
 ·refine G4 ?_;obtain rfl:=ce_ (hbn h1);refine G ?_;exact⟨_,rfl,_,σ,a_ hw nl (fun _ _=>rfl),nl,.same rfl,.nil,.rfl'⟩
 ·refine G3 ?_
  obtain⟨v,τ,c5,bf,cb,_⟩:=ex_ (enc:=eP) (sz:=2) (l:=([]:List Pr)) (by':=32) (N:=nx σ) (fun s=>rfl) nl (Own.emp (enc:=eP) (sz:=2)) l (by simp[sizeLim];omega)
  refine O1 (Ai elC byW rfl rfl rfl) ?_;refine G ?_;refine O1 (Av elC rfl slC rfl rfl rfl (X7 (enc:=eP) (sz:=2) (fun _=>rfl) _ l) c5) ?_
  refine G2 ?_;refine Bo fun hw'=>Av4 (i:=2) rfl fun hu=>?_
  refine G ?_;exact⟨_,rfl,_,_,a_ hw' nl (fun _ _=>rfl),cb.1,.same hu,bf,cb⟩
end Go.AM
