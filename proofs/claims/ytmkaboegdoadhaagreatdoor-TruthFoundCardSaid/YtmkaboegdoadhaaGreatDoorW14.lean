/- A part. -/
import Derived.Test.YtmkaboegdoadhaaGreatDoorW07
set_option maxRecDepth 100000
set_option maxHeartbeats 4000000
set_option linter.unusedSimpArgs false
set_option linter.unusedVariables false
namespace Go.AM
open Go Go.Proofs
theorem f16(p l k cap J)(hb:l.length<4611686018427387904)(hk:∀a∈l,Al Ew k ([.agg (eF a)]++cap) J fun v J'=>v=.bool (p a)/\J'=J):
  Cv 16 [slV eF 8 l,.fn (.func k) [] cap] J (iV (A5 p l 0)):=by
 refine Aj Tryz.func16 rfl rfl fun hw hu=>?_
 refine G12 ?_;refine Bz l.length (fun i=>[(0,slV eF 8 l),(1,.fn (.func k) [] cap),(7,iV (.ofNat l.length)),(8,iV (.ofNat i))]) (fun i J'=>J'=J/\A5 p l 0=A5 p (l.drop i) i) SL ⟨rfl,rfl⟩ ?_
 rintro i J' hi ⟨rfl,hf⟩;refine G5 ?_;refine Ab rfl ?_ ?_<;>intro h
 ·have hlt:i<l.length:=by simpa using h
  obtain⟨a,ha⟩:∃a,l[i]? =some a:=⟨_,az_ hlt⟩
  have hd:l.drop i=a::l.drop (i+1):=by
   obtain⟨h1,rfl⟩:=ae_.1 ha;exact bj_ h1
  iterate 14 refine G ?_
  refine O1 (Ac ldC rfl rfl (A6 ((fun _=>rfl:∀a,(eF a).length=8) a) _)) ?_
  refine Az rfl rfl rfl rfl (hk a (ab_ ha)) ?_;rintro _ _ ⟨rfl,rfl⟩;refine G ?_;refine Ab rfl (fun h'=>?_) (fun h'=>?_)
  ·refine G6 ?_;refine⟨_,rfl,iV (.ofNat i),_,a_ hw nl (fun _ _=>rfl),nl,.same rfl,?_,rfl⟩
   rw[hf,hd];simp only[A5,h',cond_true]
  ·refine G2 ?_;refine O1 (D3 (p:=i) (q:=1) okC rfl rfl Om) ?_;refine G2 ?_;refine⟨hlt,SL,rfl,?_⟩;rw[hf,hd];simp only[A5,h',cond_false]
 ·have hge:l.length<=i:=by simpa using h
  refine G6 ?_;refine⟨_,rfl,iV (-1),_,a_ hw nl (fun _ _=>rfl),nl,.same rfl,?_,rfl⟩
  rw[hf,ah_ hge];rfl
theorem f42(p l k cap J)(hb:l.length<4611686018427387904)(hk:∀a∈l,Al Ew k ([.agg (eF a)]++cap) J fun v J'=>v=.bool (p a)/\J'=J):
  Cv 42 [slV eF 8 l,.fn (.func k) [] cap] J (.bool (l.any p)):=by
 refine Aj Tryz.func42 rfl rfl fun hw _=>?_
 refine G8 ?_;refine Az rfl rfl rfl rfl (f16 p l k cap J hb hk) ?_;rintro _ _ ⟨rfl,rfl⟩;refine G4 ?_;refine B4 hw rfl ?_;exact congrArg AV.bool (Gf l)
theorem f98(p l k cap J)(hb:l.length<4611686018427387904)(hk:∀a∈l,Al Ew k ([.agg (eH a)]++cap) J fun v J'=>v=.bool (p a)/\J'=J):
  Cv 98 [slV eH 3 l,.fn (.func k) [] cap] J (iV (A5 p l 0)):=by
 refine Aj Tryz.func98 rfl rfl fun hw hu=>?_
 refine G12 ?_;refine Bz l.length (fun i=>[(0,slV eH 3 l),(1,.fn (.func k) [] cap),(7,iV (.ofNat l.length)),(8,iV (.ofNat i))]) (fun i J'=>J'=J/\A5 p l 0=A5 p (l.drop i) i) SL ⟨rfl,rfl⟩ ?_
 rintro i J' hi ⟨rfl,hf⟩;refine G5 ?_;refine Ab rfl ?_ ?_<;>intro h
 ·have hlt:i<l.length:=by simpa using h
  obtain⟨a,ha⟩:∃a,l[i]? =some a:=⟨_,az_ hlt⟩
  have hd:l.drop i=a::l.drop (i+1):=by
   obtain⟨h1,rfl⟩:=ae_.1 ha;exact bj_ h1
  iterate 14 refine G ?_
  refine O1 (Ac ldC rfl rfl (A6 ((fun _=>rfl:∀a,(eH a).length=3) a) _)) ?_
  refine Az rfl rfl rfl rfl (hk a (ab_ ha)) ?_;rintro _ _ ⟨rfl,rfl⟩;refine G ?_;refine Ab rfl (fun h'=>?_) (fun h'=>?_)
  ·refine G6 ?_;refine⟨_,rfl,iV (.ofNat i),_,a_ hw nl (fun _ _=>rfl),nl,.same rfl,?_,rfl⟩
   rw[hf,hd];simp only[A5,h',cond_true]
  ·refine G2 ?_;refine O1 (D3 (p:=i) (q:=1) okC rfl rfl Om) ?_;refine G2 ?_;refine⟨hlt,SL,rfl,?_⟩;rw[hf,hd];simp only[A5,h',cond_false]
 ·have hge:l.length<=i:=by simpa using h
  refine G6 ?_;refine⟨_,rfl,iV (-1),_,a_ hw nl (fun _ _=>rfl),nl,.same rfl,?_,rfl⟩
  rw[hf,ah_ hge];rfl
theorem f45(p l k cap J)(hb:l.length<4611686018427387904)(hk:∀a∈l,Al Ew k ([.agg (eH a)]++cap) J fun v J'=>v=.bool (p a)/\J'=J):
  Cv 45 [slV eH 3 l,.fn (.func k) [] cap] J (.bool (l.any p)):=by
 refine Aj Tryz.func45 rfl rfl fun hw _=>?_
 refine G8 ?_;refine Az rfl rfl rfl rfl (f98 p l k cap J hb hk) ?_;rintro _ _ ⟨rfl,rfl⟩;refine G4 ?_;refine B4 hw rfl ?_;exact congrArg AV.bool (Gf l)
theorem f99(p l k cap J)(hb:l.length<4611686018427387904)(hk:∀a∈l,Al Ew k ([sV a]++cap) J fun v J'=>v=.bool (p a)/\J'=J):
  Cv 99 [slV (fun s=>[sV s]) 1 l,.fn (.func k) [] cap] J (iV (A5 p l 0)):=by
 refine Aj Tryz.func99 rfl rfl fun hw hu=>?_
 refine G12 ?_;refine Bz l.length (fun i=>[(0,slV (fun s=>[sV s]) 1 l),(1,.fn (.func k) [] cap),(7,iV (.ofNat l.length)),(8,iV (.ofNat i))]) (fun i J'=>J'=J/\A5 p l 0=A5 p (l.drop i) i) SL ⟨rfl,rfl⟩ ?_
 rintro i J' hi ⟨rfl,hf⟩;refine G5 ?_;refine Ab rfl ?_ ?_<;>intro h
 ·have hlt:i<l.length:=by simpa using h
  obtain⟨a,ha⟩:∃a,l[i]? =some a:=⟨_,az_ hlt⟩
  have hd:l.drop i=a::l.drop (i+1):=by
   obtain⟨h1,rfl⟩:=ae_.1 ha;exact bj_ h1
  iterate 15 refine G ?_
  refine Az rfl rfl rfl rfl (hk a (ab_ ha)) ?_;rintro _ _ ⟨rfl,rfl⟩;refine G ?_;refine Ab rfl (fun h'=>?_) (fun h'=>?_)
  ·refine G6 ?_;refine⟨_,rfl,iV (.ofNat i),_,a_ hw nl (fun _ _=>rfl),nl,.same rfl,?_,rfl⟩
   rw[hf,hd];simp only[A5,h',cond_true]
  ·refine G2 ?_;refine O1 (D3 (p:=i) (q:=1) okC rfl rfl Om) ?_;refine G2 ?_;refine⟨hlt,SL,rfl,?_⟩;rw[hf,hd];simp only[A5,h',cond_false]
 ·have hge:l.length<=i:=by simpa using h
  refine G6 ?_;refine⟨_,rfl,iV (-1),_,a_ hw nl (fun _ _=>rfl),nl,.same rfl,?_,rfl⟩
  rw[hf,ah_ hge];rfl
theorem f46(p l k cap J)(hb:l.length<4611686018427387904)(hk:∀a∈l,Al Ew k ([sV a]++cap) J fun v J'=>v=.bool (p a)/\J'=J):
  Cv 46 [slV (fun s=>[sV s]) 1 l,.fn (.func k) [] cap] J (.bool (l.any p)):=by
 refine Aj Tryz.func46 rfl rfl fun hw _=>?_
 refine G8 ?_;refine Az rfl rfl rfl rfl (f99 p l k cap J hb hk) ?_;rintro _ _ ⟨rfl,rfl⟩;refine G4 ?_;refine B4 hw rfl ?_;exact congrArg AV.bool (Gf l)
theorem f161(p l k cap J)(hb:l.length<4611686018427387904)(hk:∀a∈l,Al Ew k ([.agg (eR a)]++cap) J fun v J'=>v=.bool (p a)/\J'=J):
  Cv 161 [slV eR 4 l,.fn (.func k) [] cap] J (iV (A5 p l 0)):=by
 refine Aj Tryz.func161 rfl rfl fun hw hu=>?_
 refine G12 ?_;refine Bz l.length (fun i=>[(0,slV eR 4 l),(1,.fn (.func k) [] cap),(7,iV (.ofNat l.length)),(8,iV (.ofNat i))]) (fun i J'=>J'=J/\A5 p l 0=A5 p (l.drop i) i) SL ⟨rfl,rfl⟩ ?_
 rintro i J' hi ⟨rfl,hf⟩;refine G5 ?_;refine Ab rfl ?_ ?_<;>intro h
 ·have hlt:i<l.length:=by simpa using h
  obtain⟨a,ha⟩:∃a,l[i]? =some a:=⟨_,az_ hlt⟩
  have hd:l.drop i=a::l.drop (i+1):=by
   obtain⟨h1,rfl⟩:=ae_.1 ha;exact bj_ h1
  iterate 14 refine G ?_
  refine O1 (Ac ldC rfl rfl (A6 ((fun _=>rfl:∀a,(eR a).length=4) a) _)) ?_
  refine Az rfl rfl rfl rfl (hk a (ab_ ha)) ?_;rintro _ _ ⟨rfl,rfl⟩;refine G ?_;refine Ab rfl (fun h'=>?_) (fun h'=>?_)
  ·refine G6 ?_;refine⟨_,rfl,iV (.ofNat i),_,a_ hw nl (fun _ _=>rfl),nl,.same rfl,?_,rfl⟩
   rw[hf,hd];simp only[A5,h',cond_true]
  ·refine G2 ?_;refine O1 (D3 (p:=i) (q:=1) okC rfl rfl Om) ?_;refine G2 ?_;refine⟨hlt,SL,rfl,?_⟩;rw[hf,hd];simp only[A5,h',cond_false]
 ·have hge:l.length<=i:=by simpa using h
  refine G6 ?_;refine⟨_,rfl,iV (-1),_,a_ hw nl (fun _ _=>rfl),nl,.same rfl,?_,rfl⟩
  rw[hf,ah_ hge];rfl
theorem f148(p l k cap J)(hb:l.length<4611686018427387904)(hk:∀a∈l,Al Ew k ([.agg (eR a)]++cap) J fun v J'=>v=.bool (p a)/\J'=J):
  Cv 148 [slV eR 4 l,.fn (.func k) [] cap] J (.bool (l.any p)):=by
 refine Aj Tryz.func148 rfl rfl fun hw _=>?_
 refine G8 ?_;refine Az rfl rfl rfl rfl (f161 p l k cap J hb hk) ?_;rintro _ _ ⟨rfl,rfl⟩;refine G4 ?_;refine B4 hw rfl ?_;exact congrArg AV.bool (Gf l)
theorem f228(p l k cap J)(hb:l.length<4611686018427387904)(hk:∀a∈l,Al Ew k ([.agg (ePt a)]++cap) J fun v J'=>v=.bool (p a)/\J'=J):
  Cv 228 [slV ePt 3 l,.fn (.func k) [] cap] J (iV (A5 p l 0)):=by
 refine Aj Tryz.func228 rfl rfl fun hw hu=>?_
 refine G12 ?_;refine Bz l.length (fun i=>[(0,slV ePt 3 l),(1,.fn (.func k) [] cap),(7,iV (.ofNat l.length)),(8,iV (.ofNat i))]) (fun i J'=>J'=J/\A5 p l 0=A5 p (l.drop i) i) SL ⟨rfl,rfl⟩ ?_
 rintro i J' hi ⟨rfl,hf⟩;refine G5 ?_;refine Ab rfl ?_ ?_<;>intro h
 ·have hlt:i<l.length:=by simpa using h
  obtain⟨a,ha⟩:∃a,l[i]? =some a:=⟨_,az_ hlt⟩
  have hd:l.drop i=a::l.drop (i+1):=by
   obtain⟨h1,rfl⟩:=ae_.1 ha;exact bj_ h1
  iterate 14 refine G ?_
  refine O1 (Ac ldC rfl rfl (A6 ((fun _=>rfl:∀a,(ePt a).length=3) a) _)) ?_
  refine Az rfl rfl rfl rfl (hk a (ab_ ha)) ?_;rintro _ _ ⟨rfl,rfl⟩;refine G ?_;refine Ab rfl (fun h'=>?_) (fun h'=>?_)
  ·refine G6 ?_;refine⟨_,rfl,iV (.ofNat i),_,a_ hw nl (fun _ _=>rfl),nl,.same rfl,?_,rfl⟩
   rw[hf,hd];simp only[A5,h',cond_true]
  ·refine G2 ?_;refine O1 (D3 (p:=i) (q:=1) okC rfl rfl Om) ?_;refine G2 ?_;refine⟨hlt,SL,rfl,?_⟩;rw[hf,hd];simp only[A5,h',cond_false]
 ·have hge:l.length<=i:=by simpa using h
  refine G6 ?_;refine⟨_,rfl,iV (-1),_,a_ hw nl (fun _ _=>rfl),nl,.same rfl,?_,rfl⟩
  rw[hf,ah_ hge];rfl
theorem f182(p l k cap J)(hb:l.length<4611686018427387904)(hk:∀a∈l,Al Ew k ([.agg (ePt a)]++cap) J fun v J'=>v=.bool (p a)/\J'=J):
  Cv 182 [slV ePt 3 l,.fn (.func k) [] cap] J (.bool (l.any p)):=by
 refine Aj Tryz.func182 rfl rfl fun hw _=>?_
 refine G8 ?_;refine Az rfl rfl rfl rfl (f228 p l k cap J hb hk) ?_;rintro _ _ ⟨rfl,rfl⟩;refine G4 ?_;refine B4 hw rfl ?_;exact congrArg AV.bool (Gf l)
theorem f288(p l k cap J)(hb:l.length<4611686018427387904)(hk:∀a∈l,Al Ew k ([.agg (eP a)]++cap) J fun v J'=>v=.bool (p a)/\J'=J):
  Cv 288 [slV eP 2 l,.fn (.func k) [] cap] J (iV (A5 p l 0)):=by
 refine Aj Tryz.func288 rfl rfl fun hw hu=>?_
 refine G12 ?_;refine Bz l.length (fun i=>[(0,slV eP 2 l),(1,.fn (.func k) [] cap),(7,iV (.ofNat l.length)),(8,iV (.ofNat i))]) (fun i J'=>J'=J/\A5 p l 0=A5 p (l.drop i) i) SL ⟨rfl,rfl⟩ ?_
 rintro i J' hi ⟨rfl,hf⟩;refine G5 ?_;refine Ab rfl ?_ ?_<;>intro h
 ·have hlt:i<l.length:=by simpa using h
  obtain⟨a,ha⟩:∃a,l[i]? =some a:=⟨_,az_ hlt⟩
  have hd:l.drop i=a::l.drop (i+1):=by
   obtain⟨h1,rfl⟩:=ae_.1 ha;exact bj_ h1
  iterate 14 refine G ?_
  refine O1 (Ac ldC rfl rfl (A6 ((fun _=>rfl:∀a,(eP a).length=2) a) _)) ?_
  refine Az rfl rfl rfl rfl (hk a (ab_ ha)) ?_;rintro _ _ ⟨rfl,rfl⟩;refine G ?_;refine Ab rfl (fun h'=>?_) (fun h'=>?_)
  ·refine G6 ?_;refine⟨_,rfl,iV (.ofNat i),_,a_ hw nl (fun _ _=>rfl),nl,.same rfl,?_,rfl⟩
   rw[hf,hd];simp only[A5,h',cond_true]
  ·refine G2 ?_;refine O1 (D3 (p:=i) (q:=1) okC rfl rfl Om) ?_;refine G2 ?_;refine⟨hlt,SL,rfl,?_⟩;rw[hf,hd];simp only[A5,h',cond_false]
 ·have hge:l.length<=i:=by simpa using h
  refine G6 ?_;refine⟨_,rfl,iV (-1),_,a_ hw nl (fun _ _=>rfl),nl,.same rfl,?_,rfl⟩
  rw[hf,ah_ hge];rfl
def Aro:Nat->Nat->List AV
 |0,_=>[]
 |n+1,x=>.int .u8 (.ofNat x)::Aro n x
def Aw9:List (Nat×Nat):=[(9,0),(2,1),(1,0),(2,1),(18,0),(1,1),(3,3),(1,4),(8,3),(2,2),(1,3),(10,2),(7,3),(26,2),(4,3),(1,2),(1,3),(26,2),(4,3),(129,0)]
def Ae8:List (Nat×Nat)->List AV
 |[]=>[]
 |(n,x)::r=>Aro n x++Ae8 r
def Cj:List AV:=Ae8 Aw9
def Tl(i:Nat):Nat:=if i=32∨(9<=i/\i<=13/\i≠11)then 1 else if i=36 then 4 else if(48<=i/\i<=57)∨(65<=i/\i<=90)∨(97<=i/\i<=122)∨i=45∨i=95∨i=46 then 2 else if 33<=i/\i<=126 then 3 else 0
theorem Arp:(List.range 256).all (fun i=>match Cj[i]? with|some (.int .u8 (.ofNat k))=>Nat.beq k (Tl i)|_=>false)=true:=Kr
theorem Auo{i}(h:i<256):Cj[i]? =some (.int .u8 (.ofNat (Tl i))):=by
 have:=b_.1 Arp i (cw_.2 h)
 split at this
 ·rename_i k hk;rw[hk,ac_ this]
 ·cases this
section
variable {Rr:Rec}{ρ:Ad}{J:Sto}{ty a i p q:Nat}{k:IntKind}{x y:Operand}
theorem ti5:(Ay Ew.P 5).map (·.desc)=some (.int .u8):=Kr
theorem ti3:(Ay Ew.P 3).isSome=true:=Kr
theorem Axa(hx:Ah Ew ρ x=some (.int k (.ofNat p)))(hp:p<256):As Ew Rr (.convert 3 5 x) ρ J (.int .u8 (.ofNat p)) J:=fun tm h=>by
 obtain⟨td,h1,h2⟩:=cy_.1 ti5;obtain⟨ts,h3⟩:=bg_.1 ti3;have hb:Nat.ble p 255=true:=ar_ Om;simp only[opA,Aw,h1,h2,h3,h.opd hx,Pp,Me,Ak,M0,hb,cond_true]
theorem ti436:(match Ay Ew.P 436 with|some ti=>(match ti.desc with|.array len e=>(match Ay Ew.P e with|some te=>Nat.beq len 256&&Nat.beq te.size 1|none=>false)|_=>false)|none=>false)=true:=Kr
theorem Z1(hx:Ah Ew ρ x=some (.pr a 0))(hy:Ah Ew ρ y=some (.int k (.ofNat i)))(hi:i<256):As Ew Rr (.indexAddr 436 x y) ρ J (.pr a i) J:=fun tm h=>by
 have ht:=ti436
 split at ht
 ·rename_i ti h1
  split at ht
  ·rename_i len e h2
   split at ht
   ·rename_i te h3
    rw[ad_]at ht;have e1:=ac_ ht.1;have e2:=ac_ ht.2;have hb:Nat.blt i 256=true:=Ce hi;simp only[opA,Aw,h1,h2,h3,h.opd hx,h.opd hy,E6,e1,e2,hb,cond_true,Po,Ak,bn_,fr_]
   ·cases ht
  ·cases ht
 ·cases ht
end
def q2(i:Nat):Bool:=(decide (Int.ofNat i=32)||((decide ((9:Int)<=Int.ofNat i)&&decide (Int.ofNat i<=13))&& !decide (Int.ofNat i=11)))
def q4(i:Nat):Bool:=((((((decide ((48:Int)<=Int.ofNat i)&&decide (Int.ofNat i<=57))||(decide ((65:Int)<=Int.ofNat i)&&decide (Int.ofNat i<=90)))||(decide ((97:Int)<=Int.ofNat i)&&decide (Int.ofNat i<=122)))||decide (Int.ofNat i=45))||decide (Int.ofNat i=95))||decide (Int.ofNat i=46))
theorem cl1{i}(h2:q2 i=true):Tl i=1:=by
 unfold q2 at h2;simp only[bk_,ad_,bi_,decide_eq_true_eq,decide_eq_false_iff_not,bu_,bv_,Bool.and_eq_false_iff,df_]at *;unfold Tl;rw[if_pos Om]
theorem cl4{i}(h2:q2 i=false)(h3:decide (Int.ofNat i=36)=true):Tl i=4:=by
 unfold q2 at h2;simp only[bk_,ad_,bi_,decide_eq_true_eq,decide_eq_false_iff_not,bu_,bv_,Bool.and_eq_false_iff,df_]at *;unfold Tl;rw[if_neg Om,if_pos Om]
theorem cl2{i}(h2:q2 i=false)(h3:decide (Int.ofNat i=36)=false)(h4:q4 i=true):Tl i=2:=by
 unfold q2 at h2;unfold q4 at h4;simp only[bk_,ad_,bi_,decide_eq_true_eq,decide_eq_false_iff_not,bu_,bv_,Bool.and_eq_false_iff,df_]at *;unfold Tl;rw[if_neg Om,if_neg Om,if_pos Om]
theorem cl3{i}(h2:q2 i=false)(h3:decide (Int.ofNat i=36)=false)(h4:q4 i=false)(h5:(decide ((32:Int)<Int.ofNat i)&&decide (Int.ofNat i<=126))=true):Tl i=3:=by
 unfold q2 at h2;unfold q4 at h4;simp only[bk_,ad_,bi_,decide_eq_true_eq,decide_eq_false_iff_not,bu_,bv_,Bool.and_eq_false_iff,df_]at *;unfold Tl;rw[if_neg Om,if_neg Om,if_neg Om,if_pos Om]
theorem cl0{i}(h2:q2 i=false)(h3:decide (Int.ofNat i=36)=false)(h4:q4 i=false)(h5:(decide ((32:Int)<Int.ofNat i)&&decide (Int.ofNat i<=126))=false):Tl i=0:=by
 unfold q2 at h2;unfold q4 at h4;simp only[bk_,ad_,bi_,decide_eq_true_eq,decide_eq_false_iff_not,bu_,bv_,Bool.and_eq_false_iff,df_]at *;unfold Tl;rw[if_neg Om,if_neg Om,if_neg Om,if_neg Om]
theorem Ae9{N}:∀{l:List AV},l.all (fun v=>match v with|.int .u8 (.ofNat _)=>true|_=>false)=true->AV.unds N l=true
 |[],_=>rfl
 |v::l,h=>by
  rw[cs_,ad_]at h;have:=Ae9 (N:=N) h.2;have h1:=h.1
  split at h1
  ·simp only[AV.unds,this,AV.und,be_]
  ·cases h1
def zb:AV:=.int .u8 0
theorem f269(J):Cv 269 [] J (.agg Cj):=by
  refine Aj Tryz.func269 rfl rfl fun hw hu0=>?_
  refine G2 ?_;refine O1 (Bu ziC) ?_;refine G7 ?_
  refine Bz 256 (fun i=>[(0,.pr (nx J) 0),(3,iV (.ofNat i))]) (fun i J0=>J0.get (nx J)=some (.cells (Cj.take i++List.replicate (256-i) zb))/\nx J<=nx J0/\∀b,b<nx J->J0.get b=J.get b) SL ⟨by rw[ag_,if_pos rfl];rfl,by rw[Ao];omega,fun b hb=>by rw[ag_,if_neg Om]⟩ ?_
  rintro i J0 hi ⟨hc,n0,g0⟩;refine G5 ?_;refine Ab rfl ?_ ?_<;>intro h1
  · have hlt:i<256:=Int.ofNat_lt.1 (of_decide_eq_true h1)
    have htl:(Cj.take i).length=i:=by
      rw[cb_]
      have:Cj.length=256:=Kr
      omega
    have cz:List.replicate (256-i) zb=[zb]++List.replicate (256-(i+1)) zb:=by rw[show 256-i=(256-(i+1))+1 by omega,List.replicate_succ];rfl
    rw[cz,←ca_]at hc
    have htk:Cj.take (i+1)=Cj.take i++[.int .u8 (.ofNat (Tl i))]:=by rw[List.take_add_one,Auo hlt];rfl
    have cd:∀c:AV,Et (Cj.take i++[zb]++List.replicate (256-(i+1)) zb) i [c]=some (Cj.take i++[c]++List.replicate (256-(i+1)) zb):=fun c=>by
      have:=Ro (p:=Cj.take i) (q:=[zb]) (u:=[c]) (v:=List.replicate (256-(i+1)) zb) rfl
      rwa[htl]at this
    have key:∀c:Nat,Tl i=c->(J0.set (nx J) (.cells (Cj.take i++[.int .u8 (.ofNat c)]++List.replicate (256-(i+1)) zb))).get (nx J)=some (.cells (Cj.take (i+1)++List.replicate (256-(i+1)) zb))/\nx J<=nx (J0.set (nx J) (.cells (Cj.take i++[.int .u8 (.ofNat c)]++List.replicate (256-(i+1)) zb)))/\∀b,b<nx J->(J0.set (nx J) (.cells (Cj.take i++[.int .u8 (.ofNat c)]++List.replicate (256-(i+1)) zb))).get b=J.get b:=fun c hcf=>by
      refine⟨by rw[aa_,if_pos rfl,htk,hcf],by rw[Aq];exact n0,fun b hb=>by rw[aa_,if_neg Om];exact g0 b hb⟩
    have Akn:Tl i=0->J0.get (nx J)=some (.cells (Cj.take (i+1)++List.replicate (256-(i+1)) zb))/\nx J<=nx J0/\∀b,b<nx J->J0.get b=J.get b:=fun hcf=>⟨by rw[hc,htk,hcf];rfl,n0,g0⟩
    refine G11 ?_;refine O1 (Axa rfl hlt) ?_;refine G8 ?_;refine TOr 10 ?_ (fun hg=>?_) ?_
    rotate_left
    · iterate 3 refine Gn hg ?_
      refine Hq 2 _ ?_ rfl rfl rfl rfl rfl (Ft rfl rfl rfl rfl (by rw[hg];rfl)) (fun hg=>?_) (fun hg=>?_) ?_
      rotate_left
      · refine Gn hg ?_
        refine On hg (Hn (q:=13) okC rfl rfl) ?_;refine G ?_;refine⟨rfl,?_,?_⟩
        · exact sb
        · exact rfl
      · iterate 2 refine Gn hg ?_
        refine G ?_;exact⟨rfl,sb⟩
      refine Gn hg ?_
      refine Hq 2 _ ?_ rfl rfl rfl rfl rfl (Ft rfl rfl rfl rfl (by rw[hg];rfl)) (fun hg=>?_) (fun hg=>?_) ?_
      rotate_left
      · iterate 2 refine Gn hg ?_
        refine G ?_;refine⟨rfl,?_,?_⟩
        · exact sb
        · exact rfl
      · iterate 2 refine Gn hg ?_
        refine G ?_;exact⟨rfl,sb⟩
      exact Ez
    refine G2 ?_;refine Ab rfl ?_ ?_<;>intro h2
    · refine G2 ?_
      refine O1 (Z1 rfl rfl hlt) (O1 (G1 hc ldC rfl rfl rfl (cd _)) ?_);refine G5 ?_;exact⟨hlt,SL,key 1 (cl1 h2)⟩
    · refine G6 ?_
      refine Ab rfl ?_ ?_<;>intro h3
      · refine G2 ?_
        refine O1 (Z1 rfl rfl hlt) (O1 (G1 hc ldC rfl rfl rfl (cd _)) ?_);refine G5 ?_;exact⟨hlt,SL,key 4 (cl4 h2 h3)⟩
      · refine G5 ?_
        refine TAn 2 ?_ (fun hg=>?_) ?_
        rotate_left
        · refine Gn hg ?_
          refine On hg (Hn (q:=57) okC rfl rfl) ?_;exact Ez
        refine G ?_;refine TOr 6 ?_ (fun hg=>?_) ?_
        rotate_left
        · iterate 3 refine Gn hg ?_
          refine Hq 2 _ ?_ rfl rfl rfl rfl rfl (Ft rfl rfl rfl rfl (by rw[hg];rfl)) (fun hg=>?_) (fun hg=>?_) ?_
          rotate_left
          · refine Gn hg ?_
            refine On hg (Hn (q:=90) okC rfl rfl) ?_;refine G ?_;refine⟨rfl,?_,?_⟩
            · exact sb
            · exact rfl
          · iterate 2 refine Gn hg ?_
            refine G ?_;exact⟨rfl,sb⟩
          exact Ez
        refine G ?_;refine TOr 6 ?_ (fun hg=>?_) ?_
        rotate_left
        · iterate 3 refine Gn hg ?_
          refine Hq 2 _ ?_ rfl rfl rfl rfl rfl (Ft rfl rfl rfl rfl (by rw[hg];rfl)) (fun hg=>?_) (fun hg=>?_) ?_
          rotate_left
          · refine Gn hg ?_
            refine On hg (Hn (q:=122) okC rfl rfl) ?_;refine G ?_;refine⟨rfl,?_,?_⟩
            · exact sb
            · exact rfl
          · iterate 2 refine Gn hg ?_
            refine G ?_;exact⟨rfl,sb⟩
          exact Ez
        refine G ?_;refine TOr 2 ?_ (fun hg=>?_) ?_
        rotate_left
        · iterate 2 refine Gn hg ?_
          exact Ez
        refine G ?_;refine TOr 2 ?_ (fun hg=>?_) ?_
        rotate_left
        · iterate 2 refine Gn hg ?_
          exact Ez
        refine G ?_;refine TOr 2 ?_ (fun hg=>?_) ?_
        rotate_left
        · iterate 2 refine Gn hg ?_
          exact Ez
        refine G2 ?_;refine Ab rfl ?_ ?_<;>intro h4
        · refine G2 ?_
          refine O1 (Z1 rfl rfl hlt) (O1 (G1 hc ldC rfl rfl rfl (cd _)) ?_);refine G5 ?_;exact⟨hlt,SL,key 2 (cl2 h2 h3 h4)⟩
        · refine G5 ?_
          refine TAn 2 ?_ (fun hg=>?_) ?_
          rotate_left
          · refine Gn hg ?_
            refine On hg (Hn (q:=126) okC rfl rfl) ?_;exact Ez
          refine G2 ?_;refine Ab rfl ?_ ?_<;>intro h5
          · refine G2 ?_
            refine O1 (Z1 rfl rfl hlt) (O1 (G1 hc ldC rfl rfl rfl (cd _)) ?_);refine G5 ?_;exact⟨hlt,SL,key 3 (cl3 h2 h3 h4 h5)⟩
          · refine G5 ?_
            exact⟨hlt,SL,Akn (cl0 h2 h3 h4 h5)⟩
  · have hge:256<=i:=bm_.1 (Int.not_lt.1 (fun q=>of_decide_eq_false h1 q))
    have:i=256:=by omega
    subst this
    have hc:J0.get (nx J)=some (.cells Cj):=hc.trans (by rw[show Cj.take 256++List.replicate (256-256) zb=Cj by kernel_rfl])
    refine G3 ?_
    refine O1 (E8 hc ldC rfl (show Cz 256 true Cj=some (.agg Cj) by kernel_rfl)) ?_
    refine O1 (G1 (cs':=Cj) hc ldC rfl rfl (show(AV.agg Cj).cellsN 256=some Cj by kernel_rfl) Kr) ?_
    refine G2 ?_
    exact⟨[.agg Cj],Am (vs:=Cj) (ldC (t:=436)) rfl (by simp only[Sto.cells];rw[aa_,if_pos rfl]) Kr rfl,_,J,am_ hw ⟨by rw[Aq];exact n0,fun b hb=>by rw[aa_,if_neg Om];exact g0 b hb⟩,nl,.same (show AV.unds (nx J) Cj=true from Ae9 Kr),rfl,rfl⟩
def clsN(n:Nat):Nat:=match Cj[n]? with|some (.int _ (.ofNat k))=>k|_=>0
theorem Alf:Cj.length=256:=Kr
theorem Alg:Cj.all (fun v=>match v with|.int .u8 (.ofNat _)=>true|_=>false)=true:=Kr
theorem Apb(b:UInt8):Cj.drop (b.toNat*1)=.int .u8 (.ofNat (clsN b.toNat))::Cj.drop (b.toNat+1):=by
 have hb:b.toNat<Cj.length:=by rw[Alf];exact b.toNat_lt
 rw[fr_,bj_ hb]
 congr 1
 have h:=b_.1 Alg _ (List.getElem_mem hb);unfold clsN;rw[az_ hb]
 generalize Cj[b.toNat]=v at h⊢
 split at h
 ·rfl
 ·cases h
theorem f56(l s J)(hb:l.length<4611686018427387904):Cv 56 [slV (fun s=>[sV s]) 1 l,sV s] J (iV (A5 (fun x=>decide (s=x)) l 0)):=by
 refine Aj Tryz.func56 rfl rfl fun hw _=>?_
 refine G12 ?_;refine Bz l.length (fun i=>[(0,slV (fun s=>[sV s]) 1 l),(1,sV s),(7,iV (.ofNat l.length)),(8,iV (.ofNat i))]) (fun i J'=>J'=J/\A5 (fun x=>decide (s=x)) l 0=A5 (fun x=>decide (s=x)) (l.drop i) i) SL ⟨rfl,rfl⟩ ?_
 rintro i J' hi ⟨rfl,hf⟩;refine G5 ?_;refine Ab rfl ?_ ?_<;>intro h
 ·have hlt:i<l.length:=gr;obtain⟨a,ha⟩:∃a,l[i]? =some a:=⟨_,az_ hlt⟩
  have hd:l.drop i=a::l.drop (i+1):=by
   obtain⟨h1,rfl⟩:=ae_.1 ha;exact bj_ h1
  iterate 17 refine G ?_
  refine Ab rfl (fun h'=>?_) (fun h'=>?_)
  ·refine G6 ?_;refine B4 hw rfl ?_;rw[hf,hd];simp only[A5,h',cond_true];rfl
  ·refine G2 ?_;refine O1 (D3 (p:=i) (q:=1) okC rfl rfl Om) ?_;refine G2 ?_;refine⟨hlt,SL,rfl,?_⟩;rw[hf,hd];simp only[A5,h',cond_false]
 ·have hge:l.length<=i:=gr;refine G6 ?_;refine B4 hw rfl ?_;rw[hf,ah_ hge];rfl
theorem byW(e):Ew.byref e=false:=rfl
def eB(n:Nat):List AV:=[.int .u8 (.ofNat n)]
theorem f286(l s J)(hb:l.length<4611686018427387904):Cv 286 [slV eB 1 l,.int .u8 (.ofNat s)] J (iV (A5 (fun x=>decide (Int.ofNat s=Int.ofNat x)) l 0)):=by
 refine Aj Tryz.func286 rfl rfl fun hw _=>?_
 refine G12 ?_;refine Bz l.length (fun i=>[(0,slV eB 1 l),(1,.int .u8 (.ofNat s)),(7,iV (.ofNat l.length)),(8,iV (.ofNat i))]) (fun i J'=>J'=J/\A5 (fun x=>decide (Int.ofNat s=Int.ofNat x)) l 0=A5 (fun x=>decide (Int.ofNat s=Int.ofNat x)) (l.drop i) i) SL ⟨rfl,rfl⟩ ?_
 rintro i J' hi ⟨rfl,hf⟩;refine G5 ?_;refine Ab rfl ?_ ?_<;>intro h
 ·have hlt:i<l.length:=gr;obtain⟨a,ha⟩:∃a,l[i]? =some a:=⟨_,az_ hlt⟩
  have hd:l.drop i=a::l.drop (i+1):=by
   obtain⟨h1,rfl⟩:=ae_.1 ha;exact bj_ h1
  iterate 17 refine G ?_
  refine Ab rfl (fun h'=>?_) (fun h'=>?_)
  ·refine G6 ?_;refine B4 hw rfl ?_;rw[hf,hd];simp only[A5,h',cond_true];rfl
  ·refine G2 ?_;refine O1 (D3 (p:=i) (q:=1) okC rfl rfl Om) ?_;refine G2 ?_;refine⟨hlt,SL,rfl,?_⟩;rw[hf,hd];simp only[A5,h',cond_false]
 ·have hge:l.length<=i:=gr;refine G6 ?_;refine B4 hw rfl ?_;rw[hf,ah_ hge];rfl
theorem f15(l s J)(hb:l.length<4611686018427387904):Cv 15 [slV (fun s=>[sV s]) 1 l,sV s] J (.bool (l.any fun x=>decide (s=x))):=by
 refine Aj Tryz.func15 rfl rfl fun hw _=>?_
 refine G8 ?_;refine Ca (f56 l s J hb) ?_;refine G4 ?_;refine B4 hw rfl ?_;exact congrArg AV.bool (Gf l)
theorem f270(l s J)(hb:l.length<4611686018427387904):Cv 270 [slV eB 1 l,.int .u8 (.ofNat s)] J (.bool (l.any fun x=>decide (Int.ofNat s=Int.ofNat x))):=by
 refine Aj Tryz.func270 rfl rfl fun hw _=>?_
 refine G8 ?_;refine Ca (f286 l s J hb) ?_;refine G4 ?_;refine B4 hw rfl ?_;exact congrArg AV.bool (Gf l)
def okB(perm:List Nat)(b:UInt8):Bool:=perm.any fun x=>decide (Int.ofNat (clsN b.toNat)=Int.ofNat x)
def Mq(perm:List Nat)(s:Str):Bool:= !(decide (s=[])||decide ((60:Int)<Int.ofNat s.length))&&s.all (okB perm)
theorem f244(s perm J)(hb:perm.length<4611686018427387904):Cv 244 [sV s,slV eB 1 perm] J (.bool (Mq perm s)):=by
 refine Aj Tryz.func244 rfl rfl fun hw _=>?_
 refine G10 ?_;refine TOr 3 ?_ (fun hg=>?_) ?_
 rotate_left
 ·iterate 3 refine Gn hg ?_
  exact Ez
 refine G ?_;refine Ab rfl ?_ ?_<;>intro h
 ·refine G5 ?_;refine B4 hw rfl ?_;rw[Mq,h];rfl
 ·refine G3 ?_;refine Ca (f269 J) ?_;refine G10 ?_;refine Bz s.length (fun i=>[(0,sV s),(1,slV eB 1 perm),(5,.pv Cj),(16,iV (.ofNat s.length)),(17,iV (.ofNat i))]) (fun i J'=>J'=J/\s.all (okB perm)=(s.drop i).all (okB perm)) SL ⟨rfl,rfl⟩ ?_
  rintro i J' hi ⟨rfl,hf⟩;refine G5 ?_;refine Ab rfl ?_ ?_<;>intro h1
  ·have hlt:i<s.length:=gr;obtain⟨a,ha⟩:∃a,s[i]? =some a:=⟨_,az_ hlt⟩
   have hd:s.drop i=a::s.drop (i+1):=by
    obtain⟨h1,rfl⟩:=ae_.1 ha;exact bj_ h1
   iterate 13 refine G ?_
   refine O1 (Auh st9 rfl rfl ha) (O1 (Bp (n:=a.toNat) ar436 rfl rfl a.toNat_lt rfl) (O1 (Ac (v:=.int .u8 (.ofNat (clsN a.toNat))) ldC rfl rfl (by show Cz 1 false (Cj.drop (a.toNat*1))=_;rw[Apb];rfl)) ?_))
   refine Ca (f270 perm _ _ hb) ?_;refine G2 ?_;refine Ab rfl ?_ ?_<;>intro h2
   ·refine G5 ?_;refine B4 hw rfl ?_
    rw[Mq,h,hf,hd,cs_,show okB perm a=false by simpa[okB]using h2];rfl
   ·refine G2 ?_;refine O1 (D3 (p:=i) (q:=1) okC rfl rfl gr) ?_;refine G2 ?_;refine⟨hlt,SL,rfl,?_⟩
    rw[hf,hd,cs_,show okB perm a=true by simpa[okB]using h2];rfl
  ·have hge:s.length<=i:=gr;refine G6 ?_;refine B4 hw rfl ?_;rw[Mq,h,hf,ah_ hge];rfl
theorem f213(s J):Cv 213 [sV s] J (.bool (Mq [2] s)):=by
 refine Aj Tryz.func213 rfl rfl fun hw _=>?_
 refine G7 ?_;refine Cx (Ai elC byW rfl rfl rfl) (Dv (len:=1)) rfl rfl ?_
 refine Ca (f244 s [2] J (by decide)) ?_
 refine G3 ?_;refine B4 hw rfl ?_;exact rfl
theorem f211(s J):Cv 211 [sV s] J (.bool (Mq [2,3] s)):=by
 refine Aj Tryz.func211 rfl rfl fun hw _=>?_
 refine G7 ?_;refine Cx (Ai elC byW rfl rfl rfl) (Dv (len:=2)) rfl rfl ?_
 refine Ca (f244 s [2,3] J (by decide)) ?_
 refine G3 ?_;refine B4 hw rfl ?_;exact rfl
def X9(h:Hp):Bool:=decide ((60:Int)<Int.ofNat h.text.length)
def Arq(s:Str):Bool:=decide ((400:Int)<Int.ofNat s.length)
theorem f47(s J):Cv 47 [sV s] J (.bool (Arq s)):=by
 refine Aj Tryz.func47 rfl rfl fun hw _=>?_
 refine G12 ?_;refine B4 hw rfl ?_;exact rfl
theorem f44(h J):Cv 44 [.agg (eH h)] J (.bool (X9 h)):=by
 refine Aj Tryz.func44 rfl rfl fun hw _=>?_
 iterate 14 refine G ?_
 refine B4 hw rfl ?_;exact rfl
def bigF(words:Int)(f:Fr):Bool:=
 decide (words<Int.ofNat f.proof.length)||decide ((60:Int)<Int.ofNat f.text.length)||decide ((60:Int)<Int.ofNat f.hyps.length)||decide ((60:Int)<Int.ofNat f.dummies.length)||decide ((200:Int)<Int.ofNat f.apart.length)||
  decide ((300:Int)<Int.ofNat f.wide.length)||f.hyps.any X9||f.dummies.any X9||f.proof.any Arq
def W6(d:Db)(frames words:Int):Bool:=
 decide (Int.ofNat d.frames.length<=frames)&&decide (Int.ofNat d.consts.length<=(200:Int))&&decide (Int.ofNat d.vars.length<=(60:Int))&& !(d.frames.any (bigF words))
theorem f43(f words J)(hw':words<1000000):Cv 43 [.agg (eF f),.pv [iV words]] J (.bool (bigF words f)):=by
 refine Aj Tryz.func43 rfl rfl fun hw _=>?_
 iterate 17 refine G ?_
 refine TOr 4 ?_ (fun hg=>?_) ?_
 rotate_left
 ·iterate 4 refine Gn hg ?_
  exact Ez
 refine G ?_;refine TOr 4 ?_ (fun hg=>?_) ?_
 rotate_left
 ·iterate 4 refine Gn hg ?_
  exact Ez
 refine G ?_;refine TOr 4 ?_ (fun hg=>?_) ?_
 rotate_left
 ·iterate 4 refine Gn hg ?_
  exact Ez
 refine G ?_;refine TOr 4 ?_ (fun hg=>?_) ?_
 rotate_left
 ·iterate 4 refine Gn hg ?_
  exact Ez
 refine G ?_;refine TOr 4 ?_ (fun hg=>?_) ?_
 rotate_left
 ·iterate 4 refine Gn hg ?_
  exact Ez
 refine G ?_;refine TOr 4 ?_ (fun hg=>?_) ?_
 rotate_left
 ·iterate 3 refine Gn hg ?_
  refine Bh rfl rfl rfl (by rw[hg];rfl) rfl rfl rfl rfl (f45 X9 f.hyps 44 [] J (by simp at hg;omega) (fun a _=>f44 a J)) ?_
  exact Ez
 refine G ?_;refine TOr 4 ?_ (fun hg=>?_) ?_
 rotate_left
 ·iterate 3 refine Gn hg ?_
  refine Bh rfl rfl rfl (by rw[hg];rfl) rfl rfl rfl rfl (f45 X9 f.dummies 44 [] J (by simp at hg;omega) (fun a _=>f44 a J)) ?_
  exact Ez
 refine G ?_;refine TOr 3 ?_ (fun hg=>?_) ?_
 rotate_left
 ·iterate 2 refine Gn hg ?_
  refine Bh rfl rfl rfl (by rw[hg];rfl) rfl rfl rfl rfl (f46 Arq f.proof 47 [] J (by simp at hg;omega) (fun a _=>f47 a J)) ?_
  exact Ez
 refine G3 ?_;refine B4 hw rfl ?_;exact rfl
theorem f9(d frames words J)(h1:frames<1000000)(h2:words<1000000):Cv 8 [dbV d,iV frames,iV words] J (.bool (W6 d frames words)):=by
 refine Aj Tryz.func8 rfl rfl fun hw _=>?_
 refine G12 ?_;refine O1 (Hn okC rfl rfl) ?_;refine G ?_;refine TAn 4 ?_ (fun hg=>?_) ?_
 rotate_left
 ·iterate 3 refine Gn hg ?_
  refine On hg (Hn (q:=200) okC rfl rfl) ?_;exact Ez
 refine G ?_;refine TAn 4 ?_ (fun hg=>?_) ?_
 rotate_left
 ·iterate 3 refine Gn hg ?_
  refine On hg (Hn (q:=60) okC rfl rfl) ?_;exact Ez
 refine G ?_;refine TAn 5 ?_ (fun hg=>?_) ?_
 rotate_left
 ·iterate 3 refine Gn hg ?_
  refine Bh rfl rfl rfl (by rw[hg];rfl) rfl rfl rfl rfl (f42 (bigF words) d.frames 43 [.pv [iV words]] J (by simp at hg;omega) (fun a _=>f43 a words J h2)) ?_
  refine Gn hg ?_;exact Ez
 refine G3 ?_;refine B4 hw rfl ?_;exact rfl
structure Kn where
 consts:SM Bool
 vars:SM Bool
 frames:SM Bool
 hyps:SM Hp
 types:SM Str
def hV(h:Hp):AV:=.agg (eH h)
def knV(m:Nat):AV:=.pv [.mp m,.mp (m+1),.mp (m+2),.mp (m+3),.mp (m+4)]
structure Hj (J:Sto)(m:Nat)(k:Kn):Prop where
 c:Fi J m k.consts
 v:Fi J (m+1) k.vars
 f:Fi J (m+2) k.frames
 h:B8 hV J (m+3) k.hyps
 t:B8 sV J (m+4) k.types
def Kn.isSym(k:Kn)(s:Str):Bool:=k.consts.has s||k.vars.has s
theorem Aiz(m k s J)(hk:Hj J m k):Cv 212 [knV m,sV s] J (.bool (k.isSym s)):=by
 refine Aj Tryz.func212 rfl rfl fun hw _=>?_
 refine G11 ?_;refine O1 (De st9 Cr rfl hk.c rfl) ?_;refine G ?_;refine TOr 6 ?_ (fun hg=>?_) ?_
 rotate_left
 ·iterate 5 refine Gn hg ?_
  refine On hg (De st9 Cr rfl hk.v rfl) ?_;exact Ez
 refine G3 ?_;refine B4 hw rfl ?_;exact rfl
theorem f246(m k s J)(hk:Hj J m k):Cv 246 [sV s,.pv [knV m]] J (.bool (!k.isSym s)):=by
 refine Aj Tryz.func246 rfl rfl fun hw _=>?_
 refine G8 ?_;refine Ca (Aiz m k s _ hk) ?_;refine G4 ?_;refine B4 hw rfl ?_;exact rfl
def Kn.textF(k:Kn)(l:List Str):Int:=
 if l=[]∨(200:Int)<Int.ofNat l.length then 2 else if(!k.consts.has (l.headD [])||l.tail.any fun s=> !k.isSym s)then 12 else 0
theorem f216(m k l J)(hk:Hj J m k)(hb:l.length<4611686018427387904):Cv 216 [knV m,Af l] J (iV (k.textF l)):=by
 refine Aj Tryz.func216 rfl rfl fun hw _=>?_
 iterate 13 refine G ?_
 refine TOr 3 ?_ (fun hg=>?_) ?_
 rotate_left
 ·iterate 3 refine Gn hg ?_
  exact Ez
 refine G2 ?_;refine Ab rfl ?_ ?_<;>intro h
 ·refine G5 ?_;refine B4 hw rfl ?_
  rw[Kn.textF,if_pos (by cases l with|nil=>exact .inl rfl|cons a r=>right;simp at h⊢;omega)];rfl
 ·obtain⟨a,r,rfl⟩:∃a r,l=a::r:=by cases l with|nil=>simp at h|cons a r=>exact⟨a,r,rfl⟩
  have hn:¬(a::r=[]∨(200:Int)<Int.ofNat (a::r).length):=gr
  refine Gg [(14,.bool (!k.consts.has a||r.any fun s=> !k.isSym s))] ?_ ?_
  ·rcases av_ (!k.consts.has a)with hg9|hg9
   ·refine XS (l:=[]) trivial ?_;refine G5 ?_;refine DF (A1 (i:=0) elC (fun _=>rfl) rfl rfl rfl) ?_
    refine G ?_;refine DF (De st9 Cr rfl hk.c rfl) ?_;refine G2 ?_
    refine Wx (w:=by simp[hg9]) ?_
    refine Wx (w:=by simp[hg9]) ?_
    refine Wx (w:=by simp[hg9]) ?_
    refine Ta (e:=true) rfl rfl rfl rfl (by simp[hg9]) rfl rfl ?_
    refine DF (A3 rfl (by simp[hg9]) rfl) ?_
    refine G2 ?_
    exact⟨⟨congrArg (fun b=>some (AV.bool b)) (by simp[hg9]),trivial⟩,sb,rfl⟩
   ·refine XS (l:=[(46,[Af r,.fn (.func 246) [] [.pv [knV m]]],J,.bool (r.any fun s=> !k.isSym s),J)]) ⟨f46 (fun s=> !k.isSym s) r 246 [.pv [knV m]] J gr (fun s _=>f246 m k s J hk),trivial⟩ ?_
    refine G5 ?_;refine DF (A1 (i:=0) elC (fun _=>rfl) rfl rfl rfl) ?_
    refine G ?_;refine DF (De st9 Cr rfl hk.c rfl) ?_;refine G2 ?_
    refine Wn (w:=by simp[hg9]) (Ag rfl) ?_
    refine Wn (w:=by simp[hg9]) (Uu (a:=1) elC (fun _=>rfl) rfl rfl (by simp)) ?_
    refine Wn (w:=by simp[hg9]) (Amh rfl rfl) ?_
    refine Qi (e:=true) rfl rfl rfl rfl (by simp[hg9]) rfl rfl (Bq rfl rfl Bv) ?_
    refine DF (Au rfl (by simp[hg9]) rfl) ?_
    refine G2 ?_
    exact⟨⟨congrArg (fun b=>some (AV.bool b)) (by simp[hg9]),trivial⟩,sb,rfl⟩
  refine Ab rfl ?_ ?_<;>intro h
  ·refine G5 ?_;refine B4 hw rfl ?_;rw[Kn.textF,if_neg hn,if_pos gr];rfl
  ·refine G6 ?_;refine B4 hw rfl ?_;rw[Kn.textF,if_neg hn,if_neg gr];rfl
def Ai0(m:Nat)(J J':Sto):Prop:=nx J'=nx J/\∀b,b<m∨m+5<=b->J'.get b=J.get b
theorem Ai0.refl{m J}:Ai0 m J J:=⟨rfl,fun _ _=>rfl⟩
theorem Ai0.set{m a J J' o}(h:Ai0 m J J')(h1:m<=a)(h2:a<m+5):Ai0 m J (J'.set a o):=
 ⟨by rw[Aq];exact h.1,fun b hb=>by rw[aa_,if_neg Om];exact h.2 b hb⟩
def L8(s:Str):Bool:=Mq [2,3] s
def Qp:List Str->Kn->Int×Kn
 |[],k=>(0,k)
 |c::r,k=>cond (!L8 c) (2,k) (cond (k.consts.has c) (6,k) (Qp r { k with consts:=k.consts.put c true }))
def Sf:List Str->Kn->Int×Kn
 |[],k=>(0,k)
 |c::r,k=>cond (!L8 c) (2,k) (cond (k.isSym c) (6,k) (Sf r { k with vars:=k.vars.put c true }))
def K8(d:Db)(k:Kn):Int×Kn:=if(Qp d.consts k).1=0 then Sf d.vars (Qp d.consts k).2 else Qp d.consts k
theorem A4{α:Type}{l:List α}{i a}(ha:l[i]? =some a):l.drop i=a::l.drop (i+1):=by
 obtain⟨h1,rfl⟩:=ae_.1 ha;exact bj_ h1
theorem Ar{α:Type}{l:List α}{i}(h:i<l.length):∃a,l[i]? =some a:=⟨_,az_ h⟩
theorem f175(m k d J)(hk:Hj J m k)(hb:d.consts.length<4611686018427387904)(hb2:d.vars.length<4611686018427387904):Al Ew 175 [knV m,dbV d] J fun v J'=>v=iV (K8 d k).1/\Ai0 m J J'/\Hj J' m (K8 d k).2:=by
 refine Aj Tryz.func175 rfl rfl fun hw hu0=>?_
 iterate 14 refine G ?_
 refine Bz d.consts.length (fun i0=>[(0,knV m),(3,.pv [Af d.consts,Af d.vars,slV eF 8 d.frames]),(10,Af d.consts),(11,iV (.ofNat d.consts.length)),(12,iV (.ofNat i0))]) (fun i0 J0=>∃ki,Ai0 m J J0/\Hj J0 m ki/\Qp d.consts k=Qp (d.consts.drop i0) ki) SL ⟨k,.refl,hk,rfl⟩ ?_
 rintro i0 J0 hi0 ⟨k0,hu0,hk0,hf0⟩;refine G5 ?_;refine Ab rfl ?_ ?_<;>intro h1
 ·have bc:i0<d.consts.length:=by simpa using h1
  obtain⟨a0,ha0⟩:=Ar bc;have hd0:=A4 ha0;obtain⟨ver0,me⟩:=hk0.c
  iterate 13 refine G ?_
  refine Ca (f211 a0 _) ?_;refine G2 ?_;refine Ab rfl ?_ ?_<;>intro h2
  ·refine G4 ?_;refine Bo fun hw'=>?_
   refine G ?_
   exact⟨_,rfl,_,_,a_ hw' nl (fun _ _=>rfl),by rw[hu0.1];exact nl,.same rfl,by rw[K8,hf0,hd0,Qp,L8,h2];rfl,hu0,by rw[K8,hf0,hd0,Qp,L8,h2];exact hk0⟩
  ·refine G9 ?_;refine O1 (De st9 Cr rfl hk0.c rfl) ?_;refine G ?_;refine Ab rfl ?_ ?_<;>intro h3
   ·refine G4 ?_;refine Bo fun hw'=>?_
    refine G ?_
    exact⟨_,rfl,_,_,a_ hw' nl (fun _ _=>rfl),by rw[hu0.1];exact nl,.same rfl,by rw[K8,hf0,hd0,Qp,L8,h2,h3];rfl,hu0,by rw[K8,hf0,hd0,Qp,L8,h2,h3];exact hk0⟩
   ·refine G7 ?_
    refine O1 (Gh (v:=true) st9 Cr rfl me rfl rfl (fun te k1 k2=>by first|exact I0 k1 k2|exact I1 k1 k2|exact I2 k1 k2|exact Jn k1 k2|exact H6 k1 k2 rfl)) ?_
    refine G5 ?_
    refine⟨bc,SL,{ k0 with consts:=k0.consts.put a0 true },hu0.set Om Om,⟨.put,hk0.v.set Om,hk0.f.set Om,hk0.h.set Om,hk0.t.set Om⟩,by rw[hf0,hd0,Qp,L8,h2,h3];rfl⟩
 ·have bj:d.consts.length<=i0:=by simpa using h1
  have hs:K8 d k=Sf d.vars k0:=by rw[K8,hf0,ah_ bj];rfl
  refine G10 ?_;refine Bz d.vars.length (fun i2=>[(0,knV m),(32,Af d.vars),(33,iV (.ofNat d.vars.length)),(34,iV (.ofNat i2))]) (fun i2 J2=>∃ki,Ai0 m J J2/\Hj J2 m ki/\Sf d.vars k0=Sf (d.vars.drop i2) ki) SL ⟨k0,hu0,hk0,rfl⟩ ?_
  rintro i2 J2 hi2 ⟨k2,hu2,hk2,hf2⟩;refine G5 ?_;refine Ab rfl ?_ ?_<;>intro h2
  ·have bv:i2<d.vars.length:=by simpa using h2
   obtain⟨a2,ha2⟩:=Ar bv;have hd2:=A4 ha2;obtain⟨ver2,mi⟩:=hk2.v
   iterate 13 refine G ?_
   refine Ca (f211 a2 _) ?_;refine G2 ?_;refine Ab rfl ?_ ?_<;>intro h3
   ·refine G4 ?_;refine Bo fun hw'=>?_
    refine G ?_
    exact⟨_,rfl,_,_,a_ hw' nl (fun _ _=>rfl),by rw[hu2.1];exact nl,.same rfl,by rw[hs,hf2,hd2,Sf,L8,h3];rfl,hu2,by rw[hs,hf2,hd2,Sf,L8,h3];exact hk2⟩
   ·refine G6 ?_;refine Ca (Aiz m k2 a2 _ hk2) ?_;refine G ?_;refine Ab rfl ?_ ?_<;>intro h4
    ·refine G4 ?_;refine Bo fun hw'=>?_
     refine G ?_
     exact⟨_,rfl,_,_,a_ hw' nl (fun _ _=>rfl),by rw[hu2.1];exact nl,.same rfl,by rw[hs,hf2,hd2,Sf,L8,h3,h4];rfl,hu2,by rw[hs,hf2,hd2,Sf,L8,h3,h4];exact hk2⟩
    ·refine G7 ?_
     refine O1 (Gh (v:=true) st9 Cr rfl mi rfl rfl (fun te k1 k2=>by first|exact I0 k1 k2|exact I1 k1 k2|exact I2 k1 k2|exact Jn k1 k2|exact H6 k1 k2 rfl)) ?_
     refine G5 ?_
     refine⟨bv,SL,{ k2 with vars:=k2.vars.put a2 true },hu2.set Om Om,⟨hk2.c.set Om,.put,hk2.f.set Om,hk2.h.set Om,hk2.t.set Om⟩,by rw[hf2,hd2,Sf,L8,h3,h4];rfl⟩
  ·have ba:d.vars.length<=i2:=by simpa using h2
   refine G5 ?_;refine Bo fun hw'=>?_
   refine G ?_
   exact⟨_,rfl,_,_,a_ hw' nl (fun _ _=>rfl),by rw[hu2.1];exact nl,.same rfl,by rw[hs,hf2,ah_ ba];rfl,hu2,by rw[hs,hf2,ah_ ba];exact hk2⟩
theorem bo4:Zv Ew.P 4=true:=Kr
theorem Fw{α:Type}{l:List α}{i a}(ha:l[i]? =some a):l.take (i+1)=l.take i++[a]:=by rw[List.take_add_one,ha];rfl
theorem keyP(p):D4 Ew.P 274 (.agg (eP p))=some (.agg [kS p.a,kS p.b]):=Kr
theorem Am4(p q:Pr):Key.eq (.agg [kS p.a,kS p.b]) (.agg [kS q.a,kS q.b])=decide (p=q):=by
 show cond (Key.eq (kS p.a) (kS q.a)) (cond (Key.eq (kS p.b) (kS q.b)) true false) false=_
 rw[Abl,Abl];obtain⟨a,b⟩:=p;obtain⟨c,d⟩:=q
 grind
theorem f49(l m J)(hb:m.length<4611686018427387904):Cv 49 [Af l,Af m] J (.bool (decide (l=m))):=by
 refine Aj Tryz.func49 rfl rfl fun hw hu0=>?_
 iterate 13 refine G ?_
 refine Ab rfl ?_ ?_<;>intro h1
 ·refine G5 ?_;refine B4 hw rfl ?_;exact congrArg AV.bool (decide_eq_false gr).symm
 ·have bl:l.length=m.length:=gr;refine G9 ?_;refine Bz l.length (fun i0=>[(0,Af l),(1,Af m),(12,iV (.ofNat l.length)),(13,iV (.ofNat i0))]) (fun i0 J0=>J0=J/\l.take i0=m.take i0) SL ⟨rfl,rfl⟩ ?_
  rintro i0 J0 hi0 ⟨rfl,hf0⟩;refine G5 ?_;refine Ab rfl ?_ ?_<;>intro h2
  ·have bc:i0<l.length:=gr;obtain⟨a0,ha0⟩:=Ar bc;have hd0:=A4 ha0
   obtain⟨b,hb0⟩:=Ar (show i0<m.length by omega)
   refine G9 ?_;refine X0 ?_;refine G8 ?_;refine DF (Ko okC rfl rfl) ?_;refine G ?_;refine⟨rfl,rfl,?_⟩;refine Ab rfl ?_ ?_<;>intro h3
   ·refine G5 ?_;refine B4 hw rfl ?_;exact congrArg AV.bool (decide_eq_false gr).symm
   ·refine G5 ?_
    refine⟨bc,SL,rfl,(have h4:a0=b:=gr;by rw[Fw ha0,Fw hb0,hf0,h4])⟩
  ·have bj:l.length<=i0:=gr;refine G6 ?_;refine B4 hw rfl ?_;exact congrArg AV.bool (decide_eq_true gr).symm
theorem f250(l m J)(hb:m.length<4611686018427387904):Cv 250 [slV eP 2 l,slV eP 2 m] J (.bool (decide (l=m))):=by
 refine Aj Tryz.func250 rfl rfl fun hw hu0=>?_
 iterate 13 refine G ?_
 refine Ab rfl ?_ ?_<;>intro h1
 ·refine G5 ?_;refine B4 hw rfl ?_;exact congrArg AV.bool (decide_eq_false gr).symm
 ·have bl:l.length=m.length:=gr;refine G9 ?_;refine Bz l.length (fun i0=>[(0,slV eP 2 l),(1,slV eP 2 m),(12,iV (.ofNat l.length)),(13,iV (.ofNat i0))]) (fun i0 J0=>J0=J/\l.take i0=m.take i0) SL ⟨rfl,rfl⟩ ?_
  rintro i0 J0 hi0 ⟨rfl,hf0⟩;refine G5 ?_;refine Ab rfl ?_ ?_<;>intro h2
  ·have bc:i0<l.length:=gr;obtain⟨a0,ha0⟩:=Ar bc;have hd0:=A4 ha0
   obtain⟨b,hb0⟩:=Ar (show i0<m.length by omega)
   refine G9 ?_;refine X0 ?_;refine G8 ?_;refine DF (Aw3 okC rfl rfl rfl rfl (keyP a0) (keyP b)) ?_;refine G ?_;refine⟨rfl,rfl,?_⟩;refine Ab rfl ?_ ?_<;>intro h3
   ·refine G5 ?_;refine B4 hw rfl ?_
    exact congrArg AV.bool (decide_eq_false (fun hh=>by
     have h4:a0≠b:=(by rw[Am4]at h3;simpa using h3)
     grind)).symm
   ·refine G5 ?_
    refine⟨bc,SL,rfl,(have h4:a0=b:=(by rw[Am4]at h3;simpa using h3);by rw[Fw ha0,Fw hb0,hf0,h4])⟩
  ·have bj:l.length<=i0:=gr;refine G6 ?_;refine B4 hw rfl ?_;exact congrArg AV.bool (decide_eq_true gr).symm
def Am5(a b:Hp):Bool:=decide (a.label=b.label)&&(a.floating==b.floating)&&decide (a.text=b.text)
theorem f181(a b J)(hb:b.text.length<4611686018427387904):Cv 181 [.agg (eH a),.agg (eH b)] J (.bool (Am5 a b)):=by
 refine Aj Tryz.func181 rfl rfl fun hw hu0=>?_
 iterate 14 refine G ?_
 refine TAn 5 ?_ (fun hg=>?_) ?_
 rotate_left
 ·iterate 4 refine Gn hg ?_
  refine On hg (Aw2 bo4 rfl rfl) ?_;exact Ez
 refine G ?_;refine TAn 5 ?_ (fun hg=>?_) ?_
 rotate_left
 ·iterate 4 refine Gn hg ?_
  refine Bh rfl rfl rfl (by rw[hg];rfl) rfl rfl rfl rfl (f49 a.text b.text _ hb) ?_
  exact Ez
 refine G3 ?_;refine B4 hw rfl ?_;exact rfl
theorem f227(l J)(hb:l.length<1000000):Cv 227 [Af l] J (Af l):=by
 refine Aj Tryz.func227 rfl rfl fun hw hu0=>?_
 refine G8 ?_;refine Abi slC rfl rfl fun b hbn=>?_
 refine G ?_;refine Ab rfl ?_ ?_<;>intro h1
 ·refine G4 ?_;obtain rfl:=ce_ (hbn h1);refine G ?_;exact⟨_,rfl,Af [],J,a_ hw nl (fun _ _=>rfl),nl,Ex,rfl,rfl⟩
 ·refine G3 ?_
  obtain⟨v,U,c5,bf,cb,_⟩:=ex_ (enc:=fun s:Str=>[sV s]) (sz:=1) (l:=([]:List Str)) (by':=16) (N:=nx J) (fun s=>rfl) nl (Own.emp (enc:=fun s:Str=>[sV s]) (sz:=1)) l (by simp[sizeLim];omega)
  refine O1 (Ai elC byW rfl rfl rfl) ?_;refine G ?_;refine O1 (Av elC rfl slC rfl rfl rfl (X7 (enc:=fun s:Str=>[sV s]) (sz:=1) (fun _=>rfl) _ l) c5) ?_
  refine G3 ?_;exact⟨_,rfl,Af l,J,am_ hw cb,nl,bf.fz (fun _=>rfl) (fun a ha=>hw.none ha) (A2 (fun _=>rfl) l),rfl,rfl⟩
theorem f224(l J)(hb:l.length<1000000):Al Ew 224 [slV eH 3 l] J fun v J'=>Own J' (nx J) eH 3 l v/\Below (nx J) J J':=by
 refine Aj Tryz.func224 rfl rfl fun hw hu0=>?_
 refine G8 ?_;refine Abi slC rfl rfl fun b hbn=>?_
 refine G ?_;refine Ab rfl ?_ ?_<;>intro h1
 ·refine G4 ?_;obtain rfl:=ce_ (hbn h1);refine G ?_;exact⟨_,rfl,_,J,a_ hw nl (fun _ _=>rfl),nl,.same rfl,.nil,.rfl'⟩
 ·refine G3 ?_
  obtain⟨v,U,c5,bf,cb,_⟩:=ex_ (enc:=eH) (sz:=3) (l:=([]:List Hp)) (by':=48) (N:=nx J) (fun s=>rfl) nl (Own.emp (enc:=eH) (sz:=3)) l (by simp[sizeLim];omega)
  refine O1 (Ai elC byW rfl rfl rfl) ?_;refine G ?_;refine O1 (Av elC rfl slC rfl rfl rfl (X7 (enc:=eH) (sz:=3) (fun _=>rfl) _ l) c5) ?_
  refine G2 ?_;refine Bo fun hw'=>Av4 (i:=2) rfl fun hu=>?_
  refine G ?_;exact⟨_,rfl,_,_,a_ hw' nl (fun _ _=>rfl),cb.1,.same hu,bf,cb⟩
theorem f273(l J)(hb:l.length<1000000):Al Ew 273 [slV eP 2 l] J fun v J'=>Own J' (nx J) eP 2 l v/\Below (nx J) J J':=by
 refine Aj Tryz.func273 rfl rfl fun hw hu0=>?_
 refine G8 ?_;refine Abi slC rfl rfl fun b hbn=>?_
 refine G ?_;refine Ab rfl ?_ ?_<;>intro h1
 ·refine G4 ?_;obtain rfl:=ce_ (hbn h1);refine G ?_;exact⟨_,rfl,_,J,a_ hw nl (fun _ _=>rfl),nl,.same rfl,.nil,.rfl'⟩
 ·refine G3 ?_
  obtain⟨v,U,c5,bf,cb,_⟩:=ex_ (enc:=eP) (sz:=2) (l:=([]:List Pr)) (by':=32) (N:=nx J) (fun s=>rfl) nl (Own.emp (enc:=eP) (sz:=2)) l (by simp[sizeLim];omega)
  refine O1 (Ai elC byW rfl rfl rfl) ?_;refine G ?_;refine O1 (Av elC rfl slC rfl rfl rfl (X7 (enc:=eP) (sz:=2) (fun _=>rfl) _ l) c5) ?_
  refine G2 ?_;refine Bo fun hw'=>Av4 (i:=2) rfl fun hu=>?_
  refine G ?_;exact⟨_,rfl,_,_,a_ hw' nl (fun _ _=>rfl),cb.1,.same hu,bf,cb⟩
theorem Ha{α p}:∀(l:List α) (i:Nat),(A5 p l i= -1/\∀a∈l,p a=false)∨∃n a,A5 p l i=Int.ofNat (i+n)/\l[n]? =some a/\p a=true/\∀b∈l.take n,p b=false
 |[],i=>.inl ⟨rfl,gr⟩
 |a::r,i=>by
  unfold A5;cases hp:p a with
  |true=>exact .inr ⟨0,a,rfl,rfl,hp,gr⟩
  |false=>
   rcases Ha (p:=p) r (i+1)with⟨h1,h2⟩|⟨n,b,h1,h2,h3,h4⟩
   ·grind
   ·refine .inr ⟨n+1,b,gr,gr,h3,fun c hc=>?_⟩
    grind
def Eo{α:Type}(p:α->Bool)(l:List α):List α:=l.filter fun x=> !p x
theorem Ab3{α p}{l:List α}(h:∀a∈l,p a=false):Eo p l=l:=er_.2 gr
theorem Ru{α p l}{a:α}:Eo p (l++[a])=Eo p l++(if p a then[]else[a]):=by
 unfold Eo;grind
theorem H0{α p}{l:List α}:(Eo p l).length<=l.length:=ee_ _ _
structure Vc {α:Type}(p:α->Bool)(l c:List α)(j:Nat):Prop where
 len:c.length=l.length
 fst:c.take (Eo p (l.take j)).length=Eo p (l.take j)
 snd:c.drop j=l.drop j
theorem Vc.start{α p l n}{a:α}(h1:l[n]? =some a)(h2:p a=true)(h3:∀b∈l.take n,p b=false):(Eo p (l.take (n+1))).length=n/\Vc p l l (n+1):=by
 have h:Eo p (l.take (n+1))=l.take n:=by rw[Fw h1,Ru,Ab3 h3,if_pos h2,bh_]
 have hn:=(ae_.1 h1).1;have h4:(Eo p (l.take (n+1))).length=n:=gr
 exact⟨h4,rfl,by rw[h4,h],rfl⟩
theorem Vc.at{α p}{l c:List α}{j}(h:Vc p l c j):c[j]? =l[j]? :=by
 have:=congrArg (fun k:List α=>k[0]?) h.snd
 grind
theorem Vc.out{α p l c j}{a:α}(h:Vc p l c j)(ha:l[j]? =some a)(hp:p a=true):(Eo p (l.take (j+1))).length=(Eo p (l.take j)).length/\Vc p l c (j+1):=by
 have h1:Eo p (l.take (j+1))=Eo p (l.take j):=by rw[Fw ha,Ru,if_pos hp,bh_]
 refine⟨by rw[h1],h.len,by rw[h1];exact h.fst,?_⟩
 have:=congrArg (List.drop 1) h.snd
 simpa[eo_,fz_]using this
theorem Vc.keep{α p l c j}{a:α}(h:Vc p l c j)(ha:l[j]? =some a)(hp:p a=false):
  (Eo p (l.take (j+1))).length=(Eo p (l.take j)).length+1/\(Eo p (l.take j)).length<c.length/\Vc p l (c.set (Eo p (l.take j)).length a) (j+1):=by
 have hj:=(ae_.1 ha).1
 have h1:Eo p (l.take (j+1))=Eo p (l.take j)++[a]:=by rw[Fw ha,Ru,if_neg (by simp[hp])]
 have hw:(Eo p (l.take j)).length<=j:=ai_ H0 gr
 have hlt:(Eo p (l.take j)).length<c.length:=by rw[h.len];omega
 refine⟨gr,hlt,by rw[dc_];exact h.len,?_,?_⟩
 ·rw[h1,bx_,fh_,Fw (a:=a) gr,List.take_set_of_le nl,h.fst]
 ·rw[List.drop_set_of_lt Om];have:=congrArg (List.drop 1) h.snd
  simpa[eo_,fz_]using this
theorem f98o(p l a tl k cap J)(hb:l.length<1000000)(hg:J.get a=some (.cells (l.flatMap eH++tl)))(hk:∀x∈l,Al Ew k ([.agg (eH x)]++cap) J fun v J'=>v=.bool (p x)/\J'=J):Cv 98 [.sr a 0 3 l.length none,.fn (.func k) [] cap] J (iV (A5 p l 0)):=by
 refine Aj Tryz.func98 rfl rfl fun hw hu0=>?_
 refine G8 ?_;refine O1 (Bf slC rfl rfl rfl) ?_;refine G3 ?_;refine Bz l.length (fun i0=>[(0,.sr a 0 3 l.length none),(1,.fn (.func k) [] cap),(7,iV (.ofNat l.length)),(8,iV (.ofNat i0))]) (fun i0 J0=>J0=J/\A5 p l 0=A5 p (l.drop i0) i0) SL ⟨rfl,rfl⟩ ?_
 rintro i0 J0 hi0 ⟨rfl,hf0⟩;refine G5 ?_;refine Ab rfl ?_ ?_<;>intro h1
 ·have bc:i0<l.length:=gr;obtain⟨a0,ha0⟩:=Ar bc;have hd0:=A4 ha0
  iterate 13 refine G ?_
  refine O1 (Br elC rfl rfl bc) (O1 (Dg (enc:=eH) (v:=.agg (eH a0)) (fun _=>rfl) ldC rfl hg ha0 (fun _=>rfl)) ?_)
  refine Ca (hk a0 (ab_ ha0)) ?_;refine G ?_;refine Ab rfl ?_ ?_<;>intro h2
  ·refine G6 ?_;refine B4 hw rfl ?_
   exact(by rw[hf0,hd0];simp only[A5,h2,cond_true];rfl)
  ·refine G5 ?_
   refine⟨bc,SL,rfl,by rw[hf0,hd0];simp only[A5,h2,cond_false]⟩
 ·have bj:l.length<=i0:=gr;refine G6 ?_;refine B4 hw rfl ?_
  exact(by rw[hf0,ah_ bj];rfl)
theorem f223e(k:Nat)(cap v₀)(hv:v₀=nS∨v₀=.sv [] 3 0 (some 0))(J):Cv 223 [v₀,.fn (.func k) [] cap] J v₀:=by
 refine Aj Tryz.func223 rfl rfl fun hw hu0=>?_
 refine G8 ?_
 refine Nm rfl rfl rfl rfl ((f98 (fun _=>false) [] k cap J (by simp) gr).wk (.cons (by rcases hv with rfl|rfl<;>first|exact Agy|exact Dv) .refl)) ?_
 refine G6 ?_;refine O1 (H4 (q:=(-1)) okC rfl rfl) ?_;refine G ?_;refine Ab rfl ?_ ?_<;>intro h1
 ·refine G6 ?_
  exact⟨_,rfl,_,_,a_ hw nl (fun _ _=>rfl),nl,.same (by rcases hv with rfl|rfl<;>rfl),rfl,rfl⟩
 ·exact absurd h1 (by simp[A5])
theorem f223o(p l a N tl k cap J)(hb:l.length<1000000)(hN:N<=a)(hg:J.get a=some (.cells (l.flatMap eH++tl)))(hk:∀x∈l,∀U,(∀b,b<N->U.get b=J.get b)->nx U=nx J->Al Ew k ([.agg (eH x)]++cap) U fun v J'=>v=.bool (p x)/\J'=U):Al Ew 223 [.sr a 0 3 l.length none,.fn (.func k) [] cap] J fun v J'=>Own J' N eH 3 (Eo p l) v/\Below N J J':=by
 refine Aj Tryz.func223 rfl rfl fun hw hu0=>?_
 have gd:=(hw _ _ hg).1;refine G8 ?_;refine Ca (f98o p l a tl k cap _ hb hg (fun x hx=>hk x hx _ (fun _ _=>rfl) rfl)) ?_
 refine G6 ?_;refine O1 (H4 (q:=(-1)) okC rfl rfl) ?_;refine G ?_;refine Ab rfl ?_ ?_<;>intro h1
 ·refine G5 ?_;obtain hs:Eo p l=l:=Ab3 ((Ha (p:=p) l 0).resolve_right gr).2;refine G ?_
  exact⟨_,rfl,_,_,a_ hw nl (fun _ _=>rfl),nl,.same (Ce gd),.inr ⟨a,tl,hN,gd,by rw[hs];rfl,gr⟩,.rfl'⟩
 ·rcases Ha (p:=p) l 0 with⟨hf,hno⟩|⟨n,x,hf,hx,hpx,hpb⟩
  ·grind
  obtain⟨hst,jw⟩:=Vc.start hx hpx hpb;have hn:=(ae_.1 hx).1;rw[hf,bn_];refine G9 ?_;refine Ci (fun q:Nat×Nat=>[(0,.sr a 0 3 l.length none),(1,.fn (.func k) [] cap),(5,iV (.ofNat q.2)),(6,iV (.ofNat q.1))])
   (fun q J0=>q.1<=l.length/\q.2=(Eo p (l.take q.1)).length/\nx J0=nx J/\(∀b,b≠a->J0.get b=J.get b)/\∃c,Vc p l c q.1/\J0.get a=some (.cells (c.flatMap eH++tl))) (fun q=>l.length-q.1) (n+1,n) SL ⟨hn,hst.symm,rfl,fun _ _=>rfl,l,jw,hg⟩ ?_
  rintro⟨j,w⟩ J0 ⟨hjl,hw0,hnx,dq,c,hdi,hc⟩;simp only at hjl hw0 hdi;refine G5 ?_;refine O1 (Bf slC rfl rfl rfl) ?_;refine G2 ?_;refine Ab rfl ?_ ?_<;>intro h2
  ·have bc:j<l.length:=gr;obtain⟨b,hb0⟩:=Ar bc;have hcb:=hdi.at.trans hb0
   have hwl:w<=j:=by rw[hw0];exact ai_ H0 gr
   refine G7 ?_;refine O1 (Br elC rfl rfl bc) (O1 (Dg (enc:=eH) (v:=.agg (eH b)) (fun _=>rfl) ldC rfl hc hcb (fun _=>rfl)) ?_)
   refine G6 ?_;refine Ca (hk b (ab_ hb0) J0 (fun b' hb'=>dq b' Om) hnx) ?_
   refine G2 ?_;refine Ab rfl ?_ ?_<;>intro h3
   ·have h4:p b=false:=gr;obtain⟨e1,e2,e3⟩:=hdi.keep hb0 h4;rw[←hw0]at e1 e2 e3;refine G5 ?_;refine O1 (Br elC rfl rfl Om) ?_;refine O1 (Tb (enc:=eH) (u:=b) (fun _=>rfl) ldC rfl rfl rfl hc e2) ?_
    refine G11 ?_;refine⟨(j+1,w+1),gr,SL,bc,e1.symm,gr,gr,c.set w b,e3,gr⟩
   ·have h4:p b=true:=gr;obtain⟨e1,e2⟩:=hdi.out hb0 h4;rw[←hw0]at e1;refine G6 ?_;refine⟨(j+1,w),gr,SL,bc,e1.symm,hnx,dq,c,e2,hc⟩
  ·have bj:j=l.length:=gr
   have hwl:w<=l.length:=by rw[hw0];exact ai_ H0 gr
   refine G5 ?_
   refine O1 (Aim elC rfl rfl hwl) (O1 (Aez (enc:=eH) (l:=c) (b:=w) (fun _=>rfl) elC rfl rfl hc (by rw[hdi.len];omega)) ?_)
   refine G5 ?_;refine O1 (Uv elC rfl rfl hwl) ?_;refine G2 ?_;have hs:Eo p (l.take j)=Eo p l:=gr;rw[hs]at hw0;have jx:=hdi.fst;rw[hs,←hw0]at jx;refine Bo fun hw'=>?_
   refine G ?_
   refine⟨_,rfl,_,_,a_ hw' nl (fun _ _=>rfl),ef_ gr,.same (Ce gr),.inr ⟨a,rep [.str [],.bool false,nS] (l.length-w)++tl,hN,gr,by rw[←hw0];rfl,?_⟩,⟨ef_ gr,gr⟩⟩
   grind
theorem f288o(p l a tl k cap J)(hb:l.length<1000000)(hg:J.get a=some (.cells (l.flatMap eP++tl)))(hk:∀x∈l,Al Ew k ([.agg (eP x)]++cap) J fun v J'=>v=.bool (p x)/\J'=J):Cv 288 [.sr a 0 2 l.length none,.fn (.func k) [] cap] J (iV (A5 p l 0)):=by
 refine Aj Tryz.func288 rfl rfl fun hw hu0=>?_
 refine G8 ?_;refine O1 (Bf slC rfl rfl rfl) ?_;refine G3 ?_;refine Bz l.length (fun i0=>[(0,.sr a 0 2 l.length none),(1,.fn (.func k) [] cap),(7,iV (.ofNat l.length)),(8,iV (.ofNat i0))]) (fun i0 J0=>J0=J/\A5 p l 0=A5 p (l.drop i0) i0) SL ⟨rfl,rfl⟩ ?_
 rintro i0 J0 hi0 ⟨rfl,hf0⟩;refine G5 ?_;refine Ab rfl ?_ ?_<;>intro h1
 ·have bc:i0<l.length:=gr;obtain⟨a0,ha0⟩:=Ar bc;have hd0:=A4 ha0
  iterate 13 refine G ?_
  refine O1 (Br elC rfl rfl bc) (O1 (Dg (enc:=eP) (v:=.agg (eP a0)) (fun _=>rfl) ldC rfl hg ha0 (fun _=>rfl)) ?_)
  refine Ca (hk a0 (ab_ ha0)) ?_;refine G ?_;refine Ab rfl ?_ ?_<;>intro h2
  ·refine G6 ?_;refine B4 hw rfl ?_
   exact(by rw[hf0,hd0];simp only[A5,h2,cond_true];rfl)
  ·refine G5 ?_
   refine⟨bc,SL,rfl,by rw[hf0,hd0];simp only[A5,h2,cond_false]⟩
 ·have bj:l.length<=i0:=gr;refine G6 ?_;refine B4 hw rfl ?_
  exact(by rw[hf0,ah_ bj];rfl)
theorem f272e(k:Nat)(cap v₀)(hv:v₀=nS∨v₀=.sv [] 2 0 (some 0))(J):Cv 272 [v₀,.fn (.func k) [] cap] J v₀:=by
 refine Aj Tryz.func272 rfl rfl fun hw hu0=>?_
 refine G8 ?_
 refine Nm rfl rfl rfl rfl ((f288 (fun _=>false) [] k cap J (by simp) gr).wk (.cons (by rcases hv with rfl|rfl<;>first|exact Agy|exact Dv) .refl)) ?_
 refine G6 ?_;refine O1 (H4 (q:=(-1)) okC rfl rfl) ?_;refine G ?_;refine Ab rfl ?_ ?_<;>intro h1
 ·refine G6 ?_
  exact⟨_,rfl,_,_,a_ hw nl (fun _ _=>rfl),nl,.same (by rcases hv with rfl|rfl<;>rfl),rfl,rfl⟩
 ·exact absurd h1 (by simp[A5])
theorem f272o(p l a N tl k cap J)(hb:l.length<1000000)(hN:N<=a)(hg:J.get a=some (.cells (l.flatMap eP++tl)))(hk:∀x∈l,∀U,(∀b,b<N->U.get b=J.get b)->nx U=nx J->Al Ew k ([.agg (eP x)]++cap) U fun v J'=>v=.bool (p x)/\J'=U):Al Ew 272 [.sr a 0 2 l.length none,.fn (.func k) [] cap] J fun v J'=>Own J' N eP 2 (Eo p l) v/\Below N J J':=by
 refine Aj Tryz.func272 rfl rfl fun hw hu0=>?_
 have gd:=(hw _ _ hg).1;refine G8 ?_;refine Ca (f288o p l a tl k cap _ hb hg (fun x hx=>hk x hx _ (fun _ _=>rfl) rfl)) ?_
 refine G6 ?_;refine O1 (H4 (q:=(-1)) okC rfl rfl) ?_;refine G ?_;refine Ab rfl ?_ ?_<;>intro h1
 ·refine G5 ?_;obtain hs:Eo p l=l:=Ab3 ((Ha (p:=p) l 0).resolve_right gr).2;refine G ?_
  exact⟨_,rfl,_,_,a_ hw nl (fun _ _=>rfl),nl,.same (Ce gd),.inr ⟨a,tl,hN,gd,by rw[hs];rfl,gr⟩,.rfl'⟩
 ·rcases Ha (p:=p) l 0 with⟨hf,hno⟩|⟨n,x,hf,hx,hpx,hpb⟩
  ·grind
  obtain⟨hst,jw⟩:=Vc.start hx hpx hpb;have hn:=(ae_.1 hx).1;rw[hf,bn_];refine G9 ?_;refine Ci (fun q:Nat×Nat=>[(0,.sr a 0 2 l.length none),(1,.fn (.func k) [] cap),(5,iV (.ofNat q.2)),(6,iV (.ofNat q.1))])
   (fun q J0=>q.1<=l.length/\q.2=(Eo p (l.take q.1)).length/\nx J0=nx J/\(∀b,b≠a->J0.get b=J.get b)/\∃c,Vc p l c q.1/\J0.get a=some (.cells (c.flatMap eP++tl))) (fun q=>l.length-q.1) (n+1,n) SL ⟨hn,hst.symm,rfl,fun _ _=>rfl,l,jw,hg⟩ ?_
  rintro⟨j,w⟩ J0 ⟨hjl,hw0,hnx,dq,c,hdi,hc⟩;simp only at hjl hw0 hdi;refine G5 ?_;refine O1 (Bf slC rfl rfl rfl) ?_;refine G2 ?_;refine Ab rfl ?_ ?_<;>intro h2
  ·have bc:j<l.length:=gr;obtain⟨b,hb0⟩:=Ar bc;have hcb:=hdi.at.trans hb0
   have hwl:w<=j:=by rw[hw0];exact ai_ H0 gr
   refine G7 ?_;refine O1 (Br elC rfl rfl bc) (O1 (Dg (enc:=eP) (v:=.agg (eP b)) (fun _=>rfl) ldC rfl hc hcb (fun _=>rfl)) ?_)
   refine G6 ?_;refine Ca (hk b (ab_ hb0) J0 (fun b' hb'=>dq b' Om) hnx) ?_
   refine G2 ?_;refine Ab rfl ?_ ?_<;>intro h3
   ·have h4:p b=false:=gr;obtain⟨e1,e2,e3⟩:=hdi.keep hb0 h4;rw[←hw0]at e1 e2 e3;refine G5 ?_;refine O1 (Br elC rfl rfl Om) ?_;refine O1 (Tb (enc:=eP) (u:=b) (fun _=>rfl) ldC rfl rfl rfl hc e2) ?_
    refine G11 ?_;refine⟨(j+1,w+1),gr,SL,bc,e1.symm,gr,gr,c.set w b,e3,gr⟩
   ·have h4:p b=true:=gr;obtain⟨e1,e2⟩:=hdi.out hb0 h4;rw[←hw0]at e1;refine G6 ?_;refine⟨(j+1,w),gr,SL,bc,e1.symm,hnx,dq,c,e2,hc⟩
  ·have bj:j=l.length:=gr
   have hwl:w<=l.length:=by rw[hw0];exact ai_ H0 gr
   refine G5 ?_
   refine O1 (Aim elC rfl rfl hwl) (O1 (Aez (enc:=eP) (l:=c) (b:=w) (fun _=>rfl) elC rfl rfl hc (by rw[hdi.len];omega)) ?_)
   refine G5 ?_;refine O1 (Uv elC rfl rfl hwl) ?_;refine G2 ?_;have hs:Eo p (l.take j)=Eo p l:=gr;rw[hs]at hw0;have jx:=hdi.fst;rw[hs,←hw0]at jx;refine Bo fun hw'=>?_
   refine G ?_
   refine⟨_,rfl,_,_,a_ hw' nl (fun _ _=>rfl),ef_ gr,.same (Ce gr),.inr ⟨a,rep [.str [],.str []] (l.length-w)++tl,hN,gr,by rw[←hw0];rfl,?_⟩,⟨ef_ gr,gr⟩⟩
   grind
theorem f223(p l N k cap v₀ J)(h:Own J N eH 3 l v₀)(hb:l.length<1000000)(hk:∀x∈l,∀U,(∀b,b<N->U.get b=J.get b)->nx U=nx J->Al Ew k ([.agg (eH x)]++cap) U fun v J'=>v=.bool (p x)/\J'=U):
  Al Ew 223 [v₀,.fn (.func k) [] cap] J fun v J'=>Own J' N eH 3 (Eo p l) v/\Below N J J':=by
 rcases h with⟨rfl,hv⟩|⟨a,tl,h1,h2,rfl,h4⟩
 ·exact(f223e k cap v₀ hv J).mono fun v U ⟨e1,e2⟩=>by subst e1 e2;exact⟨.inl ⟨rfl,hv⟩,.rfl'⟩
 ·exact f223o p l a N tl k cap J hb h1 h4 hk
theorem f272(p l N k cap v₀ J)(h:Own J N eP 2 l v₀)(hb:l.length<1000000)(hk:∀x∈l,∀U,(∀b,b<N->U.get b=J.get b)->nx U=nx J->Al Ew k ([.agg (eP x)]++cap) U fun v J'=>v=.bool (p x)/\J'=U):
  Al Ew 272 [v₀,.fn (.func k) [] cap] J fun v J'=>Own J' N eP 2 (Eo p l) v/\Below N J J':=by
 rcases h with⟨rfl,hv⟩|⟨a,tl,h1,h2,rfl,h4⟩
 ·exact(f272e k cap v₀ hv J).mono fun v U ⟨e1,e2⟩=>by subst e1 e2;exact⟨.inl ⟨rfl,hv⟩,.rfl'⟩
 ·exact f272o p l a N tl k cap J hb h1 h4 hk
theorem Mr{N}(h):AV.unds N (eH h)=true:=by
 show(true&&(true&&(AV.und N (Af h.text)&&true)))=true
 rw[Fv (fun _=>rfl) h.text];rfl
theorem Am6{N}(h):AV.unds N (eP h)=true:=rfl
theorem Arr{N}(l):AV.und N (slV eH 3 l)=true:=Fv Mr l
def Vd(h:Hp):Bool:= !h.floating
theorem f225(h J):Cv 225 [.agg (eH h)] J (.bool h.floating):=by
 refine Aj Tryz.func225 rfl rfl fun hw hu0=>?_
 refine G12 ?_;refine B4 hw rfl ?_;exact rfl
theorem f226(h J):Cv 226 [.agg (eH h)] J (.bool (Vd h)):=by
 refine Aj Tryz.func226 rfl rfl fun hw hu0=>?_
 iterate 13 refine G ?_
 refine B4 hw rfl ?_;exact rfl
theorem f177(f J)(hb:f.hyps.length<1000000):Cv 177 [.agg (eF f)] J (slV eH 3 (Eo (fun h=>h.floating) f.hyps)):=by
 refine Aj Tryz.func177 rfl rfl fun hw hu0=>?_
 refine G9 ?_;refine Az rfl rfl rfl rfl (f224 f.hyps _ hb) fun v U ⟨bf,cb⟩=>?_
 refine Az rfl rfl rfl rfl (f223 (fun h=>h.floating) f.hyps (nx J) 225 [] v U bf hb (fun x _ U _ _=>f225 x U)) fun v2 U2 ⟨bw,b7⟩=>?_
 refine G3 ?_;exact⟨_,rfl,slV eH 3 (Eo (fun h=>h.floating) f.hyps),J,am_ hw (cb.trans b7),nl,bw.fz (fun _=>rfl) (fun a ha=>hw.none ha) (A2 Mr _),rfl,rfl⟩
theorem f178(l J)(hb:l.length<1000000):Cv 178 [slV eH 3 l] J (slV eH 3 (Eo Vd l)):=by
 refine Aj Tryz.func178 rfl rfl fun hw hu0=>?_
 refine G7 ?_;refine Az rfl rfl rfl rfl (f224 l _ hb) fun v U ⟨bf,cb⟩=>?_
 refine Az rfl rfl rfl rfl (f223 Vd l (nx J) 226 [] v U bf hb (fun x _ U _ _=>f226 x U)) fun v2 U2 ⟨bw,b7⟩=>?_
 refine G3 ?_;exact⟨_,rfl,slV eH 3 (Eo Vd l),J,am_ hw (cb.trans b7),nl,bw.fz (fun _=>rfl) (fun a ha=>hw.none ha) (A2 Mr _),rfl,rfl⟩
theorem f274(p r m J)(hm:Fi J r m):Cv 274 [.agg (eP p),.pv [.mp r]] J (.bool (!m.has p.a|| !m.has p.b)):=by
 refine Aj Tryz.func274 rfl rfl fun hw hu0=>?_
 refine G10 ?_;refine O1 (De st9 Cr rfl hm rfl) ?_;refine G2 ?_;refine TOr 5 ?_ (fun hg=>?_) ?_
 rotate_left
 ·iterate 3 refine Gn hg ?_
  refine On hg (De st9 Cr rfl hm rfl) ?_;refine Gn hg ?_;exact Ez
 refine G3 ?_;refine B4 hw rfl ?_;exact rfl
theorem f251(r m l J)(hm:Fi J r m)(hb:l.length<1000000):Cv 251 [.mp r,slV eP 2 l] J (slV eP 2 (Eo (fun p=> !m.has p.a|| !m.has p.b) l)):=by
 refine Aj Tryz.func251 rfl rfl fun hw hu0=>?_
 refine G8 ?_;refine Az rfl rfl rfl rfl (f273 l _ hb) fun v U ⟨bf,cb⟩=>?_
 refine G ?_
 refine Az rfl rfl rfl rfl (f272 (fun p=> !m.has p.a|| !m.has p.b) l (nx J) 274 [.pv [.mp r]] v U bf hb (fun x _ U3 h3 _=>f274 x r m U3 (hm.of_get ((h3 r (hm.lt hw)).trans (cb.2 r (hm.lt hw)))))) fun v2 U2 ⟨bw,b7⟩=>?_
 refine G3 ?_
 exact⟨_,rfl,slV eP 2 (Eo (fun p=> !m.has p.a|| !m.has p.b) l),J,am_ hw (cb.trans b7),nl,bw.fz (fun _=>rfl) (fun a ha=>hw.none ha) (A2 Am6 _),rfl,rfl⟩
def H8(l:List Hp):List (List Str):=(Eo (fun h=>h.floating) l).map (·.text)
theorem Afa{l:List Hp}{i}{a:Hp}(ha:l[i]? =some a):H8 (l.take (i+1))=H8 (l.take i)++(if a.floating then[]else[a.text]):=by
 unfold H8;rw[Fw ha,Ru,co_];grind
theorem Am7{l}:(H8 l).length<=l.length:=by unfold H8;rw[cx_];exact H0
abbrev eL(t:List Str):List AV:=[Af t]
theorem Axb:∀t,(eL t).length=1:=fun _=>rfl
theorem Qq:∀t,(eH t).length=3:=fun _=>rfl
theorem Am8{N}(t):AV.unds N (eL t)=true:=by show(AV.und N (Af t)&&true)=true;rw[Fv (fun _=>rfl)];rfl
theorem f248(l t J)(hb:l.length<1000000):Cv 248 [slV eH 3 l,Af t] J (slV eL 1 (t::H8 l)):=by
 refine Aj Tryz.func248 rfl rfl fun hw hu0=>?_
 refine G7 ?_;refine O1 (Ai elC byW rfl rfl rfl) ?_;refine G10 ?_;refine Ci (fun q:Nat×AV=>[(5,q.2),(10,slV eH 3 l),(11,iV (.ofNat l.length)),(12,iV (.ofNat q.1))]) (fun q J0=>q.1<=l.length/\Ad0 J0 (nx J) eL 1 (t::H8 (l.take q.1)) q.2/\Below (nx J) J J0) (fun q=>l.length-q.1) (0,.sv [Af t] 1 1 (some 1)) SL ⟨aq_ _,.inl rfl,.rfl'⟩ ?_
 rintro⟨i0,v0⟩ J0 hP0;obtain⟨hi0,c7,cp⟩:i0<=l.length/\Ad0 J0 (nx J) eL 1 (t::H8 (l.take i0)) v0/\Below (nx J) J J0:=hP0;refine G5 ?_;refine Ab rfl ?_ ?_<;>intro h1
 ·have bc:i0<l.length:=gr;obtain⟨a0,ha0⟩:=Ar bc;have hd0:=A4 ha0
  iterate 15 refine G ?_
  refine Ab rfl ?_ ?_<;>intro h2
  ·have h4:a0.floating=false:=gr
   have bn:((t::H8 (l.take i0)).length+[a0.text].length)*(24+1)<=sizeLim:=by have:=Am7 (l:=l.take i0);rw[cb_]at this;simp[sizeLim];omega
   obtain⟨v,U,c5,cn,mo,_⟩:=c7.app (by':=24) Axb cp.1 [a0.text] bn
   refine G4 ?_;refine Cx (Ai elC byW rfl rfl rfl) (Dv (len:=1)) rfl rfl (O1 (Av elC rfl slC rfl rfl rfl (new:=eL a0.text) rfl c5) ?_);refine G6 ?_
   refine⟨(i0+1,v),gr,SL,bc,by rw[Afa ha0,if_neg gr];exact cn,cp.trans mo⟩
  ·have h4:a0.floating=true:=gr;refine G5 ?_
   refine⟨(i0+1,v0),gr,SL,bc,by rw[Afa ha0,if_pos h4,bh_];exact c7,cp⟩
 ·have bj:l.length<=i0:=gr;refine G6 ?_;rw[at_ bj]at c7;refine G ?_;exact⟨_,rfl,slV eL 1 (t::H8 l),J,am_ hw cp,nl,c7.fz (fun _=>rfl) (fun a ha=>hw.none ha) (A2 Am8 _),rfl,rfl⟩
theorem in3:Ak8 Ew.P 3=true:=Kr
theorem f180(h J)(hb:h.text.length<1000000):Cv 180 [.agg (eH h)] J (.agg (eH h)):=by
 refine Aj Tryz.func180 rfl rfl fun hw hu0=>?_
 refine G2 ?_;refine O1 (Aqy ldC rfl rfl) (O1 (Bu ziC) ?_);refine G4 ?_
 refine O1 (Ac (cs:=(eH h).drop 2) ldC rfl (by simp only[Em,Aio Av5]) rfl) ?_
 refine Ca (f227 h.text _ hb) ?_;refine G ?_;refine O1 (By (vs:=eH h) (vs':=eH h) ldC rfl rfl rfl (Aio Av5) rfl) ?_;refine G3 ?_
 refine O1 (Ac (cs:=eH h) ldC rfl (by simp only[Em,Sto.cells,aa_,if_true];rfl) rfl) ?_
 refine O1 (By (vs:=[.str [],.bool false,nS]) (vs':=eH h) ldC rfl rfl rfl (by unfold Sto.cells;grind) rfl) ?_
 refine G2 ?_
 exact⟨_,Am (vs:=eH h) (v:=.agg (eH h)) (ldC (t:=74)) rfl (by unfold Sto.cells;grind) rfl rfl,.agg (eH h),J,am_ hw ((((Below.rfl'.new nl _).new nl _).set nl _).set gr _),nl,.same (Mr h),rfl,rfl⟩
theorem f245(n J)(hn:n<1000000):Al Ew 245 [nS,iV (.ofNat n)] J fun v J'=>Own J' (nx J) eH 3 [] v/\Below (nx J) J J':=by
 refine Aj Tryz.func245 rfl rfl fun hw hu0=>?_
 refine G10 ?_;refine Ab rfl ?_ ?_<;>intro h1
 ·grind
 ·refine G6 ?_;refine O1 (Zz slC rfl) ?_;refine G ?_;refine O1 (Bf slC rfl rfl rfl) (O1 (W2 (p:=0) (q:=0) okC rfl rfl Om Om) ?_);refine O1 (W2 (p:=n) (q:=0) okC rfl rfl Om Om) ?_;refine G7 ?_;refine Ab rfl ?_ ?_<;>intro h2
  ·obtain⟨n,rfl⟩:∃k,n=k+1:=⟨n-1,gr⟩;refine G3 ?_;refine O1 (Zz slC rfl) (O1 (Ams elC rfl rfl) ?_);refine G ?_
   refine O1 (Ain (n:=n) elC rfl in3 rfl rfl (by simp[sizeLim];omega)) ?_
   refine G ?_;refine O1 (Bf slC rfl rfl rfl) (O1 (Uv (b:=0) elC rfl rfl Om) ?_);refine G7 ?_;refine Bo fun hw'=>?_
   refine G ?_;exact⟨_,rfl,_,_,a_ hw' nl (fun _ _=>rfl),gr,.same (Ce gr),.inr ⟨nx J,rep [.str [],.bool false,nS] (n+1),nl,gr,rfl,gr⟩,Below.rfl'.new nl _⟩
  ·refine G7 ?_;exact⟨_,rfl,_,_,a_ hw nl (fun _ _=>rfl),nl,.same rfl,.nil,.rfl'⟩
abbrev eLH(l:List Hp):List AV:=[slV eH 3 l]
theorem Np{α:Type}{ls:List (List α)}{i a}(ha:ls[i]? =some a):(ls.take (i+1)).flatten=(ls.take i).flatten++a:=by rw[Fw ha,List.flatten_append];simp
theorem K9{α:Type}(ls:List (List α))(i):((ls.take i).flatten).length<=ls.flatten.length:=by
 have h:ls.flatten=(ls.take i).flatten++(ls.drop i).flatten:=by rw[←List.flatten_append,cc_]
 grind
def H1:List Hp->List Hp->Nat
 |a::r,b::s=>if a.label=b.label then H1 r s+1 else 0
 |_,_=>0
def Ms(a b:List Hp)(n:Nat):Bool:=match a[n]?,b[n]? with
 |some x,some y=>decide (x.label=y.label)
 |_,_=>false
theorem Tm{a b n x y}(hx:a[n]? =some x)(hy:b[n]? =some y):Ms a b n=decide (x.label=y.label):=by simp only[Ms,hx,hy]
theorem Ot{a b n}(h:a.length<=n∨b.length<=n):Ms a b n=false:=by
 unfold Ms
 grind
theorem Ab4{a b n}(h:Ms a b n=true):n<a.length/\n<b.length:=by
 refine⟨Nat.lt_of_not_le fun hh=>?_,Nat.lt_of_not_le fun hh=>?_⟩
 ·rw[Ot (.inl hh)]at h;cases h
 ·rw[Ot (.inr hh)]at h;cases h
theorem Ag6{a b n}(h:Ms a b n=true):H1 (a.drop n) (b.drop n)=H1 (a.drop (n+1)) (b.drop (n+1))+1:=by
 obtain⟨h1,h2⟩:=Ab4 h;obtain⟨x,hx⟩:=Ar h1;obtain⟨y,hy⟩:=Ar h2;rw[Tm hx hy]at h;rw[A4 hx,A4 hy,H1,if_pos (of_decide_eq_true h)]
theorem Ag7{a b n}(h:Ms a b n=false):H1 (a.drop n) (b.drop n)=0:=by
 by_cases h1:n<a.length
 ·by_cases h2:n<b.length
  ·obtain⟨x,hx⟩:=Ar h1;obtain⟨y,hy⟩:=Ar h2;rw[Tm hx hy]at h;rw[A4 hx,A4 hy,H1,if_neg (of_decide_eq_false h)]
  ·rw[ah_ (show b.length<=n by omega)];cases a.drop n<;>rfl
 ·rw[ah_ (show a.length<=n by omega)];rfl
theorem Ab5:∀(a b:List Hp),H1 a b<=b.length
 |a::r,b::s=>by unfold H1;split<;>simp[Ab5 r s]
 |[],_=>aq_ _
 |_::_,[]=>aq_ _
theorem f214(ls J)(hb:ls.length<1000)(hb2:ls.flatten.length<1000000):Cv 214 [slV eLH 1 ls] J (slV eH 3 ls.flatten):=by
 refine Aj Tryz.func214 rfl rfl fun hw hu0=>?_
 iterate 16 refine G ?_
 refine Ci (fun q:Nat×AV=>[(0,slV eLH 1 ls),(3,q.2),(9,slV eLH 1 ls),(10,iV (.ofNat ls.length)),(11,iV (.ofNat q.1))]) (fun q J0=>q.1<=ls.length/\J0=J/\∃s,q.2=iV (.ofNat s)/\s=((ls.take q.1).flatten).length) (fun q=>ls.length-q.1) (0,iV (.ofNat 0)) SL ⟨aq_ _,rfl,0,rfl,rfl⟩ ?_
 rintro⟨i0,v0⟩ J0 hP0;obtain⟨hi0,rfl,s,hvs,hs⟩:i0<=ls.length/\J0=J/\∃s,v0=iV (.ofNat s)/\s=((ls.take i0).flatten).length:=hP0;refine G5 ?_;refine Ab rfl ?_ ?_<;>intro h1
 ·have bc:i0<ls.length:=gr;obtain⟨a0,ha0⟩:=Ar bc;have hd0:=A4 ha0;subst hvs
  have hfl:((ls.take i0).flatten).length+a0.length<=ls.flatten.length:=by have:=K9 ls (i0+1);grind
  iterate 14 refine G ?_
  refine O1 (D3 (p:=s) (q:=a0.length) okC rfl rfl Om) ?_;refine G7 ?_;refine Ab rfl ?_ ?_<;>intro h2
  ·grind
  ·refine G5 ?_;refine⟨(i0+1,iV (.ofNat (s+a0.length))),gr,SL,bc,rfl,_,rfl,gr⟩
 ·have bj:ls.length<=i0:=gr;subst hvs;rw[at_ bj]at hs;subst hs;refine G4 ?_;refine Az rfl rfl rfl rfl (f245 ls.flatten.length _ hb2) fun v U ⟨bf,cb⟩=>?_
  refine G10 ?_;refine Ci (fun q:Nat×AV=>[(6,q.2),(25,slV eLH 1 ls),(26,iV (.ofNat ls.length)),(27,iV (.ofNat q.1))]) (fun q J2=>q.1<=ls.length/\Own J2 (nx J0) eH 3 ((ls.take q.1).flatten) q.2/\Below (nx J0) J0 J2) (fun q=>ls.length-q.1) (0,v) SL ⟨aq_ _,bf,cb⟩ ?_
  rintro⟨i2,v2⟩ J2 hP2;obtain⟨hi2,bw,b7⟩:i2<=ls.length/\Own J2 (nx J0) eH 3 ((ls.take i2).flatten) v2/\Below (nx J0) J0 J2:=hP2;refine G5 ?_;refine Ab rfl ?_ ?_<;>intro h2
  ·have bv:i2<ls.length:=gr;obtain⟨a2,ha2⟩:=Ar bv;have hd2:=A4 ha2
   have bn:(((ls.take i2).flatten).length+a2.length)*(48+1)<=sizeLim:=by have:=K9 ls (i2+1);rw[Np ha2,bx_]at this;simp only[sizeLim];omega
   obtain⟨v,U3,c5,gg,gp,_⟩:=bw.app (by':=48) Qq b7.1 a2 bn
   refine G12 ?_;refine O1 (Av elC rfl slC rfl rfl rfl (X7 Qq _ a2) c5) ?_;refine G6 ?_;refine⟨(i2+1,v),gr,SL,bv,gr,b7.trans gp⟩
  ·have ba:ls.length<=i2:=gr;refine G6 ?_;rw[at_ ba]at bw;refine G ?_;exact⟨_,rfl,slV eH 3 ls.flatten,J0,am_ hw b7,nl,bw.fz Qq (fun a ha=>hw.none ha) (A2 Mr _),rfl,rfl⟩
theorem f220(a b J)(hb:a.length<1000000):Cv 220 [slV eH 3 a,slV eH 3 b] J (iV (.ofNat (H1 a b))):=by
 refine Aj Tryz.func220 rfl rfl fun hw hu0=>?_
 refine G10 ?_;refine Bz a.length (fun i0=>[(0,slV eH 3 a),(1,slV eH 3 b),(5,iV (.ofNat i0))]) (fun i0 J0=>J0=J/\H1 a b=i0+H1 (a.drop i0) (b.drop i0)) SL ⟨rfl,(bn_ _).symm⟩ ?_
 rintro i0 J0 hi0 ⟨rfl,hf0⟩;refine G ?_;refine Gg [(28,.bool (Ms a b i0))] ?_ ?_
 ·rcases av_ (decide (Int.ofNat i0<Int.ofNat a.length))with hg4|hg4
  ·rcases av_ (decide (Int.ofNat i0<Int.ofNat b.length))with bt|bt
   ·obtain⟨x,hx⟩:=Ar (show i0<a.length by simpa using hg4)
    obtain⟨y,hy⟩:=Ar (show i0<b.length by simpa using bt)
    refine X0 ?_;refine DF (Ag rfl) (DF (Ag rfl) (DF (Jl slC rfl) (DF (Qe okC rfl rfl) (DF (Ag rfl) (Wn (w:=R2 bt hg4) (Ag rfl) (Wn (w:=R2 bt hg4) (Ag rfl) (Wn (w:=R2 bt hg4) (Jl slC rfl) ?_)))))));refine Wn (w:=R2 bt hg4) (Qe okC rfl rfl) (DF (A3 rfl (R2 bt hg4) rfl) (DF (Ag rfl) (Wn (w:=R2 bt hg4) (Ag rfl) (Wn (w:=R2 bt hg4) (Ag rfl) (Wn (w:=R2 bt hg4) (A1 elC (fun _=>rfl) rfl rfl hx) ?_)))))
    refine Wn (w:=R2 bt hg4) (Ae fdC rfl rfl) (Wn (w:=R2 bt hg4) (Ac ldC rfl rfl rfl) (Wn (w:=R2 bt hg4) (Ag rfl) (Wn (w:=R2 bt hg4) (Ag rfl) (Wn (w:=R2 bt hg4) (A1 elC (fun _=>rfl) rfl rfl hy) ?_))))
    refine Wn (w:=R2 bt hg4) (Ae fdC rfl rfl) (Wn (w:=R2 bt hg4) (Ac ldC rfl rfl rfl) (Wn (w:=R2 bt hg4) (H5 okC rfl rfl) (DF (A3 rfl (R2 bt hg4) rfl) (C1 ?_))));exact⟨rfl,rfl,⟨⟨congrArg (fun b=>some (AV.bool b)) (Tm hx hy).symm,trivial⟩,sb,rfl⟩⟩
   ·refine X0 ?_;refine DF (Ag rfl) (DF (Ag rfl) (DF (Jl slC rfl) (DF (Qe okC rfl rfl) (DF (Ag rfl) (Wn (w:=R2 bt hg4) (Ag rfl) (Wn (w:=R2 bt hg4) (Ag rfl) (Wn (w:=R2 bt hg4) (Jl slC rfl) ?_)))))));refine Wn (w:=R2 bt hg4) (Qe okC rfl rfl) (DF (A3 rfl (R2 bt hg4) rfl) (DF (Ag rfl) (Wx (w:=R2 bt hg4) (Wx (w:=R2 bt hg4) (Wx (w:=R2 bt hg4) (Wx (w:=R2 bt hg4) (Wx (w:=R2 bt hg4) ?_)))))));refine Wx (w:=R2 bt hg4) (Wx (w:=R2 bt hg4) (Wx (w:=R2 bt hg4) (Wx (w:=R2 bt hg4) (Wx (w:=R2 bt hg4) (Wx (w:=R2 bt hg4) (DF (Au rfl (R2 bt hg4) rfl) (C1 ?_)))))));exact⟨rfl,rfl,⟨⟨congrArg (fun b=>some (AV.bool b)) (Ot (.inr gr)).symm,trivial⟩,sb,rfl⟩⟩
  ·refine X0 ?_;refine DF (Ag rfl) (DF (Ag rfl) (DF (Jl slC rfl) (DF (Qe okC rfl rfl) (DF (Ag rfl) (Wx (w:=R1 hg4) (Wx (w:=R1 hg4) (Wx (w:=R1 hg4) ?_)))))));refine Wx (w:=R1 hg4) (DF (Au rfl (R1 hg4) rfl) (DF (Ag rfl) (Wx (w:=R1 hg4) (Wx (w:=R1 hg4) (Wx (w:=R1 hg4) (Wx (w:=R1 hg4) (Wx (w:=R1 hg4) ?_)))))));refine Wx (w:=R1 hg4) (Wx (w:=R1 hg4) (Wx (w:=R1 hg4) (Wx (w:=R1 hg4) (Wx (w:=R1 hg4) (Wx (w:=R1 hg4) (DF (Au rfl (R1 hg4) rfl) (C1 ?_)))))));exact⟨rfl,rfl,⟨⟨congrArg (fun b=>some (AV.bool b)) (Ot (.inl gr)).symm,trivial⟩,sb,rfl⟩⟩
 refine Ab rfl ?_ ?_<;>intro h1
 ·have bc:i0<a.length:=(Ab4 h1).1;refine G7 ?_
  refine⟨bc,SL,rfl,by rw[hf0,Ag6 h1];omega⟩
 ·have hs0:=Ag7 h1;refine G7 ?_;refine B4 hw rfl ?_
  exact(by rw[hf0,hs0];rfl)
def zH:List AV:=[.str [],.bool false,nS]
def hcs(o:Option Hp):List AV:=match o with|some h=>eH h|none=>zH
theorem Jx(o):(hcs o).length=3:=by cases o<;>rfl
theorem Ve{N}(o):AV.unds N (hcs o)=true:=by cases o with|none=>rfl|some h=>exact Mr h
theorem Vf{ρ J Rr x y m s r}(hx:Ah Ew ρ x=some (.mp r))(hm:B8 hV J r m)(hy:Ah Ew ρ y=some (sV s)):
  As Ew Rr (.lookup 221 x y true) ρ J (.tup [.agg (hcs (m.get s)),.bool (m.get s).isSome]) J:=by
 have:=Ag1 (Rr:=Rr) st9 Qo hx hm hy
 have e:((m.get s).map hV).getD (.agg [.str [],.bool false,nS])=.agg (hcs (m.get s)):=by cases m.get s<;>rfl
 grind
theorem Ai1{ρ J Rr x y m s r}(hx:Ah Ew ρ x=some (.mp r))(hm:B8 sV J r m)(hy:Ah Ew ρ y=some (sV s)):
  As Ew Rr (.lookup 333 x y true) ρ J (.tup [sV ((m.get s).getD []),.bool (m.get s).isSome]) J:=by
 have:=Ag1 (Rr:=Rr) st9 Ae6 hx hm hy
 have e:((m.get s).map sV).getD (.str [])=sV ((m.get s).getD []):=by cases m.get s<;>rfl
 grind
theorem f221(m k h J)(hk:Hj J m k):Cv 221 [.agg (eH h),.pv [knV m]] J (.bool (k.hyps.get h.label).isSome):=by
 refine Aj Tryz.func221 rfl rfl fun hw hu0=>?_
 refine G5 ?_;refine Gz 4 zH (hcs (k.hyps.get h.label)) [(5,.bool (k.hyps.get h.label).isSome)] (Ve _) rfl (fun hw=>?_) ?_
 refine XX 1 (l:=[]) trivial ?_;refine G6 ?_;refine DF (Vf rfl hk.h rfl) ?_;refine G3 ?_;refine DT (Bu ziC) (DT (By (vs:=zH) (vs':=hcs (k.hyps.get h.label)) ldC rfl rfl (A7 (Jx _)) Eg (Hh (Jx _))) ?_);refine G2 ?_
 exact⟨(by intro e he;simp at he;rcases he with rfl|rfl<;>first|exact .refl|exact K4 hw),⟨rfl,trivial⟩,sb,rfl,rfl⟩
 refine G6 ?_;refine B4 hw rfl ?_;exact rfl
def Am9(o:Option Hp)(b:Hp):Bool:=match o with|some a=>Am5 a b|none=>false
theorem Av9(o b J)(ho:o.isSome=true)(hb:b.text.length<4611686018427387904):Cv 181 [.agg (hcs o),.agg (eH b)] J (.bool (Am9 o b)):=by
 cases o with
 |none=>cases ho
 |some a=>exact f181 a b J hb
def Awa(h:Hp)(du:Bool):Bool:=((!Mq [2] h.label||(du&& !h.floating))||(h.floating&& !decide (Int.ofNat h.text.length=2)))||(!h.floating&&(decide (Int.ofNat h.text.length=0)||decide ((200:Int)<Int.ofNat h.text.length)))
def hypT(k:Kn)(h:Hp):Int:=if((k.hyps.get h.label).isSome&& !Am9 (k.hyps.get h.label) h)=true then 6 else 0
def hypX(k:Kn)(ty:SM Str)(t0 t1:Str):Bool:=((k.types.get t1).isSome&& !decide ((k.types.get t1).getD []=t0))||((ty.get t1).isSome&& !decide ((ty.get t1).getD []=t0))
def Vg(k:Kn)(lab:SM Bool)(ty:SM Str)(h:Hp)(du:Bool):Int:=
 if Awa h du=true then 2 else if((k.isSym h.label||k.frames.has h.label)||lab.has h.label)=true then 6
 else if h.floating=true then
  if(!k.consts.has (h.text.headD [])|| !k.vars.has (h.text.tail.headD []))=true then 12
  else if hypX k ty (h.text.headD []) (h.text.tail.headD [])=true then 11
  else if(ty.get (h.text.tail.headD [])).isSome=true then 6 else hypT k h
 else if(!decide (k.textF h.text=0))=true then k.textF h.text else hypT k h
theorem f215p(m k ra rb lab ty lb fl tx du J)(hk:Hj J m k)(hl:Fi J ra lab)(ht:B8 sV J rb ty)(hb:tx.length<1000000):Cv 215 [knV m,.agg [.mp ra,.mp rb],.agg [sV lb,.bool fl,Af tx],.bool du] J (iV (Vg k lab ty ⟨lb,fl,tx⟩ du)):=by
 refine Aj Tryz.func215 rfl rfl fun hw hu0=>?_
 refine G11 ?_;refine Ca (f213 lb _) ?_;refine G2 ?_;refine TOr 6 ?_ (fun hg=>?_) ?_
 rotate_left
 ·iterate 2 refine Gn hg ?_
  refine Hq 3 _ ?_ rfl rfl rfl rfl rfl (Ft rfl rfl rfl rfl (by rw[hg];rfl)) (fun hg=>?_) (fun hg=>?_) ?_
  rotate_left
  ·iterate 3 refine Gn hg ?_
   refine G ?_;refine⟨rfl,?_,?_⟩
   ·exact sb
   ·exact rfl
  ·iterate 3 refine Gn hg ?_
   refine G ?_;exact⟨rfl,sb⟩
  exact Ez
 refine G ?_;refine TOr 8 ?_ (fun hg=>?_) ?_
 rotate_left
 ·iterate 3 refine Gn hg ?_
  refine Hq 4 _ ?_ rfl rfl rfl rfl rfl (Ft rfl rfl rfl rfl (by rw[hg];rfl)) (fun hg=>?_) (fun hg=>?_) ?_
  rotate_left
  ·iterate 4 refine Gn hg ?_
   refine G ?_;refine⟨rfl,?_,?_⟩
   ·exact sb
   ·exact rfl
  ·iterate 4 refine Gn hg ?_
   refine G ?_;exact⟨rfl,sb⟩
  exact Ez
 refine G ?_;refine TOr 15 ?_ (fun hg=>?_) ?_
 rotate_left
 ·iterate 4 refine Gn hg ?_
  refine Hq 10 _ ?_ rfl rfl rfl rfl rfl (Ft rfl rfl rfl rfl (by rw[hg];rfl)) (fun hg=>?_) (fun hg=>?_) ?_
  rotate_left
  ·iterate 5 refine Gn hg ?_
   refine Qh 4 _ ?_ rfl rfl rfl rfl rfl (Ft rfl rfl rfl rfl (by rw[hg];rfl)) (fun hg=>?_) (fun hg=>?_) ?_
   rotate_left
   ·iterate 4 refine Gn hg ?_
    refine G ?_;refine⟨rfl,?_,?_⟩
    ·exact sb
    ·exact rfl
   ·iterate 4 refine Gn hg ?_
    refine G ?_;exact⟨rfl,sb⟩
   refine G ?_;refine⟨rfl,?_,?_⟩
   ·exact sb
   ·exact rfl
  ·iterate 10 refine Gn hg ?_
   refine G ?_;exact⟨rfl,sb⟩
  exact Ez
 refine G ?_;refine Ab rfl ?_ ?_<;>intro h1
 ·refine G5 ?_;refine B4 hw rfl ?_;exact congrArg iV (if_pos h1).symm
 ·refine G2 ?_
  refine Gg [(74,.bool ((k.isSym lb||k.frames.has lb)||lab.has lb))] ?_ ?_
  ·rcases av_ ((k.isSym lb))with hg4|hg4
   ·refine XS (l:=[(212,[knV m,sV lb],J,.bool (k.isSym lb),J)]) ⟨Aiz m k lb J hk,trivial⟩ ?_
    iterate 21 refine G ?_
    exact⟨⟨Cb,trivial⟩,sb,rfl⟩
   ·rcases av_ ((k.frames.has lb))with bo|bo
    ·refine XS (l:=[(212,[knV m,sV lb],J,.bool (k.isSym lb),J)]) ⟨Aiz m k lb J hk,trivial⟩ ?_;refine DF (Ag rfl) (DF (Ae fdC rfl rfl) (DF (Ac ldC rfl rfl rfl) (DT (Bq rfl rfl Bv) (DF (Ag rfl) (Wn (w:=R2 bo hg4) (Ag rfl) (Wn (w:=R2 bo hg4) (Eq rfl) (Wn (w:=R2 bo hg4) (Ae fdC rfl rfl) ?_)))))));refine Wn (w:=R2 bo hg4) (Ac ldC rfl rfl rfl) (Wn (w:=R2 bo hg4) (Ae fdC rfl rfl) (Wn (w:=R2 bo hg4) (Ac ldC rfl rfl rfl) (Wn (w:=R2 bo hg4) (De st9 Cr rfl hk.f rfl) (DF (Au rfl (R2 bo hg4) rfl) (DF (Ag rfl) (Wx (w:=R2 bo hg4) (Wx (w:=R2 bo hg4) ?_)))))));refine Wx (w:=R2 bo hg4) (Wx (w:=R2 bo hg4) (Wx (w:=R2 bo hg4) (DF (A3 rfl (R2 bo hg4) rfl) (C1 ?_))));exact⟨⟨congrArg (fun b=>some (AV.bool b)) (R2 bo hg4),trivial⟩,sb,rfl⟩
    ·refine XS (l:=[(212,[knV m,sV lb],J,.bool (k.isSym lb),J)]) ⟨Aiz m k lb J hk,trivial⟩ ?_;refine DF (Ag rfl) (DF (Ae fdC rfl rfl) (DF (Ac ldC rfl rfl rfl) (DT (Bq rfl rfl Bv) (DF (Ag rfl) (Wn (w:=R2 bo hg4) (Ag rfl) (Wn (w:=R2 bo hg4) (Eq rfl) (Wn (w:=R2 bo hg4) (Ae fdC rfl rfl) ?_)))))));refine Wn (w:=R2 bo hg4) (Ac ldC rfl rfl rfl) (Wn (w:=R2 bo hg4) (Ae fdC rfl rfl) (Wn (w:=R2 bo hg4) (Ac ldC rfl rfl rfl) (Wn (w:=R2 bo hg4) (De st9 Cr rfl hk.f rfl) (DF (Au rfl (R2 bo hg4) rfl) (DF (Ag rfl) (Wn (w:=R2 bo hg4) (Ae fdC rfl rfl) (Wn (w:=R2 bo hg4) (Ac ldC rfl rfl rfl) ?_)))))));refine Wn (w:=R2 bo hg4) (Ae fdC rfl rfl) (Wn (w:=R2 bo hg4) (Ac ldC rfl rfl rfl) (Wn (w:=R2 bo hg4) (De st9 Cr rfl hl rfl) (DF (Au rfl (R2 bo hg4) rfl) (C1 ?_))));exact⟨⟨congrArg (fun b=>some (AV.bool b)) (R2 bo hg4),trivial⟩,sb,rfl⟩
  refine Ab rfl ?_ ?_<;>intro h2
  ·refine G5 ?_;refine B4 hw rfl ?_;exact congrArg iV ((if_neg (fun hh=>Bool.noConfusion (h1.symm.trans hh))).trans (if_pos h2)).symm
  ·refine G7 ?_;refine Ab rfl ?_ ?_<;>intro h3
   ·have h3':fl=true:=h3;subst h3'
    obtain⟨t0,t1,rfl⟩:∃t0 t1,tx=[t0,t1]:=by
     have h4:tx.length=2:=gr
     match tx,h4 with
     |[a,b],_=>exact⟨a,b,rfl⟩
    refine G ?_
    refine Gg [(98,.bool (!k.consts.has t0|| !k.vars.has t1))] ?_ ?_
    ·rcases av_ ((!k.consts.has t0))with bt|bt
     ·refine X0 ?_;refine G6 ?_;refine DF (A1 elC (fun _=>rfl) rfl rfl rfl (i:=0)) ?_
      refine G ?_;refine DF (De st9 Cr rfl hk.c rfl) ?_
      iterate 14 refine G ?_
      exact⟨rfl,rfl,⟨⟨Cb,trivial⟩,sb,rfl⟩⟩
     ·refine X0 ?_;refine G6 ?_;refine DF (A1 elC (fun _=>rfl) rfl rfl rfl (i:=0)) ?_
      refine G ?_;refine DF (De st9 Cr rfl hk.c rfl) ?_;refine G8 ?_;refine Xn (A1 elC (fun _=>rfl) rfl rfl rfl (i:=1)) ?_
      refine G ?_;refine Wn (w:=R1 bt) (De st9 Cr rfl hk.v rfl) (Wn (w:=R1 bt) (Dc rfl) (DF (Au rfl (R1 bt) rfl) (C1 ?_)));exact⟨rfl,rfl,⟨⟨congrArg (fun b=>some (AV.bool b)) (R1 bt),trivial⟩,sb,rfl⟩⟩
    refine Ab rfl ?_ ?_<;>intro h4
    ·refine G5 ?_;refine B4 hw rfl ?_;exact congrArg iV ((if_neg (fun hh=>Bool.noConfusion (h1.symm.trans hh))).trans ((if_neg (fun hh=>Bool.noConfusion (h2.symm.trans hh))).trans ((if_pos h3).trans (if_pos h4)))).symm
    ·refine G2 ?_;refine X0 ?_;refine G4 ?_;refine DF (A1 elC (fun _=>rfl) rfl rfl rfl (i:=1)) ?_
     refine G ?_;refine DF (Ai1 rfl ht rfl) ?_;refine G6 ?_;refine⟨rfl,rfl,?_⟩;refine G2 ?_;refine X0 ?_;refine G6 ?_;refine DF (A1 elC (fun _=>rfl) rfl rfl rfl (i:=1)) ?_
     refine G ?_;refine DF (Ai1 rfl hk.t rfl) ?_;refine G6 ?_;refine⟨rfl,rfl,?_⟩;refine G4 ?_;refine TAn 6 ?_ (fun hg=>?_) ?_
     rotate_left
     ·iterate 3 refine Gn hg ?_
      refine On hg (A1 elC (fun _=>rfl) rfl rfl rfl (i:=0)) ?_
      refine Gn hg ?_;refine On hg (Ko okC rfl rfl) ?_;exact Ez
     refine G ?_;refine TOr 9 ?_ (fun hg=>?_) ?_
     rotate_left
     ·iterate 2 refine Gn hg ?_
      refine Hq 6 _ ?_ rfl rfl rfl rfl rfl (Ft rfl rfl rfl rfl (by rw[hg];rfl)) (fun hg=>?_) (fun hg=>?_) ?_
      rotate_left
      ·iterate 3 refine Gn hg ?_
       refine On hg (A1 elC (fun _=>rfl) rfl rfl rfl (i:=0)) ?_
       refine Gn hg ?_;refine On hg (Ko okC rfl rfl) ?_;refine G ?_;refine⟨rfl,?_,?_⟩
       ·exact sb
       ·exact rfl
      ·iterate 6 refine Gn hg ?_
       refine G ?_;exact⟨rfl,sb⟩
      exact Ez
     refine G ?_;refine Ab rfl ?_ ?_<;>intro h5
     ·refine G5 ?_;refine B4 hw rfl ?_;exact congrArg iV ((if_neg (fun hh=>Bool.noConfusion (h1.symm.trans hh))).trans ((if_neg (fun hh=>Bool.noConfusion (h2.symm.trans hh))).trans ((if_pos h3).trans ((if_neg (fun hh=>Bool.noConfusion (h4.symm.trans hh))).trans (if_pos h5))))).symm
     ·refine G5 ?_;refine Ab rfl ?_ ?_<;>intro h6
      ·refine G5 ?_;refine B4 hw rfl ?_;exact congrArg iV ((if_neg (fun hh=>Bool.noConfusion (h1.symm.trans hh))).trans ((if_neg (fun hh=>Bool.noConfusion (h2.symm.trans hh))).trans ((if_pos h3).trans ((if_neg (fun hh=>Bool.noConfusion (h4.symm.trans hh))).trans ((if_neg (fun hh=>Bool.noConfusion (h5.symm.trans hh))).trans (if_pos h6)))))).symm
      ·refine G2 ?_;refine Gz 14 zH (hcs (k.hyps.get lb)) [(15,.bool (k.hyps.get lb).isSome)] (Ve _) rfl (fun hw=>?_) ?_
       refine XX 1 (l:=[]) trivial ?_;refine G6 ?_;refine DF (Vf rfl hk.h rfl) ?_;refine G3 ?_;refine DT (Bu ziC) (DT (By (vs:=zH) (vs':=hcs (k.hyps.get lb)) ldC rfl rfl (A7 (Jx _)) Eg (Hh (Jx _))) ?_);refine G2 ?_
       exact⟨(by intro e he;simp at he;rcases he with rfl|rfl<;>first|exact .refl|exact K4 hw),⟨rfl,trivial⟩,sb,rfl,rfl⟩
       refine G4 ?_;refine TAn 4 ?_ (fun hg=>?_) ?_
       rotate_left
       ·refine On hg (Ac (v:=.agg (hcs (k.hyps.get lb))) ldC rfl rfl (Wz (Jx _))) ?_;refine Gn hg ?_
        refine Bh rfl rfl rfl (by rw[hg];rfl) rfl rfl rfl rfl (Av9 _ ⟨lb,true,[t0,t1]⟩ _ hg (by simp)) ?_
        refine Gn hg ?_;exact Ez
       refine G ?_;refine Ab rfl ?_ ?_<;>intro h7
       ·refine G5 ?_;refine B4 hw rfl ?_;exact congrArg iV ((if_neg (fun hh=>Bool.noConfusion (h1.symm.trans hh))).trans ((if_neg (fun hh=>Bool.noConfusion (h2.symm.trans hh))).trans ((if_pos h3).trans ((if_neg (fun hh=>Bool.noConfusion (h4.symm.trans hh))).trans ((if_neg (fun hh=>Bool.noConfusion (h5.symm.trans hh))).trans ((if_neg (fun hh=>Bool.noConfusion (h6.symm.trans hh))).trans (if_pos h7))))))).symm
       ·refine G6 ?_;refine B4 hw rfl ?_;exact congrArg iV ((if_neg (fun hh=>Bool.noConfusion (h1.symm.trans hh))).trans ((if_neg (fun hh=>Bool.noConfusion (h2.symm.trans hh))).trans ((if_pos h3).trans ((if_neg (fun hh=>Bool.noConfusion (h4.symm.trans hh))).trans ((if_neg (fun hh=>Bool.noConfusion (h5.symm.trans hh))).trans ((if_neg (fun hh=>Bool.noConfusion (h6.symm.trans hh))).trans (if_neg (fun hh=>Bool.noConfusion (h7.symm.trans hh))))))))).symm
   ·refine G5 ?_;refine Ca (f216 m k tx _ hk Om) ?_;refine G7 ?_;refine Ab rfl ?_ ?_<;>intro h4
    ·refine G6 ?_;refine B4 hw rfl ?_;exact congrArg iV ((if_neg (fun hh=>Bool.noConfusion (h1.symm.trans hh))).trans ((if_neg (fun hh=>Bool.noConfusion (h2.symm.trans hh))).trans ((if_neg (fun hh=>Bool.noConfusion (h3.symm.trans hh))).trans (if_pos h4)))).symm
    ·refine G2 ?_;refine Gz 14 zH (hcs (k.hyps.get lb)) [(15,.bool (k.hyps.get lb).isSome)] (Ve _) rfl (fun hw=>?_) ?_
     refine XX 1 (l:=[]) trivial ?_;refine G6 ?_;refine DF (Vf rfl hk.h rfl) ?_;refine G3 ?_;refine DT (Bu ziC) (DT (By (vs:=zH) (vs':=hcs (k.hyps.get lb)) ldC rfl rfl (A7 (Jx _)) Eg (Hh (Jx _))) ?_);refine G2 ?_
     exact⟨(by intro e he;simp at he;rcases he with rfl|rfl<;>first|exact .refl|exact K4 hw),⟨rfl,trivial⟩,sb,rfl,rfl⟩
     refine G4 ?_;refine TAn 4 ?_ (fun hg=>?_) ?_
     rotate_left
     ·refine On hg (Ac (v:=.agg (hcs (k.hyps.get lb))) ldC rfl rfl (Wz (Jx _))) ?_;refine Gn hg ?_
      refine Bh rfl rfl rfl (by rw[hg];rfl) rfl rfl rfl rfl (Av9 _ ⟨lb,fl,tx⟩ _ hg gr) ?_
      refine Gn hg ?_;exact Ez
     refine G ?_;refine Ab rfl ?_ ?_<;>intro h5
     ·refine G5 ?_;refine B4 hw rfl ?_;exact congrArg iV ((if_neg (fun hh=>Bool.noConfusion (h1.symm.trans hh))).trans ((if_neg (fun hh=>Bool.noConfusion (h2.symm.trans hh))).trans ((if_neg (fun hh=>Bool.noConfusion (h3.symm.trans hh))).trans ((if_neg (fun hh=>Bool.noConfusion (h4.symm.trans hh))).trans (if_pos h5))))).symm
     ·refine G6 ?_;refine B4 hw rfl ?_;exact congrArg iV ((if_neg (fun hh=>Bool.noConfusion (h1.symm.trans hh))).trans ((if_neg (fun hh=>Bool.noConfusion (h2.symm.trans hh))).trans ((if_neg (fun hh=>Bool.noConfusion (h3.symm.trans hh))).trans ((if_neg (fun hh=>Bool.noConfusion (h4.symm.trans hh))).trans (if_neg (fun hh=>Bool.noConfusion (h5.symm.trans hh))))))).symm
theorem f215(m k ra rb lab ty h du J)(hk:Hj J m k)(hl:Fi J ra lab)(ht:B8 sV J rb ty)(hb:h.text.length<1000000):
  Cv 215 [knV m,.agg [.mp ra,.mp rb],.agg (eH h),.bool du] J (iV (Vg k lab ty h du)):=f215p m k ra rb lab ty h.label h.floating h.text du J hk hl ht hb
theorem Ab6{f:Nat}{args J v}(he:Aa2 Ew.P f)(h:∀C w (vs:Array Value),RL C (nx J) w args vs.toList->∃x,Calls Ew.P f vs w (fun e w'=>e=.returned x/\w'=w)/\R C (nx J) w v x):Al Ew f args J fun u U=>u=v/\U=J:=by
 intro C w vs hs hg ha;obtain⟨x,h1,h2⟩:=h C w vs ha;refine⟨he,h1.mono fun e w' hq=>?_⟩
 obtain⟨rfl,rfl⟩:=hq;exact⟨v,J,C,⟨rfl,rfl⟩,hs,cf_ _ _ _,h2⟩
theorem Ars{C N w s x}(h:R C N w (sV s) x):∃b:ByteArray,x=.string b/\b.data.toList=s:=by
 unfold sV R at h;obtain⟨b,h1,h2⟩:=h;exact⟨b,h1,Fu.1 h2⟩
theorem Art{C N w a b vs}(h:RL C N w [a,b] vs.toList):∃x y,vs=#[x,y]/\R C N w a x/\R C N w b y:=by
 obtain⟨l⟩:=vs
 match l,h with
 |[],h=>unfold RL at h;exact h.elim
 |[_],h=>unfold RL at h;have:=h.2;unfold RL at this;exact this.elim
 |[x,y],h=>unfold RL at h;have:=h.2;unfold RL at this;exact⟨x,y,rfl,h.1,this.1⟩
 |_::_::_::_,h=>unfold RL at h;have:=h.2;unfold RL at this;have:=this.2;unfold RL at this;exact this.elim
theorem f271(s t J):Cv 271 [sV s,sV t] J (iV (Lib.compareBytes s t)):=by
 refine Ab6 ⟨_,Tryz.func271,rfl,rfl⟩ fun C w vs ha=>?_
 obtain⟨x,y,rfl,hx,hy⟩:=Art ha;obtain⟨a,rfl,rfl⟩:=Ars hx;obtain⟨b,rfl,rfl⟩:=Ars hy
 exact⟨_,Tryz.strings_Compare a b w,by unfold iV R;rfl⟩
def Apc(m:SM Bool):List Str->SM Bool×Nat->SM Bool×Nat
 |[],q=>q
 |s::r,q=>Apc m r (if m.has s then(q.1.put s true,q.2+1)else q)
def Alh(m:SM Bool):List (List Str)->SM Bool×Nat->SM Bool×Nat
 |[],q=>q
 |t::r,q=>Alh m r (Apc m t q)
def occM(m:SM Bool)(ll:List (List Str)):SM Bool:=(Alh m ll ([],0)).1
def Sg(m:SM Bool)(ll:List (List Str)):AO:=.map 9 (Cn bV (occM m ll)) (Alh m ll ([],0)).2
theorem undB{N}(m):Jc N (Cn bV m)=true:=Aey (fun _=>rfl) m
theorem f247x(r m ll J)(hm:Fi J r m)(hb:ll.length<2000000)(hb2:∀t∈ll,t.length<1000000):Al Ew 247 [.mp r,slV eL 1 ll] J fun v J'=>v=.mp (nx J)/\J'=J.new (Sg m ll):=by
 refine Aj Tryz.func247 rfl rfl fun hw hu0=>?_
 refine G6 ?_;refine O1 (Gx Cr) ?_;refine G10 ?_
 refine Bz ll.length (fun i0=>[(0,.mp r),(5,.mp (nx J)),(11,slV eL 1 ll),(12,iV (.ofNat ll.length)),(13,iV (.ofNat i0))]) (fun i0 J0=>nx J<nx J0/\Below (nx J) J J0/\∃q,J0.get (nx J)=some (.map 9 (Cn bV q.1) q.2)/\Alh m ll ([],0)=Alh m (ll.drop i0) q) SL ⟨by rw[Ao];omega,Below.rfl'.new nl _,([],0),by rw[ag_,if_pos rfl];rfl,rfl⟩ ?_
 rintro i0 J0 hi0 ⟨hn0,cp,q0,ho0,hf0⟩;refine G5 ?_;refine Ab rfl ?_ ?_<;>intro h1
 ·have bc:i0<ll.length:=by simpa using h1
  obtain⟨a0,ha0⟩:=Ar bc;have hd0:=A4 ha0;have hb3:=hb2 a0 (ab_ ha0)
  iterate 16 refine G ?_
  refine Bz a0.length (fun i2=>[(0,.mp r),(5,.mp (nx J)),(11,slV eL 1 ll),(12,iV (.ofNat ll.length)),(13,iV (.ofNat i0)),(17,Af a0),(18,iV (.ofNat a0.length)),(19,iV (.ofNat i2))]) (fun i2 J2=>nx J<nx J2/\Below (nx J) J J2/\∃q,J2.get (nx J)=some (.map 9 (Cn bV q.1) q.2)/\Apc m a0 q0=Apc m (a0.drop i2) q) SL ⟨hn0,cp,q0,ho0,rfl⟩ ?_
  rintro i2 J2 hi2 ⟨hn2,b7,q2,ho2,hf2⟩;refine G5 ?_;refine Ab rfl ?_ ?_<;>intro h2
  ·have bv:i2<a0.length:=by simpa using h2
   obtain⟨a2,ha2⟩:=Ar bv;have hd2:=A4 ha2;have hr:=hm.lt hw;have hm2:Fi J2 r m:=hm.of_get (b7.2 r hr)
   iterate 13 refine G ?_
   refine O1 (De st9 Cr rfl hm2 rfl) ?_;refine G ?_;refine Ab rfl ?_ ?_<;>intro h3
   ·refine G3 ?_
    refine O1 (Gh (v:=true) st9 Cr rfl ho2 rfl rfl (fun te k1 k2=>by first|exact I0 k1 k2|exact I1 k1 k2|exact I2 k1 k2|exact Jn k1 k2|exact H6 k1 k2 rfl)) ?_
    refine G5 ?_
    refine⟨bv,SL,by rw[Aq];exact hn2,b7.set nl _,(q2.1.put a2 true,q2.2+1),by rw[aa_,if_pos rfl],by rw[hf2,hd2,Apc,if_pos h3]⟩
   ·refine G5 ?_
    refine⟨bv,SL,hn2,b7,q2,ho2,by rw[hf2,hd2,Apc,if_neg (by rw[h3];simp)]⟩
  ·have ba:a0.length<=i2:=by simpa using h2
   refine G5 ?_
   refine⟨bc,SL,hn2,b7,q2,ho2,by rw[hf0,hd0,Alh,hf2,ah_ ba];rfl⟩
 ·have bj:ll.length<=i0:=by simpa using h1
  refine G6 ?_
  have hq:Alh m ll ([],0)=q0:=by rw[hf0,ah_ bj];rfl
  subst hq;refine G ?_
  exact⟨_,rfl,_,J.new (Sg m ll),Ds.newMap hw cp ho0 hn0 (undB _),by rw[Ao];exact dm_ _,.same (Ce (by rw[Ao];exact bl_ _)),rfl,rfl⟩
def cmpP(p q:Pr):Int:=if(!decide (Lib.compareBytes p.a q.a=0))=true then Lib.compareBytes p.a q.a else Lib.compareBytes p.b q.b
theorem f249(p q J):Cv 249 [.agg (eP p),.agg (eP q)] J (iV (cmpP p q)):=by
 refine Aj Tryz.func249 rfl rfl fun hw hu0=>?_
 iterate 13 refine G ?_
 refine Ca (f271 p.a q.a _) ?_;refine G7 ?_;refine Ab rfl ?_ ?_<;>intro h1
 ·refine G6 ?_;refine B4 hw rfl ?_;exact congrArg iV (if_pos h1).symm
 ·refine G7 ?_;refine Ca (f271 p.b q.b _) ?_;refine G3 ?_;refine B4 hw rfl ?_;exact congrArg iV (if_neg (fun hh=>Bool.noConfusion (h1.symm.trans hh))).symm
def Qr(mu:SM Bool):List Hp->Nat->Option Nat
 |[],n=>some n
 |h::r,n=>if h.floating=true then(if(!mu.has (h.text.tail.headD []))=true then none else Qr mu r (n+1))else Qr mu r n
def Ana(l:List Pr)(i:Nat)(p:Pr):Bool:=match i with
 |0=>false
 |j+1=>match l[j]? with|some q=>decide ((0:Int)<=cmpP q p)|none=>false
theorem Aru{l i p q}(h:1<=i)(hq:l[i-1]? =some q):Ana l i p=decide ((0:Int)<=cmpP q p):=by
 cases i with
 |zero=>omega
 |succ j=>simp only[Nat.add_sub_cancel]at hq;simp only[Ana,hq]
theorem Aup{l i p}(h:i=0):Ana l i p=false:=by subst h;rfl
def Ya(k:Kn)(l:List Pr)(i:Nat)(p:Pr):Bool:=((!ltS p.a p.b|| !k.vars.has p.a)|| !k.vars.has p.b)||Ana l i p
def Ov(k:Kn)(l:List Pr):List Pr->Nat->Bool
 |[],_=>false
 |p::r,i=>Ya k l i p||Ov k l r (i+1)
def Kv(k:Kn)(f:Fr):SM Bool:=occM k.vars (f.text::H8 f.hyps)
def Rv(mu:SM Bool)(l:List Pr):List Pr:=Eo (fun p=> !mu.has p.a|| !mu.has p.b) l
def Mt(k:Kn)(f:Fr):Int:=match Qr (Kv k f) f.hyps 0 with
 |none=>70
 |some n=>if(!decide (Int.ofNat n=Int.ofNat (Kv k f).length))=true then 70 else if Ov k f.wide f.wide 0=true then 70 else if(!decide (f.apart=Rv (Kv k f) f.wide))=true then 70 else 0
theorem Hj.new{J m k o}(hw:WFS J)(h:Hj J m k):Hj (J.new o) m k:=⟨h.c.new (h.c.lt hw),h.v.new (h.v.lt hw),h.f.new (h.f.lt hw),h.h.new (h.h.lt hw),h.t.new (h.t.lt hw)⟩
theorem f217(m k f J)(hk:Hj J m k)(hb:f.hyps.length<1000000)(hb2:∀t∈f.text::H8 f.hyps,t.length<1000000)(hb3:f.wide.length<1000000)(hfl:∀h∈f.hyps,h.floating=true->∃a b,h.text=[a,b]):Cv 217 [knV m,.agg (eF f)] J (iV (Mt k f)):=by
 refine Aj Tryz.func217 rfl rfl fun hw hu0=>?_
 refine G6 ?_
 refine XX 1 (l:=[(248,[slV eH 3 f.hyps,Af f.text],J,slV eL 1 (f.text::H8 f.hyps),J),(247,[.mp (m+1),slV eL 1 (f.text::H8 f.hyps)],J,.mp (nx J),(J.new (Sg k.vars (f.text::H8 f.hyps))))]) ⟨f248 f.hyps f.text J hb,f247x (m+1) k.vars (f.text::H8 f.hyps) J hk.v (by have:=Am7 (l:=f.hyps);simp;omega) hb2,trivial⟩ ?_
 refine G9 ?_
 refine DT (Bq rfl rfl (Dw (by decide) Bv)) ?_
 refine G2 ?_
 refine⟨(by intro e he;simp at he;subst he;exact .refl),?_⟩
 refine G12 ?_;have hmu:Fi (J.new (Sg k.vars (f.text::H8 f.hyps))) (nx J) (Kv k f):=B8.fresh;have hk1:Hj (J.new (Sg k.vars (f.text::H8 f.hyps))) m k:=hk.new hw;refine G ?_;refine Ci (fun q:Nat×AV=>[(0,knV m),(3,.pv (eF f)),(5,.mp (nx J)),(6,q.2),(22,slV eH 3 f.hyps),(23,iV (.ofNat f.hyps.length)),(24,iV (.ofNat q.1))]) (fun q J0=>q.1<=f.hyps.length/\J0=(J.new (Sg k.vars (f.text::H8 f.hyps)))/\∃n,q.2=iV (.ofNat n)/\n<=q.1/\Qr (Kv k f) f.hyps 0=Qr (Kv k f) (f.hyps.drop q.1) n) (fun q=>f.hyps.length-q.1) (0,iV (.ofNat 0)) SL ⟨aq_ _,rfl,0,rfl,nl,rfl⟩ ?_
 rintro⟨i0,v0⟩ J0 hP0;obtain⟨hi0,rfl,n,hvn,hni,hf0⟩:i0<=f.hyps.length/\J0=(J.new (Sg k.vars (f.text::H8 f.hyps)))/\∃n,v0=iV (.ofNat n)/\n<=i0/\Qr (Kv k f) f.hyps 0=Qr (Kv k f) (f.hyps.drop i0) n:=hP0;refine G5 ?_;refine Ab rfl ?_ ?_<;>intro h1
 ·have bc:i0<f.hyps.length:=gr;obtain⟨a0,ha0⟩:=Ar bc;have hd0:=A4 ha0;subst hvn
  iterate 14 refine G ?_
  refine Ab rfl ?_ ?_<;>intro h2
  ·have h2':a0.floating=true:=h2;obtain⟨ta,tb,htx⟩:=hfl a0 (ab_ ha0) h2';refine G6 ?_
   refine O1 (A1 elC (fun _=>rfl) rfl rfl (by grind:a0.text[1]? =some tb) (i:=1)) ?_
   refine G ?_;refine O1 (De st9 Cr rfl hmu rfl) ?_;refine G2 ?_;refine Ab rfl ?_ ?_<;>intro h3
   ·refine G4 ?_
    have hS:Mt k f=70:=by rw[Mt,hf0,hd0,Qr,if_pos h2',if_pos gr]
    refine G ?_;exact⟨_,rfl,_,J,am_ hw (Below.rfl'.new nl _),nl,.same rfl,congrArg iV hS.symm,rfl⟩
   ·refine G3 ?_;refine O1 (D3 (p:=n) (q:=1) okC rfl rfl Om) ?_;refine G6 ?_
    refine⟨(i0+1,iV (.ofNat (n+1))),gr,SL,bc,rfl,n+1,rfl,by omega,by rw[hf0,hd0,Qr,if_pos h2',if_neg gr]⟩
  ·have h2':a0.floating=false:=h2;refine G5 ?_
   refine⟨(i0+1,iV (.ofNat n)),gr,SL,bc,rfl,n,rfl,by omega,by rw[hf0,hd0,Qr,if_neg gr]⟩
 ·have bj:f.hyps.length<=i0:=gr;subst hvn
  have hs:Qr (Kv k f) f.hyps 0=some n:=by rw[hf0,ah_ bj];rfl
  refine G6 ?_;refine O1 (Aul Cr rfl hmu) ?_;refine G2 ?_;refine Ab rfl ?_ ?_<;>intro h2
  ·refine G4 ?_
   have hS:Mt k f=70:=by rw[Mt,hs];grind
   refine G ?_;exact⟨_,rfl,_,J,am_ hw (Below.rfl'.new nl _),nl,.same rfl,congrArg iV hS.symm,rfl⟩
  ·refine G10 ?_;refine Bz f.wide.length (fun i2=>[(0,knV m),(3,.pv (eF f)),(5,.mp (nx J)),(45,slV eP 2 f.wide),(46,iV (.ofNat f.wide.length)),(47,iV (.ofNat i2))]) (fun i2 J2=>J2=(J.new (Sg k.vars (f.text::H8 f.hyps)))/\Ov k f.wide f.wide 0=Ov k f.wide (f.wide.drop i2) i2) SL ⟨rfl,rfl⟩ ?_
   rintro i2 J2 hi2 ⟨rfl,hf2⟩;refine G5 ?_;refine Ab rfl ?_ ?_<;>intro h3
   ·have bv:i2<f.wide.length:=gr;obtain⟨a2,ha2⟩:=Ar bv;have hd2:=A4 ha2;refine G8 ?_;refine Rn ziC ldC rfl rfl (fun _=>rfl) rfl (fun _=>rfl) rfl rfl rfl rfl rfl ?_
    refine G ?_;refine Gg [(91,.bool (Ya k f.wide i2 a2))] ?_ ?_
    ·rcases av_ (!ltS a2.a a2.b)with hg5|hg5
     ·refine XS (l:=[]) trivial ?_;refine G4 ?_;refine DF (Abo okC rfl rfl) ?_;refine G ?_;refine Wx (w:=R1 hg5) (Wx (w:=R1 hg5) (Wx (w:=R1 hg5) (Wx (w:=R1 hg5) (Wx (w:=R1 hg5) (Wx (w:=R1 hg5) (Wx (w:=R1 hg5) (Wx (w:=R1 hg5) ?_)))))));refine DF (A3 rfl (R1 hg5) rfl) (DF (Ag rfl) (Wx (w:=R1 hg5) (Wx (w:=R1 hg5) (Wx (w:=R1 hg5) (Wx (w:=R1 hg5) (Wx (w:=R1 hg5) (Wx (w:=R1 hg5) ?_)))))));refine Wx (w:=R1 hg5) (Wx (w:=R1 hg5) (DF (A3 rfl (R1 hg5) rfl) (DF (Ag rfl) (Wx (w:=R1 hg5) (Wx (w:=R1 hg5) (Wx (w:=R1 hg5) (Du ?_)))))));refine Du (Du (Du (Du (Du (Du (Zy (e:=true) rfl rfl rfl rfl rfl rfl (Du ?_)))))));refine Wx (w:=R1 hg5) (DF (A3 rfl (R1 hg5) rfl) (C1 ?_))
      exact⟨⟨congrArg (fun b=>some (AV.bool b)) (by unfold Ya;rw[hg5];rfl),trivial⟩,sb,rfl⟩
     ·rcases av_ (!k.vars.has a2.a)with bd|bd
      ·refine XS (l:=[]) trivial ?_;refine DF (Ae fdC rfl rfl) (DF (Ac ldC rfl rfl rfl) (DF (Ae fdC rfl rfl) (DF (Ac ldC rfl rfl rfl) (DF (Abo okC rfl rfl) (DF (Ag rfl) (Wn (w:=R2 bd hg5) (Ag rfl) (Wn (w:=R2 bd hg5) (Eq rfl) ?_)))))));refine Wn (w:=R2 bd hg5) (Ae fdC rfl rfl) (Wn (w:=R2 bd hg5) (Ac ldC rfl rfl rfl) (Wn (w:=R2 bd hg5) (Ae fdC rfl rfl) (Wn (w:=R2 bd hg5) (Ac ldC rfl rfl rfl) (Wn (w:=R2 bd hg5) (De st9 Cr rfl hk1.v rfl) (Wn (w:=R2 bd hg5) (Dc rfl) (DF (Au rfl (R2 bd hg5) rfl) (DF (Ag rfl) ?_)))))));refine Wx (w:=R2 bd hg5) (Wx (w:=R2 bd hg5) (Wx (w:=R2 bd hg5) (Wx (w:=R2 bd hg5) (Wx (w:=R2 bd hg5) (Wx (w:=R2 bd hg5) (Wx (w:=R2 bd hg5) (Wx (w:=R2 bd hg5) ?_)))))));refine DF (A3 rfl (R2 bd hg5) rfl) (DF (Ag rfl) (Wx (w:=R2 bd hg5) (Wx (w:=R2 bd hg5) (Wx (w:=R2 bd hg5) (Du (Du (Du ?_)))))));refine Du (Du (Du (Du (Zy (e:=true) rfl rfl rfl rfl rfl rfl (Du (Wx (w:=R2 bd hg5) (DF (A3 rfl (R2 bd hg5) rfl) ?_)))))));refine C1 ?_
       exact⟨⟨congrArg (fun b=>some (AV.bool b)) (by unfold Ya;grind),trivial⟩,sb,rfl⟩
      ·rcases av_ (!k.vars.has a2.b)with bg|bg
       ·refine XS (l:=[]) trivial ?_;refine DF (Ae fdC rfl rfl) (DF (Ac ldC rfl rfl rfl) (DF (Ae fdC rfl rfl) (DF (Ac ldC rfl rfl rfl) (DF (Abo okC rfl rfl) (DF (Ag rfl) (Wn (w:=R3 bg bd hg5) (Ag rfl) (Wn (w:=R3 bg bd hg5) (Eq rfl) ?_)))))));refine Wn (w:=R3 bg bd hg5) (Ae fdC rfl rfl) (Wn (w:=R3 bg bd hg5) (Ac ldC rfl rfl rfl) (Wn (w:=R3 bg bd hg5) (Ae fdC rfl rfl) (Wn (w:=R3 bg bd hg5) (Ac ldC rfl rfl rfl) (Wn (w:=R3 bg bd hg5) (De st9 Cr rfl hk1.v rfl) (Wn (w:=R3 bg bd hg5) (Dc rfl) (DF (Au rfl (R3 bg bd hg5) rfl) (DF (Ag rfl) ?_)))))));refine Wn (w:=R3 bg bd hg5) (Ag rfl) (Wn (w:=R3 bg bd hg5) (Eq rfl) (Wn (w:=R3 bg bd hg5) (Ae fdC rfl rfl) (Wn (w:=R3 bg bd hg5) (Ac ldC rfl rfl rfl) (Wn (w:=R3 bg bd hg5) (Ae fdC rfl rfl) (Wn (w:=R3 bg bd hg5) (Ac ldC rfl rfl rfl) (Wn (w:=R3 bg bd hg5) (De st9 Cr rfl hk1.v rfl) (Wn (w:=R3 bg bd hg5) (Dc rfl) ?_)))))));refine DF (Au rfl (R3 bg bd hg5) rfl) (DF (Ag rfl) (Wx (w:=R3 bg bd hg5) (Wx (w:=R3 bg bd hg5) (Wx (w:=R3 bg bd hg5) (Du (Du (Du ?_)))))));refine Du (Du (Du (Du (Zy (e:=true) rfl rfl rfl rfl rfl rfl (Du (Wx (w:=R3 bg bd hg5) (DF (A3 rfl (R3 bg bd hg5) rfl) ?_)))))));refine C1 ?_
        exact⟨⟨congrArg (fun b=>some (AV.bool b)) (by unfold Ya;grind),trivial⟩,sb,rfl⟩
       ·rcases av_ (decide ((0:Int)<Int.ofNat i2))with bm|bm
        ·have h1i:0<i2:=gr
         obtain⟨pq,hpq⟩:=Ar (show i2-1<f.wide.length by omega)
         refine XS (l:=[(249,[.agg (eP pq),.agg (eP a2)],(J.new (Sg k.vars (f.text::H8 f.hyps))),iV (cmpP pq a2),(J.new (Sg k.vars (f.text::H8 f.hyps))))]) ⟨f249 pq a2 _,trivial⟩ ?_;refine DF (Ae fdC rfl rfl) (DF (Ac ldC rfl rfl rfl) (DF (Ae fdC rfl rfl) (DF (Ac ldC rfl rfl rfl) (DF (Abo okC rfl rfl) (DF (Ag rfl) (Wn (w:=R4 bm bg bd hg5) (Ag rfl) (Wn (w:=R4 bm bg bd hg5) (Eq rfl) ?_)))))));refine Wn (w:=R4 bm bg bd hg5) (Ae fdC rfl rfl) (Wn (w:=R4 bm bg bd hg5) (Ac ldC rfl rfl rfl) (Wn (w:=R4 bm bg bd hg5) (Ae fdC rfl rfl) (Wn (w:=R4 bm bg bd hg5) (Ac ldC rfl rfl rfl) (Wn (w:=R4 bm bg bd hg5) (De st9 Cr rfl hk1.v rfl) (Wn (w:=R4 bm bg bd hg5) (Dc rfl) (DF (Au rfl (R4 bm bg bd hg5) rfl) (DF (Ag rfl) ?_)))))));refine Wn (w:=R4 bm bg bd hg5) (Ag rfl) (Wn (w:=R4 bm bg bd hg5) (Eq rfl) (Wn (w:=R4 bm bg bd hg5) (Ae fdC rfl rfl) (Wn (w:=R4 bm bg bd hg5) (Ac ldC rfl rfl rfl) (Wn (w:=R4 bm bg bd hg5) (Ae fdC rfl rfl) (Wn (w:=R4 bm bg bd hg5) (Ac ldC rfl rfl rfl) (Wn (w:=R4 bm bg bd hg5) (De st9 Cr rfl hk1.v rfl) (Wn (w:=R4 bm bg bd hg5) (Dc rfl) ?_)))))));refine DF (Au rfl (R4 bm bg bd hg5) rfl) (DF (Ag rfl) (Wn (w:=R4 bm bg bd hg5) (Ag rfl) (Wn (w:=R4 bm bg bd hg5) (Wv (q:=0) okC rfl rfl) (Wn (w:=R4 bm bg bd hg5) (Ag rfl) (Wn (w:=R4 bm bg bd hg5) (Ae fdC rfl rfl) (Wn (w:=R4 bm bg bd hg5) (Ac ldC rfl rfl rfl) (Wn (w:=R4 bm bg bd hg5) (Ag rfl) ?_)))))));refine Wn (w:=R4 bm bg bd hg5) (W2 (p:=i2) (q:=1) okC rfl rfl Om Om) ?_;refine Wn (w:=R4 bm bg bd hg5) (A1 elC (fun _=>rfl) rfl rfl hpq) ?_
         refine Wn (w:=R4 bm bg bd hg5) (Ac ldC rfl rfl rfl) (Wn (w:=R4 bm bg bd hg5) (Ac ldC rfl rfl rfl) (Qi (e:=true) rfl rfl rfl rfl (R4 bm bg bd hg5) rfl rfl (Bq rfl rfl Bv) (Wn (w:=R4 bm bg bd hg5) (Agq (q:=0) okC rfl rfl) (Wn (w:=R4 bm bg bd hg5) (A3 rfl (R4 bm bg bd hg5) rfl) (DF (Au rfl (R4 bm bg bd hg5) rfl) (C1 ?_))))))
         exact⟨⟨congrArg (fun b=>some (AV.bool b)) (by unfold Ya;rw[hg5,bd,bg,Aru h1i hpq];rfl),trivial⟩,sb,rfl⟩
        ·refine XS (l:=[]) trivial ?_;refine DF (Ae fdC rfl rfl) (DF (Ac ldC rfl rfl rfl) (DF (Ae fdC rfl rfl) (DF (Ac ldC rfl rfl rfl) (DF (Abo okC rfl rfl) (DF (Ag rfl) (Wn (w:=R4 bm bg bd hg5) (Ag rfl) (Wn (w:=R4 bm bg bd hg5) (Eq rfl) ?_)))))));refine Wn (w:=R4 bm bg bd hg5) (Ae fdC rfl rfl) (Wn (w:=R4 bm bg bd hg5) (Ac ldC rfl rfl rfl) (Wn (w:=R4 bm bg bd hg5) (Ae fdC rfl rfl) (Wn (w:=R4 bm bg bd hg5) (Ac ldC rfl rfl rfl) (Wn (w:=R4 bm bg bd hg5) (De st9 Cr rfl hk1.v rfl) (Wn (w:=R4 bm bg bd hg5) (Dc rfl) (DF (Au rfl (R4 bm bg bd hg5) rfl) (DF (Ag rfl) ?_)))))));refine Wn (w:=R4 bm bg bd hg5) (Ag rfl) (Wn (w:=R4 bm bg bd hg5) (Eq rfl) (Wn (w:=R4 bm bg bd hg5) (Ae fdC rfl rfl) (Wn (w:=R4 bm bg bd hg5) (Ac ldC rfl rfl rfl) (Wn (w:=R4 bm bg bd hg5) (Ae fdC rfl rfl) (Wn (w:=R4 bm bg bd hg5) (Ac ldC rfl rfl rfl) (Wn (w:=R4 bm bg bd hg5) (De st9 Cr rfl hk1.v rfl) (Wn (w:=R4 bm bg bd hg5) (Dc rfl) ?_)))))));refine DF (Au rfl (R4 bm bg bd hg5) rfl) (DF (Ag rfl) (Wn (w:=R4 bm bg bd hg5) (Ag rfl) (Wn (w:=R4 bm bg bd hg5) (Wv (q:=0) okC rfl rfl) (Wn (w:=R4 bm bg bd hg5) (Ag rfl) (Wx (w:=R4 bm bg bd hg5) (Wx (w:=R4 bm bg bd hg5) (Wx (w:=R4 bm bg bd hg5) ?_)))))));refine Wx (w:=R4 bm bg bd hg5) (Wx (w:=R4 bm bg bd hg5) (Wx (w:=R4 bm bg bd hg5) (Wx (w:=R4 bm bg bd hg5) (Ta (e:=true) rfl rfl rfl rfl (R4 bm bg bd hg5) rfl rfl (Wx (w:=R4 bm bg bd hg5) (Wn (w:=R4 bm bg bd hg5) (Au rfl (R4 bm bg bd hg5) rfl) (DF (Au rfl (R4 bm bg bd hg5) rfl) ?_)))))));refine C1 ?_
         exact⟨⟨congrArg (fun b=>some (AV.bool b)) (by unfold Ya;rw[hg5,bd,bg,Aup gr];rfl),trivial⟩,sb,rfl⟩
    refine Ab rfl ?_ ?_<;>intro h4
    ·refine G4 ?_
     have hS:Mt k f=70:=by rw[Mt,hs];exact(if_neg (fun hh=>Bool.noConfusion (h2.symm.trans hh))).trans (if_pos (by rw[hf2,hd2,Ov,h4];rfl))
     refine G ?_;exact⟨_,rfl,_,J,am_ hw (Below.rfl'.new nl _),nl,.same rfl,congrArg iV hS.symm,rfl⟩
    ·have hx4:Ya k f.wide i2 a2=false:=h4;refine G5 ?_
     refine⟨bv,SL,rfl,by rw[hf2,hd2,Ov,hx4];rfl⟩
   ·have ba:f.wide.length<=i2:=gr
    have hwb:Ov k f.wide f.wide 0=false:=by rw[hf2,ah_ ba];rfl
    refine G3 ?_
    refine XX 1 (l:=[(251,[.mp (nx J),slV eP 2 f.wide],(J.new (Sg k.vars (f.text::H8 f.hyps))),slV eP 2 (Rv (Kv k f) f.wide),(J.new (Sg k.vars (f.text::H8 f.hyps)))),(250,[slV eP 2 f.apart,slV eP 2 (Rv (Kv k f) f.wide)],(J.new (Sg k.vars (f.text::H8 f.hyps))),.bool (decide (f.apart=Rv (Kv k f) f.wide)),(J.new (Sg k.vars (f.text::H8 f.hyps))))]) ⟨f251 (nx J) (Kv k f) f.wide (J.new (Sg k.vars (f.text::H8 f.hyps))) hmu hb3,f250 f.apart (Rv (Kv k f) f.wide) (J.new (Sg k.vars (f.text::H8 f.hyps))) (by have:=H0 (p:=fun p:Pr=> !(Kv k f).has p.a|| !(Kv k f).has p.b) (l:=f.wide);unfold Rv;omega),trivial⟩ ?_
    refine G9 ?_
    refine⟨(by intro e he;simp at he;subst he;exact .refl),?_⟩
    refine Ab rfl ?_ ?_<;>intro h4
    ·refine G4 ?_
     have hS:Mt k f=70:=by rw[Mt,hs];grind
     refine G ?_;exact⟨_,rfl,_,J,am_ hw (Below.rfl'.new nl _),nl,.same rfl,congrArg iV hS.symm,rfl⟩
    ·refine G5 ?_
     have hS:Mt k f=0:=by rw[Mt,hs];grind
     refine G ?_;exact⟨_,rfl,_,J,am_ hw (Below.rfl'.new nl _),nl,.same rfl,congrArg iV hS.symm,rfl⟩
theorem Ai2(k:Nat)(J):Cv 290 [.fn (.func k) [] []] J (.fn (.func 291) [] [.pv [.fn (.func k) [] []]]):=by
 refine Aj Tryz.func290 rfl rfl fun hw hu0=>?_
 refine G11 ?_;refine B4 hw rfl ?_;exact rfl
theorem f291(k s b J)(hk:Cv k [sV s] J (.bool b)):Cv 291 [sV s,.pv [.fn (.func k) [] []]] J (.bool (!b)):=by
 refine Aj Tryz.func291 rfl rfl fun hw hu0=>?_
 refine G8 ?_;refine Ca hk ?_;refine G4 ?_;refine B4 hw rfl ?_;exact rfl
structure Stm where
 kind:Int
 label:Str
 text:List Str
 proof:List Str
def eSt(s:Stm):List AV:=[iV s.kind,sV s.label,Af s.text,Af s.proof]
theorem f289(p l k cap J)(hb:l.length<1000000)(hk:∀a∈l,Al Ew k ([.agg (eSt a)]++cap) J fun v J'=>v=.bool (p a)/\J'=J):Cv 289 [slV eSt 4 l,.fn (.func k) [] cap] J (iV (A5 p l 0)):=by
 refine Aj Tryz.func289 rfl rfl fun hw hu0=>?_
 refine G12 ?_;refine Bz l.length (fun i0=>[(0,slV eSt 4 l),(1,.fn (.func k) [] cap),(7,iV (.ofNat l.length)),(8,iV (.ofNat i0))]) (fun i0 J0=>J0=J/\A5 p l 0=A5 p (l.drop i0) i0) SL ⟨rfl,rfl⟩ ?_
 rintro i0 J0 hi0 ⟨rfl,hf0⟩;refine G5 ?_;refine Ab rfl ?_ ?_<;>intro h1
 ·have bc:i0<l.length:=by simpa using h1
  obtain⟨a0,ha0⟩:=Ar bc;have hd0:=A4 ha0
  iterate 15 refine G ?_
  refine Ca (hk a0 (ab_ ha0)) ?_;refine G ?_;refine Ab rfl ?_ ?_<;>intro h2
  ·refine G6 ?_;refine B4 hw rfl ?_
   exact(by rw[hf0,hd0];simp only[A5,h2,cond_true];rfl)
  ·refine G5 ?_
   refine⟨bc,SL,rfl,by rw[hf0,hd0];simp only[A5,h2,cond_false]⟩
 ·have bj:l.length<=i0:=by simpa using h1
  refine G6 ?_;refine B4 hw rfl ?_
  exact(by rw[hf0,ah_ bj];rfl)
theorem f275(p l k cap J)(hb:l.length<1000000)(hk:∀a∈l,Al Ew k ([.agg (eSt a)]++cap) J fun v J'=>v=.bool (p a)/\J'=J):Cv 275 [slV eSt 4 l,.fn (.func k) [] cap] J (.bool (l.any p)):=by
 refine Aj Tryz.func275 rfl rfl fun hw hu0=>?_
 refine G8 ?_;refine Ca (f289 p l k cap J hb hk) ?_;refine G4 ?_;refine B4 hw rfl ?_;exact congrArg AV.bool (Gf l)
theorem labX:Mq [2] [120]=true:=Kr
theorem symX:Mq [2,3] [120]=true:=Kr
theorem Nq{f f' a a' s s' t v r}{o:Option (AV×Sto)}(h:a'≠a)(k:Dk r (.fn f') a' t=o):Dk ((f,a,s,v,s')::r) (.fn f') a' t=o:=by
 simp only[Dk];grind
def stX(s:Str):List AV:=[iV 7,sV [120],Af [[120]],Af [s]]
theorem f277(s b J)(hp:Cv 292 [sV s] J (.bool b)):Cv 277 [.agg (stX s)] J (.bool b):=by
 refine Aj Tryz.func277 rfl rfl fun hw hu0=>?_
 refine G12 ?_;refine TOr 3 ?_ (fun hg=>?_) ?_
 rotate_left
 ·iterate 3 refine Gn hg ?_
  exact Ez
 refine G ?_;refine Ab rfl ?_ ?_<;>intro h1
 ·grind
 ·refine G5 ?_
  refine O1 (Bp Av8 rfl rfl (by decide) (n:=7) rfl) ?_
  refine G9 ?_;refine Hq 4 _ ?_ rfl rfl rfl rfl rfl (Eh rfl) (fun hg=>?_) (fun hg=>?_) ?_
  rotate_left
  ·iterate 2 refine Gn hg ?_
   refine Bh rfl rfl rfl (by rw[hg];rfl) rfl rfl rfl rfl (f213 [120] _) ?_
   refine Gn hg ?_;refine G ?_;refine⟨rfl,?_,?_⟩
   ·exact sb
   ·exact rfl
  ·grind
  refine G ?_;refine TOr 8 ?_ (fun hg=>?_) ?_
  rotate_left
  ·iterate 4 refine Gn hg ?_
   refine Hq 3 _ ?_ rfl rfl rfl rfl rfl (Ft rfl rfl rfl rfl (by rw[hg];rfl)) (fun hg=>?_) (fun hg=>?_) ?_
   rotate_left
   ·iterate 2 refine Gn hg ?_
    refine On hg (Ko (q:=[]) okC rfl rfl) ?_;refine G ?_;refine⟨rfl,?_,?_⟩
    ·exact sb
    ·exact rfl
   ·iterate 3 refine Gn hg ?_
    refine G ?_;exact⟨rfl,sb⟩
   exact Ez
  refine G ?_;refine TOr 6 ?_ (fun hg=>?_) ?_
  rotate_left
  ·iterate 6 refine Gn hg ?_
   exact Ez
  refine G ?_;refine TOr 6 ?_ (fun hg=>?_) ?_
  rotate_left
  ·iterate 6 refine Gn hg ?_
   exact Ez
  refine G ?_;refine Ab rfl ?_ ?_<;>intro h2
  ·exact absurd h2 (by rw[labX];decide)
  ·refine G5 ?_;refine Aoy [(2,.bool b)] J ?_ ?_
   ·rcases av_ (true)with hg6|hg6
    ·rcases av_ (b)with bi|bi
     ·rcases av_ (true)with cf|cf
      ·refine XI (l:=[(290,[.fn (.func 211) [] []],J,.fn (.func 291) [] [.pv [.fn (.func 211) [] []]],J),(46,[Af [[120]],.fn (.func 291) [] [.pv [.fn (.func 211) [] []]]],J,.bool false,J),(290,[.fn (.func 292) [] []],J,.fn (.func 291) [] [.pv [.fn (.func 292) [] []]],J),(46,[Af [s],.fn (.func 291) [] [.pv [.fn (.func 292) [] []]]],J,.bool (!b),J)]) ⟨Ai2 211 J,(by have:=f46 (fun w=> !Mq [2,3] w) [[120]] 291 [.pv [.fn (.func 211) [] []]] J (by simp) (fun a _=>f291 211 a _ J (f211 a J));simpa[symX]using this),Ai2 292 J,(by have:=f46 (fun _=> !b) [s] 291 [.pv [.fn (.func 292) [] []]] J (by simp) (fun a ha=>by simp at ha;subst ha;exact f291 292 a b J hp);grind),trivial⟩ ?_
       refine G4 ?_
       refine DT (Bq rfl rfl (Dw (by decide) Bv)) ?_
       refine G5 ?_
       refine Qi (e:=true) rfl rfl rfl rfl (R3 cf bi hg6) rfl rfl (Bq rfl rfl (Nq gr (Dw (by decide) Bv))) ?_
       refine Qi (e:=true) rfl rfl rfl rfl (R3 cf bi hg6) rfl rfl (Bq rfl rfl (Dw (by decide) (Nq gr (Dw (by decide) Bv)))) ?_
       iterate 15 refine G ?_
       exact⟨rfl,by simp,⟨⟨congrArg (fun b=>some (AV.bool b)) gr,trivial⟩,rfl⟩⟩
      ·refine XI (l:=[(290,[.fn (.func 211) [] []],J,.fn (.func 291) [] [.pv [.fn (.func 211) [] []]],J),(46,[Af [[120]],.fn (.func 291) [] [.pv [.fn (.func 211) [] []]]],J,.bool false,J),(290,[.fn (.func 292) [] []],J,.fn (.func 291) [] [.pv [.fn (.func 292) [] []]],J),(46,[Af [s],.fn (.func 291) [] [.pv [.fn (.func 292) [] []]]],J,.bool (!b),J)]) ⟨Ai2 211 J,gr,Ai2 292 J,gr,trivial⟩ ?_;refine G4 ?_
       refine DT (Bq rfl rfl (Dw (by decide) Bv)) ?_
       refine DF (Dc rfl) (DF (Ag rfl) (Wn (w:=R3 cf bi hg6) (Ae fdC rfl rfl) (Wn (w:=R3 cf bi hg6) (Ac ldC rfl rfl rfl) (Wn (w:=R3 cf bi hg6) (Ag rfl) (Qi (e:=true) rfl rfl rfl rfl (R3 cf bi hg6) rfl rfl (Bq rfl rfl (Nq gr (Dw (by decide) Bv))) ?_)))))
       refine Qi (e:=true) rfl rfl rfl rfl (R3 cf bi hg6) rfl rfl (Bq rfl rfl (Dw (by decide) (Nq gr (Dw (by decide) Bv)))) ?_
       refine Wn (w:=R3 cf bi hg6) (Dc rfl) ?_;refine G2 ?_;refine Wn (w:=R3 cf bi hg6) (Ae fdC rfl rfl) (Wn (w:=R3 cf bi hg6) (Ac ldC rfl rfl rfl) (Wn (w:=R3 cf bi hg6) (H4 (q:=7) okC rfl rfl) (Wn (w:=R3 cf bi hg6) (Ag rfl) (Wn (w:=R3 cf bi hg6) (Ae fdC rfl rfl) (Wn (w:=R3 cf bi hg6) (Ac ldC rfl rfl rfl) (Wn (w:=R3 cf bi hg6) (Jl slC rfl) (Wn (w:=R3 cf bi hg6) (H4 (q:=0) okC rfl rfl) ?_)))))));refine Wn (w:=R3 cf bi hg6) (Au rfl (R3 cf bi hg6) rfl) ?_;refine G3 ?_
       grind
     ·refine XI (l:=[(290,[.fn (.func 211) [] []],J,.fn (.func 291) [] [.pv [.fn (.func 211) [] []]],J),(46,[Af [[120]],.fn (.func 291) [] [.pv [.fn (.func 211) [] []]]],J,.bool false,J),(290,[.fn (.func 292) [] []],J,.fn (.func 291) [] [.pv [.fn (.func 292) [] []]],J),(46,[Af [s],.fn (.func 291) [] [.pv [.fn (.func 292) [] []]]],J,.bool (!b),J)]) ⟨Ai2 211 J,(by have:=f46 (fun w=> !Mq [2,3] w) [[120]] 291 [.pv [.fn (.func 211) [] []]] J (by simp) (fun a _=>f291 211 a _ J (f211 a J));simpa[symX]using this),Ai2 292 J,(by have:=f46 (fun _=> !b) [s] 291 [.pv [.fn (.func 292) [] []]] J (by simp) (fun a ha=>by simp at ha;subst ha;exact f291 292 a b J hp);grind),trivial⟩ ?_
      refine G4 ?_
      refine DT (Bq rfl rfl (Dw (by decide) Bv)) ?_
      refine G5 ?_
      refine Qi (e:=true) rfl rfl rfl rfl (R2 bi hg6) rfl rfl (Bq rfl rfl (Nq gr (Dw (by decide) Bv))) ?_
      refine Qi (e:=true) rfl rfl rfl rfl (R2 bi hg6) rfl rfl (Bq rfl rfl (Dw (by decide) (Nq gr (Dw (by decide) Bv)))) ?_
      refine Wn (w:=R2 bi hg6) (Dc rfl) (DF (A3 rfl (R2 bi hg6) rfl) (DF (Ag rfl) (Wx (w:=R2 bi hg6) (Wx (w:=R2 bi hg6) (Wx (w:=R2 bi hg6) (Wx (w:=R2 bi hg6) (Du ?_)))))));refine Du (Du (Du (Wx (w:=R2 bi hg6) (DF (Au rfl (R2 bi hg6) rfl) (DF (Gd rfl) (C1 ?_))))))
      exact⟨rfl,by simp,⟨⟨congrArg (fun b=>some (AV.bool b)) gr,trivial⟩,rfl⟩⟩
    ·refine XI (l:=[(290,[.fn (.func 211) [] []],J,.fn (.func 291) [] [.pv [.fn (.func 211) [] []]],J),(46,[Af [[120]],.fn (.func 291) [] [.pv [.fn (.func 211) [] []]]],J,.bool false,J),(290,[.fn (.func 292) [] []],J,.fn (.func 291) [] [.pv [.fn (.func 292) [] []]],J),(46,[Af [s],.fn (.func 291) [] [.pv [.fn (.func 292) [] []]]],J,.bool (!b),J)]) ⟨Ai2 211 J,gr,Ai2 292 J,gr,trivial⟩ ?_;refine G4 ?_
     refine DT (Bq rfl rfl (Dw (by decide) Bv)) ?_
     refine G5 ?_;refine Ta (e:=true) rfl rfl rfl rfl (R1 hg6) rfl rfl (Ta (e:=true) rfl rfl rfl rfl (R1 hg6) rfl rfl (Wx (w:=R1 hg6) (DF (Au rfl (R1 hg6) rfl) (DF (Ag rfl) (Wx (w:=R1 hg6) (Wx (w:=R1 hg6) (Wx (w:=R1 hg6) ?_)))))));refine Wx (w:=R1 hg6) ?_;refine G4 ?_;refine Wx (w:=R1 hg6) (DF (Au rfl (R1 hg6) rfl) (DF (Gd rfl) (C1 ?_)))
     grind
   refine G ?_;refine B4 hw rfl ?_;exact rfl
theorem f276(s b J)(hp:Cv 292 [sV s] J (.bool b)):Cv 276 [.agg (stX s)] J (.bool (!b)):=by
 refine Aj Tryz.func276 rfl rfl fun hw hu0=>?_
 refine G8 ?_;refine Ca (f277 s b J hp) ?_;refine G4 ?_;refine B4 hw rfl ?_;exact rfl
theorem Apd{N}:∀m:SM Str,Jc N (Cn sV m)=true:=fun m=>Aey (fun _=>rfl) m
theorem f222(a b va M N J)(ha:J.get a=some (.map 9 (Cn sV M) va))(hb:B8 sV J b N)(hab:a≠b)(sM:SM.Srt M)(sN:SM.Srt N):
  Al Ew 222 [.mp a,.mp b] J fun v J'=>v=An/\J'=J.set a (.map 9 (Cn sV (SM.over N M)) (va+N.length)):=by
 refine Aj Tryz.func222 rfl rfl fun hw hu0=>?_
 refine T_itv fun hi=>?_
 obtain⟨vb,hb⟩:=hb;have hla:a<nx J:=(hw _ _ ha).1;have hlb:b<nx J:=(hw _ _ hb).1;refine G3 ?_;refine O1 (Air Ae6 rfl hb) ?_;refine G2 ?_;refine Ci (fun q:SM Str×SM Str=>[(0,.mp a),(7,.it (nx J))])
  (fun q J0=>(∃cur,J0.get (nx J)=some (.iter (some b) vb (Cn sV q.1) cur))/\J0.get a=some (.map 9 (Cn sV q.2) (va+(N.length-q.1.length)))/\q.1.length<=N.length/\nx J<=nx J0/\(∀c,c<nx J->c≠a->J0.get c=J.get c)/\SM.Srt q.2/\SM.Key1 q.1/\(q.1=N->q.2=M)/\∀s,(q.1.get s).or (q.2.get s)=(N.get s).or (M.get s))
  (fun q=>q.1.length) (N,M) SL
  ⟨⟨none,by rw[ag_,if_pos rfl]⟩,by rw[ag_,if_neg Om,ha,Nat.sub_self];rfl,nl,by rw[Ao];omega,fun c hc _=>by rw[ag_,if_neg Om],sM,sN.key1,fun _=>rfl,fun _=>rfl⟩ ?_
 rintro⟨left,M1⟩ J0 ⟨⟨cur,hit⟩,hM,hln,hn,hk,hs,hk1,hid,hg⟩;simp only at hit hM hln hs hk1 hid hg;refine G ?_
 refine Ard rfl rfl rfl hit (by show(match J0.get b with|some (.map _ _ v)=>Nat.beq v vb|_=>false)=true;rw[hk b hlb (gx_ hab),hb];exact aw_ _) (fun h0=>?_) (fun p hp=>?_)
 ·have h0':left=[]:=by cases left with
   |nil=>rfl
   |cons x l=>cases h0
  subst h0';refine G3 ?_
  refine Ab rfl (fun h1=>by cases h1) (fun h1=>?_)
  refine G ?_
  have hO:M1=SM.over N M:=hs.ext (SM.Srt.over sM) fun s=>by rw[SM.get_over sN.key1,←hg s];simp[SM.get]
  subst hO
  refine⟨_,rfl,An,J.set a (.map 9 (Cn sV (SM.over N M)) (va+N.length)),Ds.setMap hw hi ha (Apd _) ?_ (by rw[Aq];exact hn) (fun c hc hne=>?_) ?_,by rw[Aq];exact nl,.same rfl,rfl,rfl⟩
  ·cases N with
   |nil=>exact .inr ⟨rfl,rfl⟩
   |cons x l=>exact .inl (by simp only[as_];omega)
  ·rw[aa_,if_neg Om];exact hk c hc hne
  ·rw[aa_,if_neg Om,hM];simp
 ·obtain⟨q,hq,rfl⟩:=Tc hp;obtain⟨q1,q2,q3⟩:=Abs hk1 hq;obtain⟨_,_,q4⟩:=Rp hq
  have hM':(J0.set (nx J) (.iter (some b) vb (Cn sV q.2) (some (kS q.1.1,sV q.1.2)))).get a=some (.map 9 (Cn sV M1) (va+(N.length-left.length))):=by rw[aa_,if_neg Om];exact hM
  refine G3 ?_
  refine Ab rfl (fun h1=>?_) (fun h1=>by cases h1)
  refine G4 ?_
  refine O1 (Ais rfl (by rw[aa_,if_pos rfl]) (by rw[aa_,if_neg Om,hk b hlb (gx_ hab)];exact hb)) ?_
  refine G9 ?_;refine O1 (Gh (v:=q.1.2) st9 Ae6 rfl hM' rfl rfl (fun te k1 k2=>I1 k1 k2)) ?_
  refine G ?_
  refine⟨(q.2,M1.put q.1.1 q.1.2),by show q.2.length<left.length;omega,SL,⟨_,by rw[aa_,if_neg Om,aa_,if_pos rfl]⟩,?_,by show q.2.length<=N.length;omega,by rw[Aq,Aq];exact hn,fun c hc hne=>?_,hs.put,q1,fun hh=>?_,fun s=>?_⟩
  ·rw[aa_,if_pos rfl]
   show some _=some (AO.map 9 _ (va+(N.length-q.2.length)))
   congr 2;omega
  ·rw[aa_,if_neg Om,aa_,if_neg Om];exact hk c hc hne
  ·have:q.2.length=N.length:=congrArg List.length hh;omega
  ·show(SM.get q.2 s).or ((M1.put q.1.1 q.1.2).get s)=_
   rw[←hg s,q3 s,ch_]
   by_cases hs:s=q.1.1
   ·subst hs;simp[q2]
   ·simp[hs]
def Kn.fr(k:Kn)(s:Str):Kn:={ k with frames:=k.frames.put s true }
def Jd(k:Kn)(nh:Nat):List Hp->Nat->SM Bool->SM Str->Int×SM Str
 |[],_,_,ty=>(0,ty)
 |h::r,i,lab,ty=>if(!decide (Vg k lab ty h (decide (Int.ofNat nh<=Int.ofNat i))=0))=true then(Vg k lab ty h (decide (Int.ofNat nh<=Int.ofNat i)),ty)
  else Jd k nh r (i+1) (lab.put h.label true) (if h.floating=true then ty.put (h.text.tail.headD []) (h.text.headD [])else ty)
def prfB(pw:Str->Bool)(f:Fr):Bool:=decide ((0:Int)<Int.ofNat f.proof.length)&&((!f.thm||decide ((8000:Int)<Int.ofNat f.proof.length))||f.proof.any (fun s=> !pw s))
def Fr.all(f:Fr):List Hp:=[f.hyps,f.dummies].flatten
def Kn.hyps'(k:Kn)(l:List Hp):Kn:={ k with hyps:=l.foldl (fun m h=>m.put h.label h) k.hyps }
def Ali(f:Fr):List Hp:=Eo (fun h=>h.floating) f.hyps
def Anb(f:Fr)(before:List Hp):List Hp:=(Ali f).drop (H1 before (Ali f))
def knF(k:Kn)(f:Fr):Kn:={ (k.fr f.label).hyps' f.all with types:=SM.over (Jd (k.fr f.label) f.hyps.length f.all 0 [] []).2 k.types }
def E9(pw:Str->Bool)(k:Kn)(f:Fr)(before:List Hp):Int:=
 if(!Mq [2] f.label)=true then 2
 else if(((k.hyps.get f.label).isSome||k.isSym f.label)||k.frames.has f.label)=true then 6
 else if(decide ((40:Int)<Int.ofNat f.hyps.length)||decide ((40:Int)<Int.ofNat f.dummies.length))=true then 4
 else if(!decide ((Jd (k.fr f.label) f.hyps.length f.all 0 [] []).1=0))=true then(Jd (k.fr f.label) f.hyps.length f.all 0 [] []).1
 else if(!decide ((k.fr f.label).textF f.text=0))=true then(k.fr f.label).textF f.text
 else if(!decide (Mt (k.fr f.label) f=0))=true then Mt (k.fr f.label) f
 else if prfB pw f=true then 2
 else if((Anb f before).any fun h=>((k.fr f.label).hyps.get h.label).isSome)=true then 7 else 0
structure FrB (f:Fr):Prop where
 h:f.hyps.length<1000000
 a:f.all.length<1000000
 t:f.text.length<1000000
 x:∀h∈f.all,h.text.length<1000000
 w:f.wide.length<1000000
 p:f.proof.length<1000000
def Anc(m:Nat)(J J':Sto):Prop:=nx J<=nx J'/\∀b,b<nx J->(b<m∨m+5<=b)->J'.get b=J.get b
theorem nx1{J n o}(h:nx J=n):nx (J.new o)=n+1:=gr
theorem Cd{ρ J Rr t n kt sz agg z}(hi:mpI Ew.P t=some (kt,z,sz,agg))(hn:nx J=n):As Ew Rr (.makeMap t none) ρ J (.mp n) (J.new (.map kt [] 0)):=by subst hn;exact Gx hi
theorem Hj.fr{J J' m k s ver}(hk:Hj J m k)(hw:WFS J)(hf:J'.get (m+2)=some (.map 9 (Cn bV (k.frames.put s true)) ver))(hg:∀b,b<nx J->b≠m+2->J'.get b=J.get b):Hj J' m (k.fr s):=
 ⟨hk.c.of_get (hg _ (hk.c.lt hw) Om),hk.v.of_get (hg _ (hk.v.lt hw) Om),⟨ver,hf⟩,hk.h.of_get (hg _ (hk.h.lt hw) Om),hk.t.of_get (hg _ (hk.t.lt hw) Om)⟩
theorem Hj.hi{J m a k O}(hk:Hj J m k)(h:m+5<=a):Hj (J.set a O) m k:=⟨hk.c.set Om,hk.v.set Om,hk.f.set Om,hk.h.set Om,hk.t.set Om⟩
theorem Hj.hp{J m ver k h}(hk:Hj J m k):Hj (J.set (m+3) (.map 9 (Cn hV (k.hyps.put h.label h)) ver)) m { k with hyps:=k.hyps.put h.label h }:=
 ⟨hk.c.set Om,hk.v.set Om,hk.f.set Om,dz_,hk.t.set Om⟩
theorem Hj.ty{J m ver k ty}(hk:Hj J m k):Hj (J.set (m+4) (.map 9 (Cn sV ty) ver)) m { k with types:=ty }:=
 ⟨hk.c.set Om,hk.v.set Om,hk.f.set Om,hk.h.set Om,dz_⟩
structure Ape (J J0:Sto)(m:Nat)(k:Kn)(lab:SM Bool)(ty:SM Str):Prop where
 n:nx J0=nx J+2
 g:∀b,b<nx J->b≠m+2->J0.get b=J.get b
 k:Hj J0 m k
 l:Fi J0 (nx J) lab
 t:B8 sV J0 (nx J+1) ty
 s:SM.Srt ty
theorem Ape.up{J J0 m k lab ty}(h:Ape J J0 m k lab ty):Anc m J J0:=⟨by rw[h.n];omega,fun b hb hm=>h.g b hb Om⟩
theorem Ab7{k lab ty h du}(h0:Vg k lab ty h du=0)(hf:h.floating=true):∃a b,h.text=[a,b]:=by
 have h2:h.text.length=2:=by
  unfold Vg at h0
  split at h0
  ·cases h0
  ·rename_i hb
   simp[Awa,hf]at hb
   omega
 match h.text,h2 with
 |[a,b],_=>exact⟨a,b,rfl⟩
theorem Alj(k:Kn)(l h):k.hyps' (l++[h])={ k.hyps' l with hyps:=(k.hyps' l).hyps.put h.label h }:=by
 unfold Kn.hyps';grind
theorem FrB.ess{f}(h:FrB f):∀t∈f.text::H8 f.hyps,t.length<1000000:=fun t ht=>by
 rcases an_.1 ht with rfl|ht
 ·exact h.t
 ·obtain⟨x,hx,rfl⟩:=bt_.1 ht
  exact h.x x (List.mem_flatten.2 ⟨f.hyps,by simp,(cp_.1 hx).1⟩)
theorem Arv{e:Int}(h:(!decide (e=0))=false):e=0:=gr
theorem Auq{ρ J Rr x lo hi mx own n}(hx:Ah Ew ρ x=some (slV eH 3 own))(h1:Iz Ew ρ lo=some (some (iV (.ofNat n))))(h2:Iz Ew ρ hi=some (some (iV (.ofNat own.length))))(h3:Iz Ew ρ mx=some (some (iV (.ofNat own.length))))(hn:n<=own.length):
  As Ew Rr (.slice 47 x lo hi mx) ρ J (.sv ((own.drop n).flatMap eH) 3 (own.drop n).length (some (own.length-n))) J:=by
 have hb:Do own.length none (some (iV (.ofNat n))) (some (iV (.ofNat own.length))) (some (iV (.ofNat own.length)))=some (n,own.length,some (own.length-n)):=by
  have h2:Nat.ble n own.length=true:=ar_ hn;have h3:Nat.ble own.length own.length=true:=ar_ nl;simp only[Do,iV,My,h2,Li,h3,cond_true,be_]
 have:=Ag0 (Rr:=Rr) (J:=J) (lo:=lo) (hi:=hi) (mx:=mx) (elC (t:=47)) Qq hx h1 h2 h3 hb hn nl
 grind
theorem f176(pw)(hpw:∀s J,Cv 218 [sV s] J (.bool (!pw s)))(m k f before J)(hk:Hj J m k)(hsr:SM.Srt k.types)(hB:FrB f)(hbe:before.length<1000000):Al Ew 176 [knV m,.agg (eF f),slV eH 3 before] J fun v J'=>v=iV (E9 pw k f before)/\Anc m J J'/\(E9 pw k f before=0->Hj J' m (knF k f)/\SM.Srt (knF k f).types):=by
 refine Aj Tryz.func176 rfl rfl fun hw hu0=>?_
 obtain⟨vf,hvf⟩:=id hk.f;have hm5:m+4<nx J:=hk.t.lt hw;have hba:=hB.a;refine G11 ?_;refine Ca (f213 f.label _) ?_;refine G2 ?_;refine Ab rfl ?_ ?_<;>intro h1
 ·refine G4 ?_;have hE:E9 pw k f before=2:=(if_pos h1);refine Bo fun hw9=>?_
  refine G ?_
  exact⟨_,rfl,_,_,a_ hw9 nl (fun _ _=>rfl),nl,.same rfl,congrArg iV hE.symm,⟨nl,fun _ _ _=>rfl⟩,fun hh=>absurd (hE.symm.trans hh) (by decide)⟩
 ·refine G2 ?_;refine Gz 7 zH (hcs (k.hyps.get f.label)) [(8,.bool (k.hyps.get f.label).isSome)] (Ve _) rfl (fun hw=>?_) ?_
  ·refine XX 1 (l:=[]) trivial ?_;refine G6 ?_;refine DF (Vf rfl hk.h rfl) ?_;refine G3 ?_;refine DT (Bu ziC) (DT (By (vs:=zH) (vs':=hcs (k.hyps.get f.label)) ldC rfl rfl (A7 (Jx _)) Eg (Hh (Jx _))) (DF (Gd rfl) (C1 ?_)))
   exact⟨(by intro e he;simp at he;rcases he with rfl|rfl<;>first|exact .refl|exact K4 hw),⟨rfl,trivial⟩,sb,rfl,rfl⟩
  refine Gg [(48,.bool (((k.hyps.get f.label).isSome||k.isSym f.label)||k.frames.has f.label))] ?_ ?_
  ·rcases av_ ((k.hyps.get f.label).isSome)with hg1|hg1
   ·refine XS (l:=[(212,[knV m,sV f.label],J,.bool (k.isSym f.label),J)]) ⟨Aiz m k f.label J hk,trivial⟩ ?_;refine DF (Ag rfl) (DF (Ag rfl) (Wx (w:=R1 hg1) (Wx (w:=R1 hg1) (Wx (w:=R1 hg1) (K5 rfl rfl rfl rfl (R1 hg1) rfl rfl (DF (A3 rfl (R1 hg1) rfl) (DF (Ag rfl) ?_)))))));refine Wx (w:=R1 hg1) (Wx (w:=R1 hg1) (Wx (w:=R1 hg1) (Wx (w:=R1 hg1) (Wx (w:=R1 hg1) (Wx (w:=R1 hg1) (Wx (w:=R1 hg1) (DF (A3 rfl (R1 hg1) rfl) ?_)))))));refine C1 ?_;exact⟨⟨congrArg (fun b=>some (AV.bool b)) (R1 hg1),trivial⟩,sb,rfl⟩
   ·rcases av_ (k.isSym f.label)with hg7|hg7
    ·refine XS (l:=[(212,[knV m,sV f.label],J,.bool (k.isSym f.label),J)]) ⟨Aiz m k f.label J hk,trivial⟩ ?_;refine DF (Ag rfl) (DF (Ag rfl) (Wn (w:=R2 hg7 hg1) (Ac ldC rfl rfl rfl) (Wn (w:=R2 hg7 hg1) (Ae fdC rfl rfl) (Wn (w:=R2 hg7 hg1) (Ac ldC rfl rfl rfl) (Ol rfl rfl rfl rfl (R2 hg7 hg1) rfl rfl (Bq rfl rfl Bv) (DF (Au rfl (R2 hg7 hg1) rfl) (DF (Ag rfl) ?_)))))));refine Wx (w:=R2 hg7 hg1) (Wx (w:=R2 hg7 hg1) (Wx (w:=R2 hg7 hg1) (Wx (w:=R2 hg7 hg1) (Wx (w:=R2 hg7 hg1) (Wx (w:=R2 hg7 hg1) (Wx (w:=R2 hg7 hg1) (DF (A3 rfl (R2 hg7 hg1) rfl) ?_)))))));refine C1 ?_;exact⟨⟨congrArg (fun b=>some (AV.bool b)) (R2 hg7 hg1),trivial⟩,sb,rfl⟩
    ·refine XS (l:=[(212,[knV m,sV f.label],J,.bool (k.isSym f.label),J)]) ⟨Aiz m k f.label J hk,trivial⟩ ?_;refine DF (Ag rfl) (DF (Ag rfl) (Wn (w:=R2 hg7 hg1) (Ac ldC rfl rfl rfl) (Wn (w:=R2 hg7 hg1) (Ae fdC rfl rfl) (Wn (w:=R2 hg7 hg1) (Ac ldC rfl rfl rfl) (Ol rfl rfl rfl rfl (R2 hg7 hg1) rfl rfl (Bq rfl rfl Bv) (DF (Au rfl (R2 hg7 hg1) rfl) (DF (Ag rfl) ?_)))))));refine Wn (w:=R2 hg7 hg1) (Ac ldC rfl rfl rfl) (Wn (w:=R2 hg7 hg1) (Eq rfl) (Wn (w:=R2 hg7 hg1) (Ae fdC rfl rfl) (Wn (w:=R2 hg7 hg1) (Ac ldC rfl rfl rfl) (Wn (w:=R2 hg7 hg1) (Ae fdC rfl rfl) (Wn (w:=R2 hg7 hg1) (Ac ldC rfl rfl rfl) (Wn (w:=R2 hg7 hg1) (De st9 Cr rfl hk.f rfl) (DF (Au rfl (R2 hg7 hg1) rfl) ?_)))))));refine C1 ?_;exact⟨⟨congrArg (fun b=>some (AV.bool b)) (R2 hg7 hg1),trivial⟩,sb,rfl⟩
  refine Ab rfl ?_ ?_<;>intro h2
  ·refine G4 ?_;have hE:E9 pw k f before=6:=((if_neg (fun hh=>Bool.noConfusion (h1.symm.trans hh))).trans (if_pos h2))
   refine Bo fun hw9=>?_
   refine G ?_
   exact⟨_,rfl,_,_,a_ hw9 nl (fun _ _=>rfl),nl,.same rfl,congrArg iV hE.symm,⟨nl,fun _ _ _=>rfl⟩,fun hh=>absurd (hE.symm.trans hh) (by decide)⟩
  ·refine G9 ?_;refine TOr 4 ?_ (fun hg=>?_) ?_
   rotate_left
   ·iterate 4 refine Gn hg ?_
    exact Ez
   refine G ?_;refine Ab rfl ?_ ?_<;>intro h3
   ·refine G4 ?_;have hE:E9 pw k f before=4:=((if_neg (fun hh=>Bool.noConfusion (h1.symm.trans hh))).trans ((if_neg (fun hh=>Bool.noConfusion (h2.symm.trans hh))).trans (if_pos h3)))
    refine Bo fun hw9=>?_
    refine G ?_
    exact⟨_,rfl,_,_,a_ hw9 nl (fun _ _=>rfl),nl,.same rfl,congrArg iV hE.symm,⟨nl,fun _ _ _=>rfl⟩,fun hh=>absurd (hE.symm.trans hh) (by decide)⟩
   ·refine G2 ?_;refine XS (l:=[]) trivial ?_;refine G6 ?_
    refine DT (Gh (v:=true) st9 Cr rfl hvf rfl rfl (fun te k1 k2=>by first|exact I0 k1 k2|exact I1 k1 k2|exact I2 k1 k2|exact Jn k1 k2|exact H6 k1 k2 rfl)) ?_
    refine G3 ?_;refine O1 (Cd (n:=nx J) Cr (Aq J _ _)) (O1 (Cd (n:=nx J+1) Ae6 (nx1 (Aq J _ _))) ?_);refine G10 ?_;refine Cx (Ai elC byW rfl rfl rfl) (Dv (len:=2)) rfl rfl ?_
    refine Ca (f214 [f.hyps,f.dummies] _ (by simp) hB.a) ?_
    refine G3 ?_
    have c8:∃lab ty,Ape J (((J.set (m+2) (.map 9 (Cn bV (k.frames.put f.label true)) (vf+1))).new (.map 9 [] 0)).new (.map 9 [] 0)) m (k.fr f.label) lab ty/\Jd (k.fr f.label) f.hyps.length f.all 0 [] []=Jd (k.fr f.label) f.hyps.length (f.all.drop 0) 0 lab ty/\∀h∈f.all.take 0,h.floating=true->∃a b,h.text=[a,b]:=by
     have hg:∀b,b<nx J->b≠m+2->(((J.set (m+2) (.map 9 (Cn bV (k.frames.put f.label true)) (vf+1))).new (.map 9 [] 0)).new (.map 9 [] 0)).get b=J.get b:=gr;refine⟨[],[],⟨gr,hg,hk.fr (ver:=vf+1) hw ?_ hg,⟨0,?_⟩,⟨0,?_⟩,.nil⟩,rfl,gr⟩
     ·grind
     ·rw[ag_,if_neg gr,ag_,if_pos (by rw[Aq])];rfl
     ·rw[ag_,if_pos gr];rfl
    refine G ?_;refine Bz f.all.length (fun i0=>[(2,slV eH 3 before),(3,.pv [knV m]),(4,.pv (eF f)),(9,.pv [.mp (nx J),.mp (nx J+1)]),(73,slV eH 3 f.all),(74,iV (.ofNat f.all.length)),(75,iV (.ofNat i0))]) (fun i0 J0=>∃lab ty,Ape J J0 m (k.fr f.label) lab ty/\Jd (k.fr f.label) f.hyps.length f.all 0 [] []=Jd (k.fr f.label) f.hyps.length (f.all.drop i0) i0 lab ty/\∀h∈f.all.take i0,h.floating=true->∃a b,h.text=[a,b]) SL c8 ?_
    rintro i0 J0 hi0 ⟨lab,ty,⟨hn0,hg0,hk0,hl0,ht0,hs0⟩,hf0,h20⟩;refine G5 ?_;refine Ab rfl ?_ ?_<;>intro h4
    ·have bc:i0<f.all.length:=gr;obtain⟨a0,ha0⟩:=Ar bc;have hd0:=A4 ha0;have hne0:a0∈f.all:=ab_ ha0;obtain⟨vl,hvl⟩:=id hl0;obtain⟨vt0,ph⟩:=id ht0;refine G8 ?_;refine Rn ziC ldC rfl rfl (fun _=>rfl) rfl (fun _=>rfl) rfl rfl rfl rfl rfl ?_
     refine G12 ?_;refine Ca (f215 m (k.fr f.label) (nx J) (nx J+1) lab ty a0 _ J0 hk0 hl0 ht0 (hB.x a0 (ab_ ha0))) ?_;refine G7 ?_;refine Ab rfl ?_ ?_<;>intro h5
     ·refine G5 ?_
      have hH:Jd (k.fr f.label) f.hyps.length f.all 0 [] []=((Vg (k.fr f.label) lab ty a0 (decide (Int.ofNat f.hyps.length<=Int.ofNat i0))),ty):=by rw[hf0,hd0,Jd,if_pos h5]
      have hup:Anc m J J0:=Ape.up ⟨hn0,hg0,hk0,hl0,ht0,hs0⟩;have hE:E9 pw k f before=(Vg (k.fr f.label) lab ty a0 (decide (Int.ofNat f.hyps.length<=Int.ofNat i0))):=((if_neg (fun hh=>Bool.noConfusion (h1.symm.trans hh))).trans ((if_neg (fun hh=>Bool.noConfusion (h2.symm.trans hh))).trans ((if_neg (fun hh=>Bool.noConfusion (h3.symm.trans hh))).trans gr)))
      refine Bo fun hw9=>?_
      refine G ?_;exact⟨_,rfl,_,_,a_ hw9 nl (fun _ _=>rfl),gr,.same rfl,congrArg iV hE.symm,hup,gr⟩
     ·refine G7 ?_
      refine O1 (Gh (v:=true) st9 Cr rfl hvl rfl rfl (fun te k1 k2=>by first|exact I0 k1 k2|exact I1 k1 k2|exact I2 k1 k2|exact Jn k1 k2|exact H6 k1 k2 rfl)) ?_
      refine G6 ?_;refine Ab rfl ?_ ?_<;>intro h6
      ·have h6f:a0.floating=true:=h6;obtain⟨t0,t1,htx⟩:=Ab7 (Arv h5) h6f;have htw:∀h∈f.all.take (i0+1),h.floating=true->∃a b,h.text=[a,b]:=gr;refine XS (l:=[]) trivial ?_;refine G4 ?_
       refine DF (A1 elC (fun _=>rfl) rfl rfl (by grind:a0.text[1]? =some t1) (i:=1)) ?_
       refine G3 ?_
       refine DF (A1 elC (fun _=>rfl) rfl rfl (by grind:a0.text[0]? =some t0) (i:=0)) ?_
       refine G ?_
       refine DT (Gh (v:=t0) st9 Ae6 rfl (by rw[aa_,if_neg Om];exact ph) rfl rfl (fun te k1 k2=>by first|exact I0 k1 k2|exact I1 k1 k2|exact I2 k1 k2|exact Jn k1 k2|exact H6 k1 k2 rfl)) ?_
       refine G5 ?_
       refine⟨bc,SL,⟨lab.put a0.label true,ty.put t1 t0,⟨gr,gr,(hk0.hi Om).hi Om,B8.set dz_ Om,dz_,hs0.put⟩,by rw[hf0,hd0,Jd,if_neg (fun hh=>Bool.noConfusion (h5.symm.trans hh)),if_pos h6f,htx];rfl,htw⟩⟩
      ·have h6f:a0.floating=false:=h6;have htw:∀h∈f.all.take (i0+1),h.floating=true->∃a b,h.text=[a,b]:=gr;refine G5 ?_
       refine⟨bc,SL,⟨lab.put a0.label true,ty,⟨gr,gr,hk0.hi Om,dz_,ht0.set Om,hs0⟩,by rw[hf0,hd0,Jd,if_neg (fun hh=>Bool.noConfusion (h5.symm.trans hh)),if_neg gr],htw⟩⟩
    ·have bj:f.all.length<=i0:=gr
     have hH:Jd (k.fr f.label) f.hyps.length f.all 0 [] []=(0,ty):=by rw[hf0,ah_ bj];rfl
     have hup:Anc m J J0:=Ape.up ⟨hn0,hg0,hk0,hl0,ht0,hs0⟩;have hb2:∀t∈f.text::H8 f.hyps,t.length<1000000:=hB.ess
     have hfl:∀h∈f.hyps,h.floating=true->∃a b,h.text=[a,b]:=fun h hh=>h20 h (by rw[at_ bj];simp[Fr.all,hh])
     have hrl:(Anb f before).length<4611686018427387904:=by have:=hB.h;have h9:=H0 (p:=fun h:Hp=>h.floating) (l:=f.hyps);unfold Anb Ali;grind
     refine G7 ?_;refine Ca (f216 m (k.fr f.label) f.text J0 hk0 gr) ?_;refine G7 ?_;refine Ab rfl ?_ ?_<;>intro h5
     ·refine G5 ?_;have hE:E9 pw k f before=(k.fr f.label).textF f.text:=((if_neg (fun hh=>Bool.noConfusion (h1.symm.trans hh))).trans ((if_neg (fun hh=>Bool.noConfusion (h2.symm.trans hh))).trans ((if_neg (fun hh=>Bool.noConfusion (h3.symm.trans hh))).trans ((if_neg gr).trans (if_pos h5)))))
      refine Bo fun hw9=>?_
      refine G ?_;exact⟨_,rfl,_,_,a_ hw9 nl (fun _ _=>rfl),gr,.same rfl,congrArg iV hE.symm,hup,gr⟩
     ·refine G6 ?_;refine Ca (f217 m (k.fr f.label) f J0 hk0 hB.h hb2 hB.w hfl) ?_;refine G7 ?_;refine Ab rfl ?_ ?_<;>intro h6
      ·refine G5 ?_;have hE:E9 pw k f before=Mt (k.fr f.label) f:=((if_neg (fun hh=>Bool.noConfusion (h1.symm.trans hh))).trans ((if_neg (fun hh=>Bool.noConfusion (h2.symm.trans hh))).trans ((if_neg (fun hh=>Bool.noConfusion (h3.symm.trans hh))).trans ((if_neg gr).trans ((if_neg (fun hh=>Bool.noConfusion (h5.symm.trans hh))).trans (if_pos h6))))))
       refine Bo fun hw9=>?_
       refine G ?_;exact⟨_,rfl,_,_,a_ hw9 nl (fun _ _=>rfl),gr,.same rfl,congrArg iV hE.symm,hup,gr⟩
      ·refine G9 ?_;refine TAn 14 ?_ (fun hg=>?_) ?_
       rotate_left
       ·iterate 4 refine Gn hg ?_
        refine Qh 4 _ ?_ rfl rfl rfl rfl rfl (Ft rfl rfl rfl rfl (by rw[hg];rfl)) (fun hg=>?_) (fun hg=>?_) ?_
        rotate_left
        ·iterate 4 refine Gn hg ?_
         refine G ?_;refine⟨rfl,?_,?_⟩
         ·exact sb
         ·exact rfl
        ·iterate 4 refine Gn hg ?_
         refine G ?_;exact⟨rfl,sb⟩
        refine Gn hg ?_
        refine Qh 3 _ ?_ rfl rfl rfl rfl rfl (Ft rfl rfl rfl rfl (by rw[hg];rfl)) (fun hg=>?_) (fun hg=>?_) ?_
        rotate_left
        ·iterate 2 refine Gn hg ?_
         refine Bh rfl rfl rfl (by rw[hg];rfl) rfl rfl rfl rfl (f46 (fun s=> !pw s) f.proof 218 [] J0 gr (fun a _=>hpw a J0)) ?_
         refine G ?_;refine⟨rfl,?_,?_⟩
         ·exact sb
         ·exact rfl
        ·iterate 3 refine Gn hg ?_
         refine G ?_;exact⟨rfl,sb⟩
        exact Ez
       refine G ?_;refine Ab rfl ?_ ?_<;>intro h7
       ·refine G4 ?_;have hE:E9 pw k f before=2:=((if_neg (fun hh=>Bool.noConfusion (h1.symm.trans hh))).trans ((if_neg (fun hh=>Bool.noConfusion (h2.symm.trans hh))).trans ((if_neg (fun hh=>Bool.noConfusion (h3.symm.trans hh))).trans ((if_neg gr).trans ((if_neg (fun hh=>Bool.noConfusion (h5.symm.trans hh))).trans ((if_neg (fun hh=>Bool.noConfusion (h6.symm.trans hh))).trans (if_pos h7)))))))
        refine Bo fun hw9=>?_
        refine G ?_
        exact⟨_,rfl,_,_,a_ hw9 nl (fun _ _=>rfl),gr,.same rfl,congrArg iV hE.symm,hup,fun hh=>absurd (hE.symm.trans hh) (by decide)⟩
       ·refine G4 ?_;refine Ca (f177 f J0 hB.h) ?_;refine G7 ?_;refine Ca (f220 before (Ali f) J0 hbe) ?_;refine G4 ?_;refine Cx (Auq rfl rfl rfl rfl (Ab5 _ _)) Dv rfl rfl ?_;refine G7 ?_;refine Ca (f45 (fun h=>((k.fr f.label).hyps.get h.label).isSome) (Anb f before) 221 [.pv [knV m]] J0 hrl (fun a _=>f221 m (k.fr f.label) a J0 hk0)) ?_
        refine G ?_;refine Ab rfl ?_ ?_<;>intro h8
        ·refine G4 ?_;have hE:E9 pw k f before=7:=((if_neg (fun hh=>Bool.noConfusion (h1.symm.trans hh))).trans ((if_neg (fun hh=>Bool.noConfusion (h2.symm.trans hh))).trans ((if_neg (fun hh=>Bool.noConfusion (h3.symm.trans hh))).trans ((if_neg gr).trans ((if_neg (fun hh=>Bool.noConfusion (h5.symm.trans hh))).trans ((if_neg (fun hh=>Bool.noConfusion (h6.symm.trans hh))).trans ((if_neg (fun hh=>Bool.noConfusion (h7.symm.trans hh))).trans (if_pos h8))))))))
         refine Bo fun hw9=>?_
         refine G ?_
         exact⟨_,rfl,_,_,a_ hw9 nl (fun _ _=>rfl),gr,.same rfl,congrArg iV hE.symm,hup,fun hh=>absurd (hE.symm.trans hh) (by decide)⟩
        ·refine G8 ?_;refine Cx (Ai elC byW rfl rfl rfl) (Dv (len:=2)) rfl rfl ?_
         refine Ca (f214 [f.hyps,f.dummies] _ (by simp) hB.a) ?_
         refine G4 ?_;refine Bz f.all.length (fun i2=>[(3,.pv [knV m]),(9,.pv [.mp (nx J),.mp (nx J+1)]),(161,slV eH 3 f.all),(162,iV (.ofNat f.all.length)),(163,iV (.ofNat i2))]) (fun i2 J2=>nx J2=nx J+2/\(∀b,b<nx J->b≠m+2->b≠m+3->J2.get b=J.get b)/\Hj J2 m ((k.fr f.label).hyps' (f.all.take i2))/\B8 sV J2 (nx J+1) ty) SL ⟨hn0,fun b h9 h10 _=>hg0 b h9 h10,hk0,ht0⟩ ?_
         rintro i2 J2 hi2 ⟨hn2,hg2,hk2,ht2⟩;refine G5 ?_;refine Ab rfl ?_ ?_<;>intro h9
         ·have bv:i2<f.all.length:=gr;obtain⟨a2,ha2⟩:=Ar bv;have hd2:=A4 ha2;obtain⟨vh,hvh⟩:=id hk2.h;refine G9 ?_;refine XX 1 (l:=[(180,[.agg (eH a2)],J2,.agg (eH a2),J2)]) ⟨f180 a2 J2 (hB.x a2 (ab_ ha2)),trivial⟩ ?_;refine G8 ?_
          refine DT (Gh (v:=a2) st9 Qo rfl hvh rfl rfl (fun te k1 k2=>by first|exact I0 k1 k2|exact I1 k1 k2|exact I2 k1 k2|exact Jn k1 k2|exact H6 k1 k2 rfl)) ?_
          refine G ?_
          refine⟨(by intro e he;simp at he;subst he;exact .refl),?_⟩
          refine G4 ?_
          refine⟨bv,SL,gr,gr,by rw[Fw ha2,Alj];exact hk2.hp,ht2.set Om⟩
         ·have ba:f.all.length<=i2:=gr;rw[at_ ba]at hk2;obtain⟨vt,hvt⟩:=id hk2.t;refine G2 ?_;refine XS (l:=[(222,[.mp (m+4),.mp (nx J+1)],J2,An,(J2.set (m+4) (.map 9 (Cn sV (SM.over ty k.types)) (vt+ty.length))))]) ⟨f222 (m+4) (nx J+1) vt k.types ty J2 hvt ht2 Om hsr hs0,trivial⟩ ?_;refine G12 ?_;have hE:E9 pw k f before=0:=((if_neg (fun hh=>Bool.noConfusion (h1.symm.trans hh))).trans ((if_neg (fun hh=>Bool.noConfusion (h2.symm.trans hh))).trans ((if_neg (fun hh=>Bool.noConfusion (h3.symm.trans hh))).trans ((if_neg gr).trans ((if_neg (fun hh=>Bool.noConfusion (h5.symm.trans hh))).trans ((if_neg (fun hh=>Bool.noConfusion (h6.symm.trans hh))).trans ((if_neg (fun hh=>Bool.noConfusion (h7.symm.trans hh))).trans (if_neg (fun hh=>Bool.noConfusion (h8.symm.trans hh))))))))))
          refine Bo fun hw9=>?_
          refine G ?_
          exact⟨_,rfl,_,_,a_ hw9 nl (fun _ _=>rfl),gr,.same rfl,congrArg iV hE.symm,⟨gr,gr⟩,fun _=>⟨by unfold knF;rw[hH];exact hk2.ty,by unfold knF;exact SM.Srt.over hsr⟩⟩
def kn0:Kn:=⟨[],[],[],[],[]⟩
def I3(pw:Str->Bool):List Fr->Kn->List Hp->Int
 |[],_,_=>0
 |f::r,k,before=>if(!decide (E9 pw k f before=0))=true then E9 pw k f before else I3 pw r (knF k f) (Ali f)
def Fy(pw:Str->Bool)(d:Db):Int:=
 if((decide ((400:Int)<Int.ofNat d.frames.length)||decide ((8000:Int)<Int.ofNat d.consts.length))||decide ((8000:Int)<Int.ofNat d.vars.length))=true then 8
 else if(!decide ((K8 d kn0).1=0))=true then(K8 d kn0).1 else I3 pw d.frames (K8 d kn0).2 []
structure DbB (d:Db):Prop where
 f:∀f∈d.frames,FrB f
 c:d.consts.length<1000000
 v:d.vars.length<1000000
 n:d.frames.length<1000000
theorem Tn:∀(l:List Str) (k:Kn),(Qp l k).2.types=k.types
 |[],_=>rfl
 |c::r,k=>by unfold Qp;cases L8 c<;>cases k.consts.has c<;>simp[Tn r]
theorem Ab8:∀(l:List Str) (k:Kn),(Sf l k).2.types=k.types
 |[],_=>rfl
 |c::r,k=>by unfold Sf;cases L8 c<;>cases k.isSym c<;>simp[Ab8 r]
theorem Alk(d k):(K8 d k).2.types=k.types:=by
 unfold K8;split
 ·rw[Ab8,Tn]
 ·rw[Tn]
theorem f145(pw)(hpw:∀s J,Cv 218 [sV s] J (.bool (!pw s)))(d J)(hB:DbB d):Cv 145 [dbV d] J (iV (Fy pw d)):=by
 refine Aj Tryz.func145 rfl rfl fun hw hu0=>?_
 iterate 13 refine G ?_
 refine TOr 4 ?_ (fun hg=>?_) ?_
 rotate_left
 ·iterate 4 refine Gn hg ?_
  exact Ez
 refine G ?_;refine TOr 4 ?_ (fun hg=>?_) ?_
 rotate_left
 ·iterate 4 refine Gn hg ?_
  exact Ez
 refine G ?_;refine Ab rfl ?_ ?_<;>intro h1
 ·refine G4 ?_;have hE:Fy pw d=8:=(if_pos h1);refine G ?_;exact⟨_,rfl,_,J,am_ hw fn_,nl,.same rfl,congrArg iV hE.symm,rfl⟩
 ·refine G ?_;have hbn:=hB.n;have hg5:∀b,b<nx J->(((((J.new (.map 9 [] 0)).new (.map 9 [] 0)).new (.map 9 [] 0)).new (.map 9 [] 0)).new (.map 9 [] 0)).get b=J.get b:=gr
  have pa:Hj (((((J.new (.map 9 [] 0)).new (.map 9 [] 0)).new (.map 9 [] 0)).new (.map 9 [] 0)).new (.map 9 [] 0)) (nx J) kn0:=by
   refine⟨⟨0,?_⟩,⟨0,?_⟩,⟨0,?_⟩,⟨0,?_⟩,⟨0,?_⟩⟩<;>simp only[ag_,Ao]<;>simp<;>rfl
  refine G2 ?_;refine O1 (Cd (n:=nx J) Cr rfl) (O1 (Cd (n:=nx J+1) Cr (nx1 rfl)) (O1 (Cd (n:=nx J+2) Cr (nx1 (nx1 rfl))) (O1 (Cd (n:=nx J+3) Qo (nx1 (nx1 (nx1 rfl)))) (O1 (Cd (n:=nx J+4) Ae6 (nx1 (nx1 (nx1 (nx1 rfl))))) ?_))));refine G9 ?_;refine Az rfl rfl rfl rfl (f175 (nx J) kn0 d (((((J.new (.map 9 [] 0)).new (.map 9 [] 0)).new (.map 9 [] 0)).new (.map 9 [] 0)).new (.map 9 [] 0)) pa gr gr) fun v U ⟨hv,ie,hk1⟩=>?_
  subst hv;refine G7 ?_;refine Ab rfl ?_ ?_<;>intro h2
  ·refine G5 ?_;have hE:Fy pw d=(K8 d kn0).1:=((if_neg (fun hh=>Bool.noConfusion (h1.symm.trans hh))).trans (if_pos h2))
   refine G ?_
   exact⟨_,rfl,_,J,am_ hw ⟨by rw[ie.1];grind,fun b hb=>(ie.2 b (.inl hb)).trans (hg5 b hb)⟩,nl,.same rfl,congrArg iV hE.symm,rfl⟩
  ·refine G3 ?_;refine Cx (Gd rfl) (Agy (sz:=3)) rfl rfl ?_;refine G9 ?_
   have hn1:nx J+5<=nx U:=by rw[ie.1];grind
   have hg1:∀b,b<nx J->U.get b=J.get b:=fun b hb=>(ie.2 b (.inl hb)).trans (hg5 b hb)
   have hs1:SM.Srt (K8 d kn0).2.types:=by rw[Alk];exact .nil
   refine G ?_
   refine Ci (fun q:Nat×AV=>[(3,knV (nx J)),(5,q.2),(39,slV eF 8 d.frames),(40,iV (.ofNat d.frames.length)),(41,iV (.ofNat q.1))]) (fun q J0=>q.1<=d.frames.length/\∃k be,q.2=slV eH 3 be/\be.length<1000000/\nx J+5<=nx J0/\(∀b,b<nx J->J0.get b=J.get b)/\Hj J0 (nx J) k/\SM.Srt k.types/\I3 pw d.frames (K8 d kn0).2 []=I3 pw (d.frames.drop q.1) k be) (fun q=>d.frames.length-q.1) (0,slV eH 3 []) SL ⟨aq_ _,(K8 d kn0).2,[],rfl,by simp,hn1,hg1,hk1,hs1,rfl⟩ ?_
   rintro⟨i0,v0⟩ J0 hP0;obtain⟨hi0,k,be,hbe,hbl,hn0,hg0,hk0,hs0,hf0⟩:i0<=d.frames.length/\∃k be,v0=slV eH 3 be/\be.length<1000000/\nx J+5<=nx J0/\(∀b,b<nx J->J0.get b=J.get b)/\Hj J0 (nx J) k/\SM.Srt k.types/\I3 pw d.frames (K8 d kn0).2 []=I3 pw (d.frames.drop i0) k be:=hP0;refine G5 ?_;refine Ab rfl ?_ ?_<;>intro h3
   ·have bc:i0<d.frames.length:=gr;obtain⟨a0,ha0⟩:=Ar bc;have hd0:=A4 ha0;subst hbe
    iterate 15 refine G ?_
    refine Az rfl rfl rfl rfl (f176 pw hpw (nx J) k a0 be J0 hk0 hs0 (hB.f a0 (ab_ ha0)) hbl) fun v2 U2 ⟨hv2,hup,hkn⟩=>?_
    subst hv2;refine G7 ?_;refine Ab rfl ?_ ?_<;>intro h4
    ·refine G5 ?_
     have hE:Fy pw d=E9 pw k a0 be:=((if_neg (fun hh=>Bool.noConfusion (h1.symm.trans hh))).trans ((if_neg (fun hh=>Bool.noConfusion (h2.symm.trans hh))).trans (by rw[hf0,hd0,I3];grind)))
     refine G ?_
     exact⟨_,rfl,_,J,am_ hw ⟨by have:=hup.1;omega,fun b hb=>(hup.2 b Om (.inl hb)).trans (hg0 b hb)⟩,nl,.same rfl,congrArg iV hE.symm,rfl⟩
    ·refine G3 ?_;refine Ca (f177 a0 _ (hB.f a0 (ab_ ha0)).h) ?_;refine G6 ?_
     refine⟨(i0+1,slV eH 3 (Ali a0)),gr,SL,bc,knF k a0,Ali a0,rfl,gc_ H0 (hB.f a0 (ab_ ha0)).h,ai_ hn0 hup.1,fun b hb=>(hup.2 b Om (.inl hb)).trans (hg0 b hb),(hkn (Arv h4)).1,(hkn (Arv h4)).2,by rw[hf0,hd0,I3,if_neg (fun hh=>Bool.noConfusion (h4.symm.trans hh))]⟩
   ·have bj:d.frames.length<=i0:=gr
    have hH:I3 pw d.frames (K8 d kn0).2 []=0:=by rw[hf0,ah_ bj];rfl
    refine G5 ?_;have hE:Fy pw d=0:=((if_neg (fun hh=>Bool.noConfusion (h1.symm.trans hh))).trans ((if_neg (fun hh=>Bool.noConfusion (h2.symm.trans hh))).trans (hH)))
    refine G ?_
    exact⟨_,rfl,_,J,am_ hw ⟨by omega,hg0⟩,nl,.same rfl,congrArg iV hE.symm,rfl⟩
end Go.AM
