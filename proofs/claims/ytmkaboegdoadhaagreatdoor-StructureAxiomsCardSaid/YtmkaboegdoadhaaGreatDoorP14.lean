/- A part of the proof; shortened by program. -/
import Derived.Test.YtmkaboegdoadhaaGreatDoorP13
set_option maxRecDepth 100000
set_option maxHeartbeats 4000000
set_option linter.all false
namespace Go.AM
open Go Go.Proofs
theorem VG(p l k y J)(Q:l.length<4611686018427387904)(X:∀a∈l,Al M k ([.agg (eF a)]++y) J λv c=>v=.bool (p a)/\c=J):
  Cv 16 [aD eF 8 l,.fn (.func k) [] y] J (D (A5 p l 0)):=by
 refine Aj Tryz.func16 rfl rfl λm r=>?_
 refine cG ?_;refine Bz l.length (λi=>[(0,aD eF 8 l),(1,.fn (.func k) [] y),(7,D (.ofNat l.length)),(8,D (.ofNat i))]) (λi c=>c=J/\A5 p l 0=A5 p (l.drop i) i) SL ⟨rfl,rfl⟩ ?_
 rintro i c o ⟨rfl,e⟩;refine G5 ?_;refine Ab rfl ?_ ?_<;>intro h
 ·have b:i<l.length:=by simpa using h
  obtain⟨a,g⟩:∃a,l[i]? =some a:=⟨_,fF b⟩
  have j:l.drop i=a::l.drop (i+1):=by
   obtain⟨n,rfl⟩:=bQ.1 g;exact iF n
  iterate 14 refine G ?_
  refine A (Ac aG rfl rfl (A6 ((λ_=>rfl:∀a,(eF a).length=8) a) _)) ?_
  refine Az rfl rfl rfl rfl (X a (bA g)) ?_;rintro _ _ ⟨rfl,rfl⟩;refine G ?_;refine Ab rfl (λd=>?_) (λd=>?_)
  ·refine G6 ?_;refine⟨_,rfl,D (.ofNat i),_,a_ m Y zN,Y,.same rfl,?_,rfl⟩
   rw[e,j];simp only[A5,d,cond_true]
  ·refine G2 ?_;refine A (D3 (p:=i) (q:=1) aV rfl rfl z) ?_;refine G2 ?_;refine⟨b,SL,rfl,?_⟩;rw[e,j];simp only[A5,d,cond_false]
 ·have f:l.length<=i:=by simpa using h
  refine G6 ?_;refine⟨_,rfl,D (-1),_,a_ m Y zN,Y,.same rfl,?_,rfl⟩
  rw[e,cv f];rfl
theorem XM(p l k y J)(Q:l.length<4611686018427387904)(X:∀a∈l,Al M k ([.agg (eF a)]++y) J λv b=>v=.bool (p a)/\b=J):
  Cv 42 [aD eF 8 l,.fn (.func k) [] y] J (.bool (l.any p)):=by
 refine Aj Tryz.func42 rfl rfl λc _=>?_
 refine G8 ?_;refine Az rfl rfl rfl rfl (VG p l k y J Q X) ?_;rintro _ _ ⟨rfl,rfl⟩;refine G4 ?_;refine B4 c rfl ?_;exact congrArg I.bool (Gf l)
theorem MF(p l k y J)(Q:l.length<4611686018427387904)(X:∀a∈l,Al M k ([.agg (eH a)]++y) J λv c=>v=.bool (p a)/\c=J):
  Cv 98 [aD eH 3 l,.fn (.func k) [] y] J (D (A5 p l 0)):=by
 refine Aj Tryz.func98 rfl rfl λm r=>?_
 refine cG ?_;refine Bz l.length (λi=>[(0,aD eH 3 l),(1,.fn (.func k) [] y),(7,D (.ofNat l.length)),(8,D (.ofNat i))]) (λi c=>c=J/\A5 p l 0=A5 p (l.drop i) i) SL ⟨rfl,rfl⟩ ?_
 rintro i c o ⟨rfl,e⟩;refine G5 ?_;refine Ab rfl ?_ ?_<;>intro h
 ·have b:i<l.length:=by simpa using h
  obtain⟨a,g⟩:∃a,l[i]? =some a:=⟨_,fF b⟩
  have j:l.drop i=a::l.drop (i+1):=by
   obtain⟨n,rfl⟩:=bQ.1 g;exact iF n
  iterate 14 refine G ?_
  refine A (Ac aG rfl rfl (A6 ((λ_=>rfl:∀a,(eH a).length=3) a) _)) ?_
  refine Az rfl rfl rfl rfl (X a (bA g)) ?_;rintro _ _ ⟨rfl,rfl⟩;refine G ?_;refine Ab rfl (λd=>?_) (λd=>?_)
  ·refine G6 ?_;refine⟨_,rfl,D (.ofNat i),_,a_ m Y zN,Y,.same rfl,?_,rfl⟩
   rw[e,j];simp only[A5,d,cond_true]
  ·refine G2 ?_;refine A (D3 (p:=i) (q:=1) aV rfl rfl z) ?_;refine G2 ?_;refine⟨b,SL,rfl,?_⟩;rw[e,j];simp only[A5,d,cond_false]
 ·have f:l.length<=i:=by simpa using h
  refine G6 ?_;refine⟨_,rfl,D (-1),_,a_ m Y zN,Y,.same rfl,?_,rfl⟩
  rw[e,cv f];rfl
theorem rA(p l k y J)(Q:l.length<4611686018427387904)(X:∀a∈l,Al M k ([.agg (eH a)]++y) J λv b=>v=.bool (p a)/\b=J):
  Cv 45 [aD eH 3 l,.fn (.func k) [] y] J (.bool (l.any p)):=by
 refine Aj Tryz.func45 rfl rfl λc _=>?_
 refine G8 ?_;refine Az rfl rfl rfl rfl (MF p l k y J Q X) ?_;rintro _ _ ⟨rfl,rfl⟩;refine G4 ?_;refine B4 c rfl ?_;exact congrArg I.bool (Gf l)
theorem Vu(p l k y J)(Q:l.length<4611686018427387904)(X:∀a∈l,Al M k ([sV a]++y) J λv c=>v=.bool (p a)/\c=J):
  Cv 99 [aD (λs=>[sV s]) 1 l,.fn (.func k) [] y] J (D (A5 p l 0)):=by
 refine Aj Tryz.func99 rfl rfl λm r=>?_
 refine cG ?_;refine Bz l.length (λi=>[(0,aD (λs=>[sV s]) 1 l),(1,.fn (.func k) [] y),(7,D (.ofNat l.length)),(8,D (.ofNat i))]) (λi c=>c=J/\A5 p l 0=A5 p (l.drop i) i) SL ⟨rfl,rfl⟩ ?_
 rintro i c o ⟨rfl,e⟩;refine G5 ?_;refine Ab rfl ?_ ?_<;>intro h
 ·have b:i<l.length:=by simpa using h
  obtain⟨a,g⟩:∃a,l[i]? =some a:=⟨_,fF b⟩
  have j:l.drop i=a::l.drop (i+1):=by
   obtain⟨n,rfl⟩:=bQ.1 g;exact iF n
  iterate 15 refine G ?_
  refine Az rfl rfl rfl rfl (X a (bA g)) ?_;rintro _ _ ⟨rfl,rfl⟩;refine G ?_;refine Ab rfl (λd=>?_) (λd=>?_)
  ·refine G6 ?_;refine⟨_,rfl,D (.ofNat i),_,a_ m Y zN,Y,.same rfl,?_,rfl⟩
   rw[e,j];simp only[A5,d,cond_true]
  ·refine G2 ?_;refine A (D3 (p:=i) (q:=1) aV rfl rfl z) ?_;refine G2 ?_;refine⟨b,SL,rfl,?_⟩;rw[e,j];simp only[A5,d,cond_false]
 ·have f:l.length<=i:=by simpa using h
  refine G6 ?_;refine⟨_,rfl,D (-1),_,a_ m Y zN,Y,.same rfl,?_,rfl⟩
  rw[e,cv f];rfl
theorem pJ(p l k y J)(Q:l.length<4611686018427387904)(X:∀a∈l,Al M k ([sV a]++y) J λv b=>v=.bool (p a)/\b=J):
  Cv 46 [aD (λs=>[sV s]) 1 l,.fn (.func k) [] y] J (.bool (l.any p)):=by
 refine Aj Tryz.func46 rfl rfl λc _=>?_
 refine G8 ?_;refine Az rfl rfl rfl rfl (Vu p l k y J Q X) ?_;rintro _ _ ⟨rfl,rfl⟩;refine G4 ?_;refine B4 c rfl ?_;exact congrArg I.bool (Gf l)
theorem CY(p l k y J)(Q:l.length<4611686018427387904)(X:∀a∈l,Al M k ([.agg (eR a)]++y) J λv c=>v=.bool (p a)/\c=J):
  Cv 161 [aD eR 4 l,.fn (.func k) [] y] J (D (A5 p l 0)):=by
 refine Aj Tryz.func161 rfl rfl λm r=>?_
 refine cG ?_;refine Bz l.length (λi=>[(0,aD eR 4 l),(1,.fn (.func k) [] y),(7,D (.ofNat l.length)),(8,D (.ofNat i))]) (λi c=>c=J/\A5 p l 0=A5 p (l.drop i) i) SL ⟨rfl,rfl⟩ ?_
 rintro i c o ⟨rfl,e⟩;refine G5 ?_;refine Ab rfl ?_ ?_<;>intro h
 ·have b:i<l.length:=by simpa using h
  obtain⟨a,g⟩:∃a,l[i]? =some a:=⟨_,fF b⟩
  have j:l.drop i=a::l.drop (i+1):=by
   obtain⟨n,rfl⟩:=bQ.1 g;exact iF n
  iterate 14 refine G ?_
  refine A (Ac aG rfl rfl (A6 ((λ_=>rfl:∀a,(eR a).length=4) a) _)) ?_
  refine Az rfl rfl rfl rfl (X a (bA g)) ?_;rintro _ _ ⟨rfl,rfl⟩;refine G ?_;refine Ab rfl (λd=>?_) (λd=>?_)
  ·refine G6 ?_;refine⟨_,rfl,D (.ofNat i),_,a_ m Y zN,Y,.same rfl,?_,rfl⟩
   rw[e,j];simp only[A5,d,cond_true]
  ·refine G2 ?_;refine A (D3 (p:=i) (q:=1) aV rfl rfl z) ?_;refine G2 ?_;refine⟨b,SL,rfl,?_⟩;rw[e,j];simp only[A5,d,cond_false]
 ·have f:l.length<=i:=by simpa using h
  refine G6 ?_;refine⟨_,rfl,D (-1),_,a_ m Y zN,Y,.same rfl,?_,rfl⟩
  rw[e,cv f];rfl
theorem HO(p l k y J)(Q:l.length<4611686018427387904)(X:∀a∈l,Al M k ([.agg (eR a)]++y) J λv b=>v=.bool (p a)/\b=J):
  Cv 148 [aD eR 4 l,.fn (.func k) [] y] J (.bool (l.any p)):=by
 refine Aj Tryz.func148 rfl rfl λc _=>?_
 refine G8 ?_;refine Az rfl rfl rfl rfl (CY p l k y J Q X) ?_;rintro _ _ ⟨rfl,rfl⟩;refine G4 ?_;refine B4 c rfl ?_;exact congrArg I.bool (Gf l)
theorem IQ(p l k y J)(Q:l.length<4611686018427387904)(X:∀a∈l,Al M k ([.agg (cL a)]++y) J λv c=>v=.bool (p a)/\c=J):
  Cv 228 [aD cL 3 l,.fn (.func k) [] y] J (D (A5 p l 0)):=by
 refine Aj Tryz.func228 rfl rfl λm r=>?_
 refine cG ?_;refine Bz l.length (λi=>[(0,aD cL 3 l),(1,.fn (.func k) [] y),(7,D (.ofNat l.length)),(8,D (.ofNat i))]) (λi c=>c=J/\A5 p l 0=A5 p (l.drop i) i) SL ⟨rfl,rfl⟩ ?_
 rintro i c o ⟨rfl,e⟩;refine G5 ?_;refine Ab rfl ?_ ?_<;>intro h
 ·have b:i<l.length:=by simpa using h
  obtain⟨a,g⟩:∃a,l[i]? =some a:=⟨_,fF b⟩
  have j:l.drop i=a::l.drop (i+1):=by
   obtain⟨n,rfl⟩:=bQ.1 g;exact iF n
  iterate 14 refine G ?_
  refine A (Ac aG rfl rfl (A6 ((λ_=>rfl:∀a,(cL a).length=3) a) _)) ?_
  refine Az rfl rfl rfl rfl (X a (bA g)) ?_;rintro _ _ ⟨rfl,rfl⟩;refine G ?_;refine Ab rfl (λd=>?_) (λd=>?_)
  ·refine G6 ?_;refine⟨_,rfl,D (.ofNat i),_,a_ m Y zN,Y,.same rfl,?_,rfl⟩
   rw[e,j];simp only[A5,d,cond_true]
  ·refine G2 ?_;refine A (D3 (p:=i) (q:=1) aV rfl rfl z) ?_;refine G2 ?_;refine⟨b,SL,rfl,?_⟩;rw[e,j];simp only[A5,d,cond_false]
 ·have f:l.length<=i:=by simpa using h
  refine G6 ?_;refine⟨_,rfl,D (-1),_,a_ m Y zN,Y,.same rfl,?_,rfl⟩
  rw[e,cv f];rfl
theorem DL(p l k y J)(Q:l.length<4611686018427387904)(X:∀a∈l,Al M k ([.agg (cL a)]++y) J λv b=>v=.bool (p a)/\b=J):
  Cv 182 [aD cL 3 l,.fn (.func k) [] y] J (.bool (l.any p)):=by
 refine Aj Tryz.func182 rfl rfl λc _=>?_
 refine G8 ?_;refine Az rfl rfl rfl rfl (IQ p l k y J Q X) ?_;rintro _ _ ⟨rfl,rfl⟩;refine G4 ?_;refine B4 c rfl ?_;exact congrArg I.bool (Gf l)
theorem CW(p l k y J)(Q:l.length<4611686018427387904)(X:∀a∈l,Al M k ([.agg (eP a)]++y) J λv c=>v=.bool (p a)/\c=J):
  Cv 288 [aD eP 2 l,.fn (.func k) [] y] J (D (A5 p l 0)):=by
 refine Aj Tryz.func288 rfl rfl λm r=>?_
 refine cG ?_;refine Bz l.length (λi=>[(0,aD eP 2 l),(1,.fn (.func k) [] y),(7,D (.ofNat l.length)),(8,D (.ofNat i))]) (λi c=>c=J/\A5 p l 0=A5 p (l.drop i) i) SL ⟨rfl,rfl⟩ ?_
 rintro i c o ⟨rfl,e⟩;refine G5 ?_;refine Ab rfl ?_ ?_<;>intro h
 ·have b:i<l.length:=by simpa using h
  obtain⟨a,g⟩:∃a,l[i]? =some a:=⟨_,fF b⟩
  have j:l.drop i=a::l.drop (i+1):=by
   obtain⟨n,rfl⟩:=bQ.1 g;exact iF n
  iterate 14 refine G ?_
  refine A (Ac aG rfl rfl (A6 ((λ_=>rfl:∀a,(eP a).length=2) a) _)) ?_
  refine Az rfl rfl rfl rfl (X a (bA g)) ?_;rintro _ _ ⟨rfl,rfl⟩;refine G ?_;refine Ab rfl (λd=>?_) (λd=>?_)
  ·refine G6 ?_;refine⟨_,rfl,D (.ofNat i),_,a_ m Y zN,Y,.same rfl,?_,rfl⟩
   rw[e,j];simp only[A5,d,cond_true]
  ·refine G2 ?_;refine A (D3 (p:=i) (q:=1) aV rfl rfl z) ?_;refine G2 ?_;refine⟨b,SL,rfl,?_⟩;rw[e,j];simp only[A5,d,cond_false]
 ·have f:l.length<=i:=by simpa using h
  refine G6 ?_;refine⟨_,rfl,D (-1),_,a_ m Y zN,Y,.same rfl,?_,rfl⟩
  rw[e,cv f];rfl
def MQ:Nat->Nat->List I
 |0,_=>[]
 |n+1,x=>.int .u8 (.ofNat x)::MQ n x
def Aw9:List (Nat×Nat):=[(9,0),(2,1),(1,0),(2,1),(18,0),(1,1),(3,3),(1,4),(8,3),(2,2),(1,3),(10,2),(7,3),(26,2),(4,3),(1,2),(1,3),(26,2),(4,3),(129,0)]
def KC:List (Nat×Nat)->List I
 |[]=>[]
 |(n,x)::r=>MQ n x++KC r
def Cj:List I:=KC Aw9
def Tl(i:Nat):Nat:=if i=32\/(9<=i/\i<=13/\i≠11)then 1 else if i=36 then 4 else if(48<=i/\i<=57)\/(65<=i/\i<=90)\/(97<=i/\i<=122)\/i=45\/i=95\/i=46 then 2 else if 33<=i/\i<=126 then 3 else 0
theorem Arp:(List.range 256).all (λi=>match Cj[i]? with|some (.int .u8 (.ofNat k))=>Nat.beq k (Tl i)|_=>false)=true:=Kr
theorem β{i}(h:i<256):Cj[i]? =some (.int .u8 (.ofNat (Tl i))):=by
 have:=b_.1 Arp i (jW.2 h)
 split at this
 ·rename_i k a;rw[a,bK this]
 ·cases this
section
variable {Rr:bP}{ρ:Ad}{J:F}{ty a i p q:Nat}{k:IntKind}{x y:Operand}
theorem SZ:(Ay M.P 5).map (·.desc)=some (.int .u8):=Kr
theorem SX:(Ay M.P 3).isSome=true:=Kr
theorem WQ(W:Ah M ρ x=some (.int k (.ofNat p)))(a:p<256):As M Rr (.convert 3 5 x) ρ J (.int .u8 (.ofNat p)) J:=λg h=>by
 obtain⟨f,b,c⟩:=pR.1 SZ;obtain⟨i,d⟩:=gV.1 SX;have e:Nat.ble p 255=true:=dS z;simp only[bB,Aw,b,c,d,h.opd W,Pp,Me,Ak,M0,e,cond_true]
theorem uN:(match Ay M.P 436 with|some c=>(match c.desc with|.array a e=>(match Ay M.P e with|some b=>Nat.beq a 256&&Nat.beq b.size 1|none=>false)|_=>false)|none=>false)=true:=Kr
theorem Z1(W:Ah M ρ x=some (.pr a 0))(B:Ah M ρ y=some (.int k (.ofNat i)))(L:i<256):As M Rr (.indexAddr 436 x y) ρ J (.pr a i) J:=λp h=>by
 have b:=uN
 split at b
 ·rename_i o f
  split at b
  ·rename_i m e g
   split at b
   ·rename_i n j
    rw[bg]at b;have c:=bK b.1;have d:=bK b.2;have l:Nat.blt i 256=true:=Ce L;simp only[bB,Aw,f,g,j,h.opd W,h.opd B,E6,c,d,l,cond_true,Po,Ak,dE,lT]
   ·cases b
  ·cases b
 ·cases b
end
def q2(i:Nat):Bool:=(decide (Int.ofNat i=32)||((decide ((9:Int)<=Int.ofNat i)&&decide (Int.ofNat i<=13))&& !decide (Int.ofNat i=11)))
def q4(i:Nat):Bool:=((((((decide ((48:Int)<=Int.ofNat i)&&decide (Int.ofNat i<=57))||(decide ((65:Int)<=Int.ofNat i)&&decide (Int.ofNat i<=90)))||(decide ((97:Int)<=Int.ofNat i)&&decide (Int.ofNat i<=122)))||decide (Int.ofNat i=45))||decide (Int.ofNat i=95))||decide (Int.ofNat i=46))
theorem WA{i}(r:q2 i=true):Tl i=1:=by
 unfold q2 at r;simp only[eO,bg,eQ,decide_eq_true_eq,decide_eq_false_iff_not,ep,iT,Bool.and_eq_false_iff,oQ]at *;unfold Tl;rw[if_pos z]
theorem cl4{i}(r:q2 i=false)(t:decide (Int.ofNat i=36)=true):Tl i=4:=by
 unfold q2 at r;simp only[eO,bg,eQ,decide_eq_true_eq,decide_eq_false_iff_not,ep,iT,Bool.and_eq_false_iff,oQ]at *;unfold Tl;rw[if_neg z,if_pos z]
theorem V3{i}(r:q2 i=false)(t:decide (Int.ofNat i=36)=false)(a:q4 i=true):Tl i=2:=by
 unfold q2 at r;unfold q4 at a;simp only[eO,bg,eQ,decide_eq_true_eq,decide_eq_false_iff_not,ep,iT,Bool.and_eq_false_iff,oQ]at *;unfold Tl;rw[if_neg z,if_neg z,if_pos z]
theorem UJ{i}(r:q2 i=false)(t:decide (Int.ofNat i=36)=false)(a:q4 i=false)(m:(decide ((32:Int)<Int.ofNat i)&&decide (Int.ofNat i<=126))=true):Tl i=3:=by
 unfold q2 at r;unfold q4 at a;simp only[eO,bg,eQ,decide_eq_true_eq,decide_eq_false_iff_not,ep,iT,Bool.and_eq_false_iff,oQ]at *;unfold Tl;rw[if_neg z,if_neg z,if_neg z,if_pos z]
theorem cl0{i}(r:q2 i=false)(t:decide (Int.ofNat i=36)=false)(a:q4 i=false)(m:(decide ((32:Int)<Int.ofNat i)&&decide (Int.ofNat i<=126))=false):Tl i=0:=by
 unfold q2 at r;unfold q4 at a;simp only[eO,bg,eQ,decide_eq_true_eq,decide_eq_false_iff_not,ep,iT,Bool.and_eq_false_iff,oQ]at *;unfold Tl;rw[if_neg z,if_neg z,if_neg z,if_neg z]
theorem Ae9{N}:∀{l:List I},l.all (λv=>match v with|.int .u8 (.ofNat _)=>true|_=>false)=true->I.unds N l=true
 |[],_=>rfl
 |v::l,h=>by
  rw[gX,bg]at h;have:=Ae9 (N:=N) h.2;have a:=h.1
  split at a
  ·simp only[I.unds,this,I.und,dR]
  ·cases a
def zb:I:=.int .u8 0
theorem EM(J):Cv 269 [] J (.agg Cj):=by
  refine Aj Tryz.func269 rfl rfl λK E=>?_
  refine G2 ?_;refine A (Bu bG) ?_;refine G7 ?_
  refine Bz 256 (λi=>[(0,.pr (O J) 0),(3,D (.ofNat i))]) (λi d=>d.get (O J)=some (.cells (Cj.take i++List.replicate (256-i) zb))/\O J<=O d/\∀b,b<O J->d.get b=J.get b) SL ⟨by rw[a5,if_pos rfl];rfl,by rw[Ao];omega,λb m=>by rw[a5,if_neg z]⟩ ?_
  rintro i d L ⟨e,w,o⟩;refine G5 ?_;refine Ab rfl ?_ ?_<;>intro x
  · have a:i<256:=Int.ofNat_lt.1 (of_decide_eq_true x)
    have s:(Cj.take i).length=i:=by
      rw[gC]
      have:Cj.length=256:=Kr
      omega
    have B:List.replicate (256-i) zb=[zb]++List.replicate (256-(i+1)) zb:=by rw[show 256-i=(256-(i+1))+1 by omega,List.replicate_succ];rfl
    rw[B,<-iC]at e
    have j:Cj.take (i+1)=Cj.take i++[.int .u8 (.ofNat (Tl i))]:=by rw[List.take_add_one,β a];rfl
    have k:∀c:I,Et (Cj.take i++[zb]++List.replicate (256-(i+1)) zb) i [c]=some (Cj.take i++[c]++List.replicate (256-(i+1)) zb):=λc=>by
      have:=Ro (p:=Cj.take i) (q:=[zb]) (u:=[c]) (v:=List.replicate (256-(i+1)) zb) rfl
      rwa[s]at this
    have f:∀c:Nat,Tl i=c->(d.set (O J) (.cells (Cj.take i++[.int .u8 (.ofNat c)]++List.replicate (256-(i+1)) zb))).get (O J)=some (.cells (Cj.take (i+1)++List.replicate (256-(i+1)) zb))/\O J<=O (d.set (O J) (.cells (Cj.take i++[.int .u8 (.ofNat c)]++List.replicate (256-(i+1)) zb)))/\∀b,b<O J->(d.set (O J) (.cells (Cj.take i++[.int .u8 (.ofNat c)]++List.replicate (256-(i+1)) zb))).get b=J.get b:=λc g=>by
      refine⟨by rw[aU,if_pos rfl,j,g],by rw[Aq];exact w,λb m=>by rw[aU,if_neg z];exact o b m⟩
    have n:Tl i=0->d.get (O J)=some (.cells (Cj.take (i+1)++List.replicate (256-(i+1)) zb))/\O J<=O d/\∀b,b<O J->d.get b=J.get b:=λg=>⟨by rw[e,j,g];rfl,w,o⟩
    refine fJ ?_;refine A (WQ rfl a) ?_;refine G8 ?_;refine cJ 10 ?_ (λH=>?_) ?_
    rotate_left
    · iterate 3 refine Gn H ?_
      refine Hq 2 _ ?_ rfl rfl rfl rfl rfl (Ft rfl rfl rfl rfl (by rw[H];rfl)) (λH=>?_) (λH=>?_) ?_
      rotate_left
      · refine Gn H ?_
        refine On H (Hn (q:=13) aV rfl rfl) ?_;refine G ?_;refine⟨rfl,?_,?_⟩
        · exact sb
        · exact rfl
      · iterate 2 refine Gn H ?_
        refine G ?_;exact⟨rfl,sb⟩
      refine Gn H ?_
      refine Hq 2 _ ?_ rfl rfl rfl rfl rfl (Ft rfl rfl rfl rfl (by rw[H];rfl)) (λH=>?_) (λH=>?_) ?_
      rotate_left
      · iterate 2 refine Gn H ?_
        refine G ?_;refine⟨rfl,?_,?_⟩
        · exact sb
        · exact rfl
      · iterate 2 refine Gn H ?_
        refine G ?_;exact⟨rfl,sb⟩
      exact Ez
    refine G2 ?_;refine Ab rfl ?_ ?_<;>intro h
    · refine G2 ?_
      refine A (Z1 rfl rfl a) (A (G1 e aG rfl rfl rfl (k _)) ?_);refine G5 ?_;exact⟨a,SL,f 1 (WA h)⟩
    · refine G6 ?_
      refine Ab rfl ?_ ?_<;>intro l
      · refine G2 ?_
        refine A (Z1 rfl rfl a) (A (G1 e aG rfl rfl rfl (k _)) ?_);refine G5 ?_;exact⟨a,SL,f 4 (cl4 h l)⟩
      · refine G5 ?_
        refine fZ 2 ?_ (λH=>?_) ?_
        rotate_left
        · refine Gn H ?_
          refine On H (Hn (q:=57) aV rfl rfl) ?_;exact Ez
        refine G ?_;refine cJ 6 ?_ (λH=>?_) ?_
        rotate_left
        · iterate 3 refine Gn H ?_
          refine Hq 2 _ ?_ rfl rfl rfl rfl rfl (Ft rfl rfl rfl rfl (by rw[H];rfl)) (λH=>?_) (λH=>?_) ?_
          rotate_left
          · refine Gn H ?_
            refine On H (Hn (q:=90) aV rfl rfl) ?_;refine G ?_;refine⟨rfl,?_,?_⟩
            · exact sb
            · exact rfl
          · iterate 2 refine Gn H ?_
            refine G ?_;exact⟨rfl,sb⟩
          exact Ez
        refine G ?_;refine cJ 6 ?_ (λH=>?_) ?_
        rotate_left
        · iterate 3 refine Gn H ?_
          refine Hq 2 _ ?_ rfl rfl rfl rfl rfl (Ft rfl rfl rfl rfl (by rw[H];rfl)) (λH=>?_) (λH=>?_) ?_
          rotate_left
          · refine Gn H ?_
            refine On H (Hn (q:=122) aV rfl rfl) ?_;refine G ?_;refine⟨rfl,?_,?_⟩
            · exact sb
            · exact rfl
          · iterate 2 refine Gn H ?_
            refine G ?_;exact⟨rfl,sb⟩
          exact Ez
        refine G ?_;refine cJ 2 ?_ (λH=>?_) ?_
        rotate_left
        · iterate 2 refine Gn H ?_
          exact Ez
        refine G ?_;refine cJ 2 ?_ (λH=>?_) ?_
        rotate_left
        · iterate 2 refine Gn H ?_
          exact Ez
        refine G ?_;refine cJ 2 ?_ (λH=>?_) ?_
        rotate_left
        · iterate 2 refine Gn H ?_
          exact Ez
        refine G2 ?_;refine Ab rfl ?_ ?_<;>intro r
        · refine G2 ?_
          refine A (Z1 rfl rfl a) (A (G1 e aG rfl rfl rfl (k _)) ?_);refine G5 ?_;exact⟨a,SL,f 2 (V3 h l r)⟩
        · refine G5 ?_
          refine fZ 2 ?_ (λH=>?_) ?_
          rotate_left
          · refine Gn H ?_
            refine On H (Hn (q:=126) aV rfl rfl) ?_;exact Ez
          refine G2 ?_;refine Ab rfl ?_ ?_<;>intro y
          · refine G2 ?_
            refine A (Z1 rfl rfl a) (A (G1 e aG rfl rfl rfl (k _)) ?_);refine G5 ?_;exact⟨a,SL,f 3 (UJ h l r y)⟩
          · refine G5 ?_
            exact⟨a,SL,n (cl0 h l r y)⟩
  · have C:256<=i:=dQ.1 (Int.not_lt.1 (λq=>of_decide_eq_false x q))
    have:i=256:=by omega
    subst this
    have e:d.get (O J)=some (.cells Cj):=e.trans (by rw[show Cj.take 256++List.replicate (256-256) zb=Cj by kernel_rfl])
    refine G3 ?_
    refine A (E8 e aG rfl (show Cz 256 true Cj=some (.agg Cj) by kernel_rfl)) ?_
    refine A (G1 (cs':=Cj) e aG rfl rfl (show(I.agg Cj).cellsN 256=some Cj by kernel_rfl) Kr) ?_
    refine G2 ?_
    exact⟨[.agg Cj],Am (vs:=Cj) (aG (t:=436)) rfl (by simp only[F.cells];rw[aU,if_pos rfl]) Kr rfl,_,J,bL K ⟨by rw[Aq];exact w,λb m=>by rw[aU,if_neg z];exact o b m⟩,Y,.same (show I.unds (O J) Cj=true from Ae9 Kr),rfl,rfl⟩
def mS(n:Nat):Nat:=match Cj[n]? with|some (.int _ (.ofNat k))=>k|_=>0
theorem Alf:Cj.length=256:=Kr
theorem Zd:Cj.all (λv=>match v with|.int .u8 (.ofNat _)=>true|_=>false)=true:=Kr
theorem YK(b:UInt8):Cj.drop (b.toNat*1)=.int .u8 (.ofNat (mS b.toNat))::Cj.drop (b.toNat+1):=by
 have a:b.toNat<Cj.length:=by rw[Alf];exact b.toNat_lt
 rw[lT,iF a]
 congr 1
 have h:=b_.1 Zd _ (List.getElem_mem a);unfold mS;rw[fF a]
 generalize Cj[b.toNat]=v at h⊢
 split at h
 ·rfl
 ·cases h
theorem Y6(l s J)(Q:l.length<4611686018427387904):Cv 56 [aD (λs=>[sV s]) 1 l,sV s] J (D (A5 (λx=>decide (s=x)) l 0)):=by
 refine Aj Tryz.func56 rfl rfl λj _=>?_
 refine cG ?_;refine Bz l.length (λi=>[(0,aD (λs=>[sV s]) 1 l),(1,sV s),(7,D (.ofNat l.length)),(8,D (.ofNat i))]) (λi f=>f=J/\A5 (λx=>decide (s=x)) l 0=A5 (λx=>decide (s=x)) (l.drop i) i) SL ⟨rfl,rfl⟩ ?_
 rintro i f n ⟨rfl,d⟩;refine G5 ?_;refine Ab rfl ?_ ?_<;>intro h
 ·have b:i<l.length:=Z;obtain⟨a,m⟩:∃a,l[i]? =some a:=⟨_,fF b⟩
  have g:l.drop i=a::l.drop (i+1):=by
   obtain⟨k,rfl⟩:=bQ.1 m;exact iF k
  iterate 17 refine G ?_
  refine Ab rfl (λc=>?_) (λc=>?_)
  ·refine G6 ?_;refine B4 j rfl ?_;rw[d,g];simp only[A5,c,cond_true];rfl
  ·refine G2 ?_;refine A (D3 (p:=i) (q:=1) aV rfl rfl z) ?_;refine G2 ?_;refine⟨b,SL,rfl,?_⟩;rw[d,g];simp only[A5,c,cond_false]
 ·have e:l.length<=i:=Z;refine G6 ?_;refine B4 j rfl ?_;rw[d,cv e];rfl
theorem bM(e):M.byref e=false:=rfl
def eB(n:Nat):List I:=[.int .u8 (.ofNat n)]
theorem JA(l s J)(Q:l.length<4611686018427387904):Cv 286 [aD eB 1 l,.int .u8 (.ofNat s)] J (D (A5 (λx=>decide (Int.ofNat s=Int.ofNat x)) l 0)):=by
 refine Aj Tryz.func286 rfl rfl λj _=>?_
 refine cG ?_;refine Bz l.length (λi=>[(0,aD eB 1 l),(1,.int .u8 (.ofNat s)),(7,D (.ofNat l.length)),(8,D (.ofNat i))]) (λi f=>f=J/\A5 (λx=>decide (Int.ofNat s=Int.ofNat x)) l 0=A5 (λx=>decide (Int.ofNat s=Int.ofNat x)) (l.drop i) i) SL ⟨rfl,rfl⟩ ?_
 rintro i f n ⟨rfl,d⟩;refine G5 ?_;refine Ab rfl ?_ ?_<;>intro h
 ·have b:i<l.length:=Z;obtain⟨a,m⟩:∃a,l[i]? =some a:=⟨_,fF b⟩
  have g:l.drop i=a::l.drop (i+1):=by
   obtain⟨k,rfl⟩:=bQ.1 m;exact iF k
  iterate 17 refine G ?_
  refine Ab rfl (λc=>?_) (λc=>?_)
  ·refine G6 ?_;refine B4 j rfl ?_;rw[d,g];simp only[A5,c,cond_true];rfl
  ·refine G2 ?_;refine A (D3 (p:=i) (q:=1) aV rfl rfl z) ?_;refine G2 ?_;refine⟨b,SL,rfl,?_⟩;rw[d,g];simp only[A5,c,cond_false]
 ·have e:l.length<=i:=Z;refine G6 ?_;refine B4 j rfl ?_;rw[d,cv e];rfl
theorem pQ(l s J)(Q:l.length<4611686018427387904):Cv 15 [aD (λs=>[sV s]) 1 l,sV s] J (.bool (l.any λx=>decide (s=x))):=by
 refine Aj Tryz.func15 rfl rfl λa _=>?_
 refine G8 ?_;refine Ca (Y6 l s J Q) ?_;refine G4 ?_;refine B4 a rfl ?_;exact congrArg I.bool (Gf l)
theorem I'(l s J)(Q:l.length<4611686018427387904):Cv 270 [aD eB 1 l,.int .u8 (.ofNat s)] J (.bool (l.any λx=>decide (Int.ofNat s=Int.ofNat x))):=by
 refine Aj Tryz.func270 rfl rfl λa _=>?_
 refine G8 ?_;refine Ca (JA l s J Q) ?_;refine G4 ?_;refine B4 a rfl ?_;exact congrArg I.bool (Gf l)
def mA(a:List Nat)(b:UInt8):Bool:=a.any λx=>decide (Int.ofNat (mS b.toNat)=Int.ofNat x)
def Mq(a:List Nat)(s:aH):Bool:= !(decide (s=[])||decide ((60:Int)<Int.ofNat s.length))&&s.all (mA a)
theorem yb(s b J)(Q:b.length<4611686018427387904):Cv 244 [sV s,aD eB 1 b] J (.bool (Mq b s)):=by
 refine Aj Tryz.func244 rfl rfl λf _=>?_
 refine cD ?_;refine cJ 3 ?_ (λH=>?_) ?_
 rotate_left
 ·iterate 3 refine Gn H ?_
  exact Ez
 refine G ?_;refine Ab rfl ?_ ?_<;>intro h
 ·refine G5 ?_;refine B4 f rfl ?_;rw[Mq,h];rfl
 ·refine G3 ?_;refine Ca (EM J) ?_;refine cD ?_;refine Bz s.length (λi=>[(0,sV s),(1,aD eB 1 b),(5,.pv Cj),(16,D (.ofNat s.length)),(17,D (.ofNat i))]) (λi g=>g=J/\s.all (mA b)=(s.drop i).all (mA b)) SL ⟨rfl,rfl⟩ ?_
  rintro i g o ⟨rfl,d⟩;refine G5 ?_;refine Ab rfl ?_ ?_<;>intro j
  ·have c:i<s.length:=Z;obtain⟨a,l⟩:∃a,s[i]? =some a:=⟨_,fF c⟩
   have m:s.drop i=a::s.drop (i+1):=by
    obtain⟨j,rfl⟩:=bQ.1 l;exact iF j
   iterate 13 refine G ?_
   refine A (Auh bI rfl rfl l) (A (Bp (n:=a.toNat) uL rfl rfl a.toNat_lt rfl) (A (Ac (v:=.int .u8 (.ofNat (mS a.toNat))) aG rfl rfl (by show Cz 1 false (Cj.drop (a.toNat*1))=_;rw[YK];rfl)) ?_))
   refine Ca (I' b _ _ Q) ?_;refine G2 ?_;refine Ab rfl ?_ ?_<;>intro k
   ·refine G5 ?_;refine B4 f rfl ?_
    rw[Mq,h,d,m,gX,show mA b a=false by simpa[mA]using k];rfl
   ·refine G2 ?_;refine A (D3 (p:=i) (q:=1) aV rfl rfl Z) ?_;refine G2 ?_;refine⟨c,SL,rfl,?_⟩
    rw[d,m,gX,show mA b a=true by simpa[mA]using k];rfl
  ·have e:s.length<=i:=Z;refine G6 ?_;refine B4 f rfl ?_;rw[Mq,h,d,cv e];rfl
theorem qO(s J):Cv 213 [sV s] J (.bool (Mq [2] s)):=by
 refine Aj Tryz.func213 rfl rfl λa _=>?_
 refine G7 ?_;refine Cx (Ai aJ bM rfl rfl rfl) (Dv (len:=1)) rfl rfl ?_
 refine Ca (yb s [2] J zD) ?_
 refine G3 ?_;refine B4 a rfl ?_;exact rfl
theorem mU(s J):Cv 211 [sV s] J (.bool (Mq [2,3] s)):=by
 refine Aj Tryz.func211 rfl rfl λa _=>?_
 refine G7 ?_;refine Cx (Ai aJ bM rfl rfl rfl) (Dv (len:=2)) rfl rfl ?_
 refine Ca (yb s [2,3] J zD) ?_
 refine G3 ?_;refine B4 a rfl ?_;exact rfl
def X9(h:Hp):Bool:=decide ((60:Int)<Int.ofNat h.text.length)
def DB(s:aH):Bool:=decide ((400:Int)<Int.ofNat s.length)
theorem f47(s J):Cv 47 [sV s] J (.bool (DB s)):=by
 refine Aj Tryz.func47 rfl rfl λa _=>?_
 refine cG ?_;refine B4 a rfl ?_;exact rfl
theorem JP(h J):Cv 44 [.agg (eH h)] J (.bool (X9 h)):=by
 refine Aj Tryz.func44 rfl rfl λa _=>?_
 iterate 14 refine G ?_
 refine B4 a rfl ?_;exact rfl
def ku(i:Int)(f:Fr):Bool:=
 decide (i<Int.ofNat f.proof.length)||decide ((60:Int)<Int.ofNat f.text.length)||decide ((60:Int)<Int.ofNat f.hyps.length)||decide ((60:Int)<Int.ofNat f.dummies.length)||decide ((200:Int)<Int.ofNat f.apart.length)||
  decide ((300:Int)<Int.ofNat f.wide.length)||f.hyps.any X9||f.dummies.any X9||f.proof.any DB
def W6(d:Db)(a i:Int):Bool:=
 decide (Int.ofNat d.frames.length<=a)&&decide (Int.ofNat d.consts.length<=(200:Int))&&decide (Int.ofNat d.vars.length<=(60:Int))&& !(d.frames.any (ku i))
theorem VL(f i J)(c:i<1000000):Cv 43 [.agg (eF f),.pv [D i]] J (.bool (ku i f)):=by
 refine Aj Tryz.func43 rfl rfl λb _=>?_
 iterate 17 refine G ?_
 refine cJ 4 ?_ (λH=>?_) ?_
 rotate_left
 ·iterate 4 refine Gn H ?_
  exact Ez
 refine G ?_;refine cJ 4 ?_ (λH=>?_) ?_
 rotate_left
 ·iterate 4 refine Gn H ?_
  exact Ez
 refine G ?_;refine cJ 4 ?_ (λH=>?_) ?_
 rotate_left
 ·iterate 4 refine Gn H ?_
  exact Ez
 refine G ?_;refine cJ 4 ?_ (λH=>?_) ?_
 rotate_left
 ·iterate 4 refine Gn H ?_
  exact Ez
 refine G ?_;refine cJ 4 ?_ (λH=>?_) ?_
 rotate_left
 ·iterate 4 refine Gn H ?_
  exact Ez
 refine G ?_;refine cJ 4 ?_ (λH=>?_) ?_
 rotate_left
 ·iterate 3 refine Gn H ?_
  refine Bh rfl rfl rfl (by rw[H];rfl) rfl rfl rfl rfl (rA X9 f.hyps 44 [] J (by simp at H;omega) (λa _=>JP a J)) ?_
  exact Ez
 refine G ?_;refine cJ 4 ?_ (λH=>?_) ?_
 rotate_left
 ·iterate 3 refine Gn H ?_
  refine Bh rfl rfl rfl (by rw[H];rfl) rfl rfl rfl rfl (rA X9 f.dummies 44 [] J (by simp at H;omega) (λa _=>JP a J)) ?_
  exact Ez
 refine G ?_;refine cJ 3 ?_ (λH=>?_) ?_
 rotate_left
 ·iterate 2 refine Gn H ?_
  refine Bh rfl rfl rfl (by rw[H];rfl) rfl rfl rfl rfl (pJ DB f.proof 47 [] J (by simp at H;omega) (λa _=>f47 a J)) ?_
  exact Ez
 refine G3 ?_;refine B4 b rfl ?_;exact rfl
theorem f9(d b i J)(u:b<1000000)(r:i<1000000):Cv 8 [fy d,D b,D i] J (.bool (W6 d b i)):=by
 refine Aj Tryz.func8 rfl rfl λc _=>?_
 refine cG ?_;refine A (Hn aV rfl rfl) ?_;refine G ?_;refine fZ 4 ?_ (λH=>?_) ?_
 rotate_left
 ·iterate 3 refine Gn H ?_
  refine On H (Hn (q:=200) aV rfl rfl) ?_;exact Ez
 refine G ?_;refine fZ 4 ?_ (λH=>?_) ?_
 rotate_left
 ·iterate 3 refine Gn H ?_
  refine On H (Hn (q:=60) aV rfl rfl) ?_;exact Ez
 refine G ?_;refine fZ 5 ?_ (λH=>?_) ?_
 rotate_left
 ·iterate 3 refine Gn H ?_
  refine Bh rfl rfl rfl (by rw[H];rfl) rfl rfl rfl rfl (XM (ku i) d.frames 43 [.pv [D i]] J (by simp at H;omega) (λa _=>VL a i J r)) ?_
  refine Gn H ?_;exact Ez
 refine G3 ?_;refine B4 c rfl ?_;exact rfl
structure Kn where
 consts:SM Bool
 vars:SM Bool
 frames:SM Bool
 hyps:SM Hp
 types:SM aH
def hV(h:Hp):I:=.agg (eH h)
def eJ(m:Nat):I:=.pv [.mp m,.mp (m+1),.mp (m+2),.mp (m+3),.mp (m+4)]
structure Hj (J:F)(m:Nat)(k:Kn):Prop where
 c:Fi J m k.consts
 v:Fi J (m+1) k.vars
 f:Fi J (m+2) k.frames
 h:B8 hV J (m+3) k.hyps
 t:B8 sV J (m+4) k.types
def Kn.isSym(k:Kn)(s:aH):Bool:=k.consts.has s||k.vars.has s
theorem oP(m k s J)(X:Hj J m k):Cv 212 [eJ m,sV s] J (.bool (k.isSym s)):=by
 refine Aj Tryz.func212 rfl rfl λa _=>?_
 refine fJ ?_;refine A (De bI Cr rfl X.c rfl) ?_;refine G ?_;refine cJ 6 ?_ (λH=>?_) ?_
 rotate_left
 ·iterate 5 refine Gn H ?_
  refine On H (De bI Cr rfl X.v rfl) ?_;exact Ez
 refine G3 ?_;refine B4 a rfl ?_;exact rfl
theorem FZ(m k s J)(X:Hj J m k):Cv 246 [sV s,.pv [eJ m]] J (.bool (!k.isSym s)):=by
 refine Aj Tryz.func246 rfl rfl λa _=>?_
 refine G8 ?_;refine Ca (oP m k s _ X) ?_;refine G4 ?_;refine B4 a rfl ?_;exact rfl
def Kn.textF(k:Kn)(l:List aH):Int:=
 if l=[]\/(200:Int)<Int.ofNat l.length then 2 else if(!k.consts.has (l.headD [])||l.tail.any λs=> !k.isSym s)then 12 else 0
theorem tY(m k l J)(X:Hj J m k)(Q:l.length<4611686018427387904):Cv 216 [eJ m,Af l] J (D (k.textF l)):=by
 refine Aj Tryz.func216 rfl rfl λd _=>?_
 iterate 13 refine G ?_
 refine cJ 3 ?_ (λH=>?_) ?_
 rotate_left
 ·iterate 3 refine Gn H ?_
  exact Ez
 refine G2 ?_;refine Ab rfl ?_ ?_<;>intro h
 ·refine G5 ?_;refine B4 d rfl ?_
  rw[Kn.textF,if_pos (by cases l with|nil=>exact .inl rfl|cons a r=>right;simp at h⊢;omega)];rfl
 ·obtain⟨a,r,rfl⟩:∃a r,l=a::r:=by cases l with|nil=>simp at h|cons a r=>exact⟨a,r,rfl⟩
  have f:¬(a::r=[]\/(200:Int)<Int.ofNat (a::r).length):=Z
  refine Gg [(14,.bool (!k.consts.has a||r.any λs=> !k.isSym s))] ?_ ?_
  ·rcases fI (!k.consts.has a)with c|c
   ·refine XS (l:=[]) trivial ?_;refine G5 ?_;refine V (A1 (i:=0) aJ zF rfl rfl rfl) ?_
    refine G ?_;refine V (De bI Cr rfl X.c rfl) ?_;refine G2 ?_
    refine Wx (w:=by simp[c]) ?_
    refine Wx (w:=by simp[c]) ?_
    refine Wx (w:=by simp[c]) ?_
    refine Ta (e:=true) rfl rfl rfl rfl (by simp[c]) rfl rfl ?_
    refine V (A3 rfl (by simp[c]) rfl) ?_
    refine G2 ?_
    exact⟨⟨congrArg (λb=>some (I.bool b)) (by simp[c]),trivial⟩,sb,rfl⟩
   ·refine XS (l:=[(46,[Af r,.fn (.func 246) [] [.pv [eJ m]]],J,.bool (r.any λs=> !k.isSym s),J)]) ⟨pJ (λs=> !k.isSym s) r 246 [.pv [eJ m]] J Z (λs _=>FZ m k s J X),trivial⟩ ?_
    refine G5 ?_;refine V (A1 (i:=0) aJ zF rfl rfl rfl) ?_
    refine G ?_;refine V (De bI Cr rfl X.c rfl) ?_;refine G2 ?_
    refine Wn (w:=by simp[c]) Oq ?_
    refine Wn (w:=by simp[c]) (Uu (a:=1) aJ zF rfl rfl zS) ?_
    refine Wn (w:=by simp[c]) Oq ?_
    refine Qi (e:=true) rfl rfl rfl rfl (by simp[c]) rfl rfl Oq ?_
    refine V (Au rfl (by simp[c]) rfl) ?_
    refine G2 ?_
    exact⟨⟨congrArg (λb=>some (I.bool b)) (by simp[c]),trivial⟩,sb,rfl⟩
  refine Ab rfl ?_ ?_<;>intro h
  ·refine G5 ?_;refine B4 d rfl ?_;rw[Kn.textF,if_neg f,if_pos Z];rfl
  ·refine G6 ?_;refine B4 d rfl ?_;rw[Kn.textF,if_neg f,if_neg Z];rfl
def oA(m:Nat)(J q:F):Prop:=O q=O J/\∀b,b<m\/m+5<=b->q.get b=J.get b
theorem oA.refl{m J}:oA m J J:=⟨rfl,λ_ _=>rfl⟩
theorem oA.set{m a J q o}(h:oA m J q)(u:m<=a)(r:a<m+5):oA m J (q.set a o):=
 ⟨by rw[Aq];exact h.1,λb c=>by rw[aU,if_neg z];exact h.2 b c⟩
def L8(s:aH):Bool:=Mq [2,3] s
def Qp:List aH->Kn->Int×Kn
 |[],k=>(0,k)
 |c::r,k=>cond (!L8 c) (2,k) (cond (k.consts.has c) (6,k) (Qp r { k with consts:=k.consts.put c true }))
def Sf:List aH->Kn->Int×Kn
 |[],k=>(0,k)
 |c::r,k=>cond (!L8 c) (2,k) (cond (k.isSym c) (6,k) (Sf r { k with vars:=k.vars.put c true }))
def K8(d:Db)(k:Kn):Int×Kn:=if(Qp d.consts k).1=0 then Sf d.vars (Qp d.consts k).2 else Qp d.consts k
theorem A4{C:Type}{l:List C}{i a}(c:l[i]? =some a):l.drop i=a::l.drop (i+1):=by
 obtain⟨b,rfl⟩:=bQ.1 c;exact iF b
theorem Ar{C:Type}{l:List C}{i}(h:i<l.length):∃a,l[i]? =some a:=⟨_,fF h⟩
theorem AX(m k d J)(hk:Hj J m k)(hb:d.consts.length<4611686018427387904)(o:d.vars.length<4611686018427387904):Al M 175 [eJ m,fy d] J λv L=>v=D (K8 d k).1/\oA m J L/\Hj L m (K8 d k).2:=by
 refine Aj Tryz.func175 rfl rfl λhw f=>?_
 iterate 14 refine G ?_
 refine Bz d.consts.length (λs=>[(0,eJ m),(3,.pv [Af d.consts,Af d.vars,aD eF 8 d.frames]),(10,Af d.consts),(11,D (.ofNat d.consts.length)),(12,D (.ofNat s))]) (λs x=>∃w,oA m J x/\Hj x m w/\Qp d.consts k=Qp (d.consts.drop s) w) SL ⟨k,.refl,hk,rfl⟩ ?_
 rintro s x X ⟨u,f,a,i⟩;refine G5 ?_;refine Ab rfl ?_ ?_<;>intro S
 ·have Q:s<d.consts.length:=by simpa using S
  obtain⟨N,E⟩:=Ar Q;have j:=A4 E;obtain⟨T,me⟩:=a.c
  iterate 13 refine G ?_
  refine Ca (mU N _) ?_;refine G2 ?_;refine Ab rfl ?_ ?_<;>intro q
  ·refine G4 ?_;refine Bo λc=>?_
   refine G ?_
   exact⟨_,rfl,_,_,a_ c Y zN,by rw[f.1];exact Y,.same rfl,by rw[K8,i,j,Qp,L8,q];rfl,f,by rw[K8,i,j,Qp,L8,q];exact a⟩
  ·refine G9 ?_;refine A (De bI Cr rfl a.c rfl) ?_;refine G ?_;refine Ab rfl ?_ ?_<;>intro p
   ·refine G4 ?_;refine Bo λc=>?_
    refine G ?_
    exact⟨_,rfl,_,_,a_ c Y zN,by rw[f.1];exact Y,.same rfl,by rw[K8,i,j,Qp,L8,q,p];rfl,f,by rw[K8,i,j,Qp,L8,q,p];exact a⟩
   ·refine G7 ?_
    refine A (Gh (v:=true) bI Cr rfl me rfl rfl (λte n h=>by first|exact I0 n h|exact I1 n h|exact I2 n h|exact Jn n h|exact H6 n h rfl)) ?_
    refine G5 ?_
    refine⟨Q,SL,{ u with consts:=u.consts.put N true },f.set z z,⟨.put,a.v.set z,a.f.set z,a.h.set z,a.t.set z⟩,by rw[i,j,Qp,L8,q,p];rfl⟩
 ·have W:d.consts.length<=s:=by simpa using S
  have r:K8 d k=Sf d.vars u:=by rw[K8,i,cv W];rfl
  refine cD ?_;refine Bz d.vars.length (λt=>[(0,eJ m),(32,Af d.vars),(33,D (.ofNat d.vars.length)),(34,D (.ofNat t))]) (λt y=>∃w,oA m J y/\Hj y m w/\Sf d.vars u=Sf (d.vars.drop t) w) SL ⟨u,f,a,rfl⟩ ?_
  rintro t y a7 ⟨h,g,b,e⟩;refine G5 ?_;refine Ab rfl ?_ ?_<;>intro q
  ·have R:t<d.vars.length:=by simpa using q
   obtain⟨B,K⟩:=Ar R;have l:=A4 K;obtain⟨U,mi⟩:=b.v
   iterate 13 refine G ?_
   refine Ca (mU B _) ?_;refine G2 ?_;refine Ab rfl ?_ ?_<;>intro p
   ·refine G4 ?_;refine Bo λc=>?_
    refine G ?_
    exact⟨_,rfl,_,_,a_ c Y zN,by rw[g.1];exact Y,.same rfl,by rw[r,e,l,Sf,L8,p];rfl,g,by rw[r,e,l,Sf,L8,p];exact b⟩
   ·refine G6 ?_;refine Ca (oP m h B _ b) ?_;refine G ?_;refine Ab rfl ?_ ?_<;>intro C
    ·refine G4 ?_;refine Bo λc=>?_
     refine G ?_
     exact⟨_,rfl,_,_,a_ c Y zN,by rw[g.1];exact Y,.same rfl,by rw[r,e,l,Sf,L8,p,C];rfl,g,by rw[r,e,l,Sf,L8,p,C];exact b⟩
    ·refine G7 ?_
     refine A (Gh (v:=true) bI Cr rfl mi rfl rfl (λte n h=>by first|exact I0 n h|exact I1 n h|exact I2 n h|exact Jn n h|exact H6 n h rfl)) ?_
     refine G5 ?_
     refine⟨R,SL,{ h with vars:=h.vars.put B true },g.set z z,⟨b.c.set z,.put,b.f.set z,b.h.set z,b.t.set z⟩,by rw[e,l,Sf,L8,p,C];rfl⟩
  ·have P:d.vars.length<=t:=by simpa using q
   refine G5 ?_;refine Bo λc=>?_
   refine G ?_
   exact⟨_,rfl,_,_,a_ c Y zN,by rw[g.1];exact Y,.same rfl,by rw[r,e,cv P];rfl,g,by rw[r,e,cv P];exact b⟩
theorem sH:Zv M.P 4=true:=Kr
theorem Fw{C:Type}{l:List C}{i a}(c:l[i]? =some a):l.take (i+1)=l.take i++[a]:=by rw[List.take_add_one,c];rfl
theorem wA(p):D4 M.P 274 (.agg (eP p))=some (.agg [kS p.a,kS p.b]):=Kr
theorem LL(p q:Pr):aQ.eq (.agg [kS p.a,kS p.b]) (.agg [kS q.a,kS q.b])=decide (p=q):=by
 show cond (aQ.eq (kS p.a) (kS q.a)) (cond (aQ.eq (kS p.b) (kS q.b)) true false) false=_
 rw[sL,sL];obtain⟨a,b⟩:=p;obtain⟨c,d⟩:=q
 grind
theorem Xs(l m J)(Q:m.length<4611686018427387904):Cv 49 [Af l,Af m] J (.bool (decide (l=m))):=by
 refine Aj Tryz.func49 rfl rfl λf o=>?_
 iterate 13 refine G ?_
 refine Ab rfl ?_ ?_<;>intro r
 ·refine G5 ?_;refine B4 f rfl ?_;exact congrArg I.bool (decide_eq_false Z).symm
 ·have q:l.length=m.length:=Z;refine G9 ?_;refine Bz l.length (λa=>[(0,Af l),(1,Af m),(12,D (.ofNat l.length)),(13,D (.ofNat a))]) (λa g=>g=J/\l.take a=m.take a) SL ⟨rfl,rfl⟩ ?_
  rintro a g n ⟨rfl,e⟩;refine G5 ?_;refine Ab rfl ?_ ?_<;>intro s
  ·have h:a<l.length:=Z;obtain⟨i,c⟩:=Ar h;have k:=A4 c
   obtain⟨b,d⟩:=Ar (show a<m.length by omega)
   refine G9 ?_;refine X0 ?_;refine G8 ?_;refine V (Ko aV rfl rfl) ?_;refine G ?_;refine⟨rfl,rfl,?_⟩;refine Ab rfl ?_ ?_<;>intro t
   ·refine G5 ?_;refine B4 f rfl ?_;exact congrArg I.bool (decide_eq_false Z).symm
   ·refine G5 ?_
    refine⟨h,SL,rfl,(have j:i=b:=Z;by rw[Fw c,Fw d,e,j])⟩
  ·have p:l.length<=a:=Z;refine G6 ?_;refine B4 f rfl ?_;exact congrArg I.bool (decide_eq_true Z).symm
theorem BJ(l m J)(Q:m.length<4611686018427387904):Cv 250 [aD eP 2 l,aD eP 2 m] J (.bool (decide (l=m))):=by
 refine Aj Tryz.func250 rfl rfl λh p=>?_
 iterate 13 refine G ?_
 refine Ab rfl ?_ ?_<;>intro s
 ·refine G5 ?_;refine B4 h rfl ?_;exact congrArg I.bool (decide_eq_false Z).symm
 ·have r:l.length=m.length:=Z;refine G9 ?_;refine Bz l.length (λa=>[(0,aD eP 2 l),(1,aD eP 2 m),(12,D (.ofNat l.length)),(13,D (.ofNat a))]) (λa i=>i=J/\l.take a=m.take a) SL ⟨rfl,rfl⟩ ?_
  rintro a i o ⟨rfl,g⟩;refine G5 ?_;refine Ab rfl ?_ ?_<;>intro t
  ·have j:a<l.length:=Z;obtain⟨e,c⟩:=Ar j;have n:=A4 c
   obtain⟨b,f⟩:=Ar (show a<m.length by omega)
   refine G9 ?_;refine X0 ?_;refine G8 ?_;refine V (Aw3 aV rfl rfl rfl rfl (wA e) (wA b)) ?_;refine G ?_;refine⟨rfl,rfl,?_⟩;refine Ab rfl ?_ ?_<;>intro d
   ·refine G5 ?_;refine B4 h rfl ?_
    exact congrArg I.bool (decide_eq_false (λu=>by
     have k:e≠b:=(by rw[LL]at d;simpa using d)
     grind)).symm
   ·refine G5 ?_
    refine⟨j,SL,rfl,(have k:e=b:=(by rw[LL]at d;simpa using d);by rw[Fw c,Fw f,g,k])⟩
  ·have q:l.length<=a:=Z;refine G6 ?_;refine B4 h rfl ?_;exact congrArg I.bool (decide_eq_true Z).symm
def sK(a b:Hp):Bool:=decide (a.label=b.label)&&(a.floating==b.floating)&&decide (a.text=b.text)
theorem vG(a b J)(Q:b.text.length<4611686018427387904):Cv 181 [.agg (eH a),.agg (eH b)] J (.bool (sK a b)):=by
 refine Aj Tryz.func181 rfl rfl λd c=>?_
 iterate 14 refine G ?_
 refine fZ 5 ?_ (λH=>?_) ?_
 rotate_left
 ·iterate 4 refine Gn H ?_
  refine On H (sE sH rfl rfl) ?_;exact Ez
 refine G ?_;refine fZ 5 ?_ (λH=>?_) ?_
 rotate_left
 ·iterate 4 refine Gn H ?_
  refine Bh rfl rfl rfl (by rw[H];rfl) rfl rfl rfl rfl (Xs a.text b.text _ Q) ?_
  exact Ez
 refine G3 ?_;refine B4 d rfl ?_;exact rfl
theorem FW(l J)(Q:l.length<1000000):Cv 227 [Af l] J (Af l):=by
 refine Aj Tryz.func227 rfl rfl λd j=>?_
 refine G8 ?_;refine HJ bF rfl rfl λb c=>?_
 refine G ?_;refine Ab rfl ?_ ?_<;>intro h
 ·refine G4 ?_;obtain rfl:=oD (c h);refine G ?_;exact⟨_,rfl,Af [],J,a_ d Y zN,Y,Ex,rfl,rfl⟩
 ·refine G3 ?_
  obtain⟨v,U,f,e,g,_⟩:=iS (enc:=λs:aH=>[sV s]) (sz:=1) (l:=([]:List aH)) (by':=16) (N:=O J) (λs=>rfl) Y (aW.emp (enc:=λs:aH=>[sV s]) (sz:=1)) l (by simp[az];omega)
  refine A (Ai aJ bM rfl rfl rfl) ?_;refine G ?_;refine A (Av aJ rfl bF rfl rfl rfl (X7 (enc:=λs:aH=>[sV s]) (sz:=1) zF _ l) f) ?_
  refine G3 ?_;exact⟨_,rfl,Af l,J,bL d g,Y,e.fz zF (λa i=>d.none i) (A2 zF l),rfl,rfl⟩
theorem t4(l J)(Q:l.length<1000000):Al M 224 [aD eH 3 l] J λv d=>aW d (O J) eH 3 l v/\Below (O J) J d:=by
 refine Aj Tryz.func224 rfl rfl λm k=>?_
 refine G8 ?_;refine HJ bF rfl rfl λb a=>?_
 refine G ?_;refine Ab rfl ?_ ?_<;>intro h
 ·refine G4 ?_;obtain rfl:=oD (a h);refine G ?_;exact⟨_,rfl,_,J,a_ m Y zN,Y,.same rfl,.nil,.rfl'⟩
 ·refine G3 ?_
  obtain⟨v,U,g,f,e,_⟩:=iS (enc:=eH) (sz:=3) (l:=([]:List Hp)) (by':=48) (N:=O J) (λs=>rfl) Y (aW.emp (enc:=eH) (sz:=3)) l (by simp[az];omega)
  refine A (Ai aJ bM rfl rfl rfl) ?_;refine G ?_;refine A (Av aJ rfl bF rfl rfl rfl (X7 (enc:=eH) (sz:=3) zF _ l) g) ?_
  refine G2 ?_;refine Bo λc=>BF (i:=2) rfl λj=>?_
  refine G ?_;exact⟨_,rfl,_,_,a_ c Y zN,e.1,.same j,f,e⟩
theorem CH(l J)(Q:l.length<1000000):Al M 273 [aD eP 2 l] J λv d=>aW d (O J) eP 2 l v/\Below (O J) J d:=by
 refine Aj Tryz.func273 rfl rfl λm k=>?_
 refine G8 ?_;refine HJ bF rfl rfl λb a=>?_
 refine G ?_;refine Ab rfl ?_ ?_<;>intro h
 ·refine G4 ?_;obtain rfl:=oD (a h);refine G ?_;exact⟨_,rfl,_,J,a_ m Y zN,Y,.same rfl,.nil,.rfl'⟩
 ·refine G3 ?_
  obtain⟨v,U,g,f,e,_⟩:=iS (enc:=eP) (sz:=2) (l:=([]:List Pr)) (by':=32) (N:=O J) (λs=>rfl) Y (aW.emp (enc:=eP) (sz:=2)) l (by simp[az];omega)
  refine A (Ai aJ bM rfl rfl rfl) ?_;refine G ?_;refine A (Av aJ rfl bF rfl rfl rfl (X7 (enc:=eP) (sz:=2) zF _ l) g) ?_
  refine G2 ?_;refine Bo λc=>BF (i:=2) rfl λj=>?_
  refine G ?_;exact⟨_,rfl,_,_,a_ c Y zN,e.1,.same j,f,e⟩
end Go.AM

