/- A part of the proof; shortened by program. -/
import Derived.Test.YtmkaboegdoadhaaGreatDoorP36
set_option maxRecDepth 100000
set_option maxHeartbeats 4000000
set_option linter.all false
namespace Go.AM
open Go Go.Proofs
theorem Beh{s}(h:uB s=true):s.sorts.length<=20/\s.syms.length<=20/\∀y∈s.syms,y.vals.length<=700:=by
 unfold uB at h;simp only[bg,decide_eq_true_eq,ep,eQ]at h;obtain⟨⟨c,d⟩,a⟩:=h
 refine⟨by omega,by omega,λy b=>?_⟩
 have:=rO.1 a y b;unfold mu at this
 grind
theorem JT{d s}(u:W6 d 12 60=true)(r:uB s=true):pO d s/\d.frames.length<1000000:=by
 have e:W6 d 15 60=true:=by
  unfold W6 at u⊢
  grind
 obtain⟨b,a,g⟩:=Ac1 (UG e);obtain⟨h,i,j⟩:=Beh r
 exact⟨⟨b,a,by omega,by omega,Z,(NI d).s,λf c=>⟨by have:=(b.f f c).h;omega,Z,Z,Z⟩⟩,by omega⟩
theorem WK(d:Db)(s:cA)(k:Nat)(hk:k<256)(C:∀J,Cv 32 [] J (.bool true))(J:F):Cv 6 [fy d,iE s,.int .u8 (.ofNat k)] J (.bool true):=by
 refine Aj Tryz.func6 rfl rfl λhw a9=>?_
 have u:∀{ρ:Ad},Ad.at ρ 6=some (.bool true)->jI M Tryz.f6 (O J) (λv J'=>v=.bool true/\J'=J) ρ J:=λP=>⟨[.bool true],Ba P rfl,.bool true,J,a_ hw Y zN,Y,.same rfl,rfl,rfl⟩
 refine cD ?_
 refine Ca (f9 d 12 60 _ zD zD) ?_
 refine G2 ?_;refine Qh 3 _ (!uB s) rfl rfl rfl rfl rfl (Eh rfl) (λH=>?_) (λH=>?_) ?_
 ·refine Gn H ?_
  refine Bh rfl rfl rfl (by rw[H];rfl) rfl rfl rfl rfl (f5 s _) ?_
  refine Gn H ?_;refine G ?_;refine⟨rfl,?_,rfl⟩
  repeat (first|exact Hy.refl|refine Hy.cons rfl ?_)
 ·iterate 3 refine Of H ?_
  refine G ?_;exact⟨rfl,sb⟩
 refine G ?_;refine Qh 4 _ (decide (Int.ofNat d.frames.length=0)) rfl rfl rfl rfl rfl (Eh rfl) (λH=>?_) (λH=>?_) ?_
 ·refine Gn H ?_;refine On H (Ac (v:=aD eF 8 d.frames) aG rfl rfl rfl) ?_
  iterate 2 refine Gn H ?_
  refine G ?_;refine⟨rfl,?_,?_⟩
  ·exact sb
  ·exact rfl
 ·iterate 4 refine Of H ?_
  refine G ?_;exact⟨rfl,sb⟩
 refine G ?_;refine Ab rfl ?_ ?_<;>intro h1
 ·refine G2 ?_;refine Ca (C _) ?_;refine G3 ?_;exact u rfl
 simp only[iT,oQ,decide_eq_false_iff_not,ep]at h1;obtain⟨⟨h2,h3⟩,h4⟩:=h1;obtain⟨K,E⟩:=JT h2 h3
 have X:d.frames.length≠0:=by omega
 obtain⟨i,hi⟩:=zE (k%d.frames.length)
 obtain⟨r,S⟩:=Ar (show i<d.frames.length by rw[<-hi];exact Nat.mod_lt _ z)
 have R:(0:Int)<=600:=by decide
 have f9:(600:Int)<=100000:=by decide
 refine G4 ?_;refine Ca (YT s _ K.so K.sy) ?_;refine G5 ?_;refine A (SD (p:=k) rfl hk) ?_;refine G ?_;refine A (Ac (v:=aD eF 8 d.frames) aG rfl rfl rfl) ?_;refine G ?_;refine A (A4w (p:=k) (q:=d.frames.length) aV rfl rfl X) ?_;rw[hi];refine G7 ?_;refine Ca (ε K _) ?_;refine G2 ?_;refine Ab rfl ?_ ?_<;>intro y
 ·refine G2 ?_;refine Ca (C _) ?_;refine G3 ?_;exact u rfl
 have y:cO (aM d) s=0:=Z;obtain⟨L,Q⟩:=zE (jS (kj d s 600) (Int.ofNat i) d.frames 0 (-1) true);refine cD ?_;refine A (Ac (v:=aD eF 8 d.frames) aG rfl rfl rfl) ?_;refine G4 ?_;refine Ci (λx:Nat×Int×Bool=>[(3,.pv [Af d.consts,Af d.vars,aD eF 8 d.frames]),(7,.pv (mF s)),(8,nV i),(9,D x.2.1),(10,.bool x.2.2),(51,aD eF 8 d.frames),(52,nV d.frames.length),(53,nV x.1)]) (λx t=>x.1<=d.frames.length/\t=J/\jS (kj d s 600) (Int.ofNat i) (d.frames.drop x.1) x.1 x.2.1 x.2.2=L) (λx=>d.frames.length-x.1) (0,-1,true) SL ⟨bU _,rfl,Q⟩ ?_
 rintro⟨h,p,l⟩ t ⟨U,rfl,g⟩
 dsimp only at U g
 refine G5 ?_;refine Ab rfl ?_ ?_<;>intro P
 ·have W:h<d.frames.length:=Int.ofNat_lt.1 (of_decide_eq_true P);obtain⟨f,hf⟩:=Ar W;rw[A4 hf,jS]at g;refine G8 ?_;refine Rn bG aG rfl rfl zF rfl zF rfl rfl rfl rfl rfl ?_
  refine G7 ?_;refine Ab rfl ?_ ?_<;>intro B
  ·rw[if_pos (show f.thm=true from B)]at g
   refine G2 ?_;refine A (D3 (p:=h) (q:=1) aV rfl rfl z) ?_;refine G2 ?_;exact⟨(h+1,p,l),Z,SL,Z,rfl,g⟩
  rw[if_neg (show ¬f.thm=true by rw[show f.thm=false from B];decide)]at g
  obtain⟨o,e,n⟩:∃o e,kj d s 600 f=(o,e):=⟨_,_,rfl⟩;have w:=ML K t R f9 hf
  have a7:(jQ d s f 600).1=o:=by unfold jQ;rw[if_pos y];exact congrArg Prod.fst n
  have a8:(jQ d s f 600).2.2.2=e:=by unfold jQ;rw[if_pos y];exact congrArg Prod.snd n
  rw[a7,a8]at w;rw[n]at g;refine G6 ?_;refine Ca w ?_
  iterate 16 refine G ?_
  refine Ab rfl ?_ ?_<;>intro h8
  ·refine G2 ?_;refine Ca (C _) ?_;refine G3 ?_;exact u rfl
  have h8:e=0:=Z;rw[if_neg (λq=>q h8),<-NZ]at g
  dsimp only at g
  refine G7 ?_;refine Hq 2 _ (decide (p<0)) rfl rfl rfl rfl rfl (Eh rfl) (λH=>?_) (λH=>?_) ?_
  ·iterate 2 refine Gn H ?_
   refine G ?_;refine⟨rfl,?_,?_⟩
   ·exact sb
   ·exact rfl
  ·iterate 2 refine Of H ?_
   refine G ?_;exact⟨rfl,sb⟩
  refine G ?_;refine Ab rfl ?_ ?_<;>intro h9
  ·rw[if_pos (show(!o&&decide (p<0))=true from h9)]at g
   refine G7 ?_;refine Hq 5 _ (o== !decide (Int.ofNat h=Int.ofNat i)) rfl rfl rfl rfl rfl (Eh rfl) (λ(H:l=true)=>?_) (λ(H:l=false)=>?_) ?_
   ·iterate 4 refine Gn H ?_
    refine On H (sE sH rfl rfl) ?_;refine G ?_;refine⟨rfl,?_,?_⟩
    ·exact sb
    ·exact rfl
   ·iterate 5 refine Of H ?_
    refine G ?_;exact⟨rfl,sb⟩
   refine G3 ?_;refine A (D3 (p:=h) (q:=1) aV rfl rfl z) ?_;refine G2 ?_;exact⟨(h+1,Int.ofNat h,l&&(o== !decide (Int.ofNat h=Int.ofNat i))),Z,SL,Z,rfl,g⟩
  ·rw[if_neg (show ¬(!o&&decide (p<0))=true by rw[show(!o&&decide (p<0))=false from h9];decide)]at g
   refine G4 ?_;refine Hq 5 _ (o== !decide (Int.ofNat h=Int.ofNat i)) rfl rfl rfl rfl rfl (Eh rfl) (λ(H:l=true)=>?_) (λ(H:l=false)=>?_) ?_
   ·iterate 4 refine Gn H ?_
    refine On H (sE sH rfl rfl) ?_;refine G ?_;refine⟨rfl,?_,?_⟩
    ·exact sb
    ·exact rfl
   ·iterate 5 refine Of H ?_
    refine G ?_;exact⟨rfl,sb⟩
   refine G3 ?_;refine A (D3 (p:=h) (q:=1) aV rfl rfl z) ?_;refine G2 ?_;exact⟨(h+1,p,l&&(o== !decide (Int.ofNat h=Int.ofNat i))),Z,SL,Z,rfl,g⟩
 have T:d.frames.length<=h:=dQ.1 (Int.not_lt.1 (λq=>of_decide_eq_false P q))
 rw[cv T,jS]at g;rw[<-g]at Q;have m:=f36 K E t R f9
 rw[show oO d s 600=(decide (p<0),max p 0,0) by unfold oO;rw[if_pos y];exact Bbf Q]at m
 have j:=SY K E t R f9 S
 dsimp only at m
 obtain⟨ib,ie,N⟩:∃a b,lX d s i r 600=(a,b):=⟨_,_,rfl⟩;rw[N]at j;refine G5 ?_;refine Ca m ?_
 iterate 13 refine G ?_
 refine Ca j ?_;refine cD ?_;refine A (Ac (v:=aD eF 8 d.frames) aG rfl rfl rfl) ?_;refine G5 ?_
 have c:lX d s i r 600=if r.thm=true then(false,13)else(l,0):=by unfold lX;rw[if_pos y,Bbe Q]
 rw[N]at c;refine Ab rfl ?_ ?_<;>intro B
 ·rw[if_pos (show r.thm=true from B)]at c
  cases c
  dsimp only at j
  refine G5 ?_;refine Hq 1 _ true rfl rfl rfl rfl rfl (Eh rfl) (λH=>?_) (λH=>?_) ?_
  ·refine Bh rfl rfl rfl rfl rfl rfl rfl rfl (C _) ?_;refine G ?_;refine⟨rfl,?_,rfl⟩
   repeat (first|exact Hy.refl|refine Hy.cons rfl ?_)
  ·grind
  refine G3 ?_;exact u rfl
 rw[if_neg (show ¬r.thm=true by rw[show r.thm=false from B];decide)]at c
 cases c
 dsimp only at j
 refine G6 ?_;refine Hq 2 _ true rfl rfl rfl rfl rfl (Eh rfl) (λH=>?_) (λH=>?_) ?_
 ·refine Bi rfl rfl rfl rfl rfl bT rfl rfl Oq (Bi rfl rfl rfl rfl rfl bT rfl rfl (H4 (q:=0) aV rfl rfl) ?_);refine G ?_;refine⟨rfl,?_,rfl⟩
  repeat (first|exact Hy.refl|refine Hy.cons rfl ?_)
 ·grind
 refine G ?_;refine Hq 4 _ true rfl rfl rfl rfl rfl (Eh rfl) (λH=>?_) (λH=>?_) ?_
 ·refine Bi rfl rfl rfl rfl rfl bT rfl rfl Oq (Bi rfl rfl rfl rfl rfl bT rfl rfl Oq (Bi rfl rfl rfl rfl rfl bT rfl rfl (Qe (q:=0) aV rfl rfl) (Bi rfl rfl rfl rfl rfl bT rfl rfl (sE sH rfl rfl) ?_)));refine G ?_;refine⟨rfl,?_,congrArg (λb=>some (I.bool b)) (beq_self_eq_true _)⟩
  repeat (first|exact Hy.refl|refine Hy.cons rfl ?_)
 ·grind
 refine G ?_;refine Hq 4 _ true rfl rfl rfl rfl rfl (Eh rfl) (λH=>?_) (λH=>?_) ?_
 ·refine Bi rfl rfl rfl rfl rfl bT rfl rfl Oq (Bi rfl rfl rfl rfl rfl bT rfl rfl Oq (Bi rfl rfl rfl rfl rfl bT rfl rfl (BE aV rfl rfl) (Bi rfl rfl rfl rfl rfl bT rfl rfl Oq ?_)));refine G ?_;refine⟨rfl,?_,congrArg (λb=>some (I.bool b)) (decide_eq_true rfl)⟩
  repeat (first|exact Hy.refl|refine Hy.cons rfl ?_)
 ·grind
 refine G ?_;refine Hq 3 _ true rfl rfl rfl rfl rfl (Eh rfl) (λH=>?_) (λH=>?_) ?_
 ·refine Bi rfl rfl rfl rfl rfl bT rfl rfl Oq (Bi rfl rfl rfl rfl rfl bT rfl rfl Oq (Bi rfl rfl rfl rfl rfl bT rfl rfl (sE sH rfl rfl) ?_));refine G ?_;refine⟨rfl,?_,congrArg (λb=>some (I.bool b)) (beq_self_eq_true _)⟩
  repeat (first|exact Hy.refl|refine Hy.cons rfl ?_)
 ·grind
 refine G ?_;refine Hq 1 _ true rfl rfl rfl rfl rfl (Eh rfl) (λH=>?_) (λH=>?_) ?_
 ·refine Bh rfl rfl rfl rfl rfl rfl rfl rfl (C _) ?_;refine G ?_;refine⟨rfl,?_,rfl⟩
  repeat (first|exact Hy.refl|refine Hy.cons rfl ?_)
 ·grind
 refine G3 ?_;exact u rfl
def dZ:Db:=⟨[[115,101,116,118,97,114],[119,102,102],[124,45],[61],[65,46],[40],[45,62],[41]],[[120],[121],[112,104]],[⟨[119,101,113],false,[⟨[118,120],true,[[115,101,116,118,97,114],[120]]⟩,⟨[118,121],true,[[115,101,116,118,97,114],[121]]⟩],[],[[119,102,102],[120],[61],[121]],[⟨[119,112,104],true,[[119,102,102],[112,104]]⟩],[],[]⟩,
 ⟨[119,97,108],false,[⟨[118,120],true,[[115,101,116,118,97,114],[120]]⟩,⟨[119,112,104],true,[[119,102,102],[112,104]]⟩],[],[[119,102,102],[65,46],[120],[112,104]],[⟨[118,121],true,[[115,101,116,118,97,114],[121]]⟩],[],[]⟩,
 ⟨[119,105],false,[⟨[119,112,104],true,[[119,102,102],[112,104]]⟩],[],[[119,102,102],[40],[45,62],[112,104],[41]],[⟨[118,120],true,[[115,101,116,118,97,114],[120]]⟩,⟨[118,121],true,[[115,101,116,118,97,114],[121]]⟩],[],[]⟩,
 ⟨[97,108,108],false,[⟨[118,120],true,[[115,101,116,118,97,114],[120]]⟩],[],[[124,45],[65,46],[120],[120],[61],[120]],[⟨[118,121],true,[[115,101,116,118,97,114],[121]]⟩,⟨[119,112,104],true,[[119,102,102],[112,104]]⟩],[],[]⟩,
 ⟨[111,110,101],false,[⟨[118,120],true,[[115,101,116,118,97,114],[120]]⟩,⟨[118,121],true,[[115,101,116,118,97,114],[121]]⟩],[],[[124,45],[120],[61],[121]],[⟨[119,112,104],true,[[119,102,102],[112,104]]⟩],[],[]⟩,
 ⟨[103,101,110],false,[⟨[118,120],true,[[115,101,116,118,97,114],[120]]⟩,⟨[119,112,104],true,[[119,102,102],[112,104]]⟩,⟨[103,101,110,46,49],false,[[124,45],[112,104]]⟩],[⟨[112,104],[120]⟩],[[124,45],[65,46],[120],[112,104]],[⟨[118,121],true,[[115,101,116,118,97,114],[121]]⟩],[⟨[112,104],[120]⟩],[]⟩]⟩
def sZ:cA:=⟨2,[⟨[115,101,116,118,97,114],1⟩,⟨[119,102,102],3⟩],[⟨[119,101,113],-1,[1,0,0,1]⟩,⟨[119,97,108],0,[0,0,0,1]⟩,⟨[119,105],-1,[0,1]⟩]⟩
theorem Bei:Ea dZ=0:=Kr
def zh:List Rl:=[⟨[118,120],[115,101,116,118,97,114],[⟨[120],[],0⟩],true⟩,
 ⟨[118,121],[115,101,116,118,97,114],[⟨[121],[],0⟩],true⟩,
 ⟨[119,112,104],[119,102,102],[⟨[112,104],[],0⟩],true⟩,
 ⟨[119,101,113],[119,102,102],[⟨[],[115,101,116,118,97,114],0⟩,⟨[61],[],0⟩,⟨[],[115,101,116,118,97,114],1⟩],false⟩,
 ⟨[119,97,108],[119,102,102],[⟨[65,46],[],0⟩,⟨[],[115,101,116,118,97,114],0⟩,⟨[],[119,102,102],1⟩],false⟩,
 ⟨[119,105],[119,102,102],[⟨[40],[],0⟩,⟨[45,62],[],0⟩,⟨[],[119,102,102],0⟩,⟨[41],[],0⟩],false⟩]
def gZ:Gr:=⟨[[115,101,116,118,97,114],[119,102,102]],zh⟩
theorem vZ:∀r∈zh,Hr gZ r=true:=by
 intro r b
 have a:(D1 r).Pairwise λx y=>decide (x<=y)=true:=by revert r;decide+kernel
 unfold Hr;rw[Zb a];clear a
 revert r
 decide+kernel
theorem QI:Eb gZ=0:=by
 unfold Eb
 rw[if_neg (by decide+kernel),if_neg (by decide+kernel),show Pe gZ gZ.rules []=false from Akh vZ (by decide+kernel)];rfl
theorem tQ:Kw (Il (Bt dZ) []) dZ.vars zG=some ⟨[[115,101,116,118,97,114],[119,102,102]],zh.take 3⟩:=Kr
theorem Bej:F6 dZ.frames ⟨[[115,101,116,118,97,114],[119,102,102]],zh.take 3⟩=some gZ:=Kr
theorem HQ:aM dZ=(gZ,0):=by
 unfold aM
 rw[if_neg (by rw[Bei];decide),tQ]
 simp only;rw[Bej];simp only
 rw[if_neg (by rw[QI];decide)]
theorem HL:cO (aM dZ) sZ=0:=by rw[HQ];kernel_rfl
theorem lQ{s:aH}{R:List aH}:Fj gZ s R=(if s∉gZ.sorts then((none,5):Option (List cN)×Int)else if R.length>200 then(none,4)else
   if(Ej gZ s R).sets.length<=R.length\/(s,0,R.length)∉(Ej gZ s R).done then(none,160)else
   match Im gZ (Ej gZ s R).done R (s,0,R.length)with
   |none=>(none,15)
   |some a=>(some a,0)):=by
 unfold Fj
 rw[if_neg (by rw[QI];decide)];rfl
theorem yw{t:aH}{R:List aH}:B1 dZ (t::R)=(if D7 t∉gZ.sorts then(Ek,11)else match Fj gZ (D7 t) R with
  |(none,e)=>(Ek,if e=160 then 190 else e)
  |(some a,_)=>Mu gZ a):=by
 unfold B1
 rw[HQ,if_neg zD];rfl
def mG:aH:=[118,120]
def xD:aH:=[118,121]
def BY:aH:=[119,112,104]
def xZ:List aH:=[[65,46],[120],[120],[61],[120]]
def xO:List aH:=[[120],[61],[121]]
def xG:List aH:=[[65,46],[120],[112,104]]
def tX:Ax:=.node [119,97,108] [.node mG [],.node [119,101,113] [.node mG [],.node mG []]]
def tO:Ax:=.node [119,101,113] [.node mG [],.node xD []]
def tW:Ax:=.node [119,97,108] [.node mG [],.node BY []]
theorem wJ:B1 dZ ([124,45]::xZ)=(tX,0):=by unfold xZ;rw[yw,lQ];kernel_rfl
theorem wD:B1 dZ ([124,45]::xO)=(tO,0):=by unfold xO;rw[yw,lQ];kernel_rfl
theorem wK:B1 dZ ([124,45]::xG)=(tW,0):=by unfold xG;rw[yw,lQ];kernel_rfl
theorem x7:B1 dZ [[124,45],[112,104]]=(.node BY [],0):=by rw[yw,lQ];kernel_rfl
def wZ:Wd:=bZ gZ sZ
def hx:Hp:=⟨[118,120],true,[[115,101,116,118,97,114],[120]]⟩
def hy:Hp:=⟨[118,121],true,[[115,101,116,118,97,114],[121]]⟩
def hp:Hp:=⟨[119,112,104],true,[[119,102,102],[112,104]]⟩
def H:Hp:=⟨[103,101,110,46,49],false,[[124,45],[112,104]]⟩
def pC(i:Nat):Fr:=(dZ.frames[i]?).getD zFr
theorem pj{f:Fr}{b:lE}{t:Ax}{r:Bool×List cT×List Int×Int}(u:Nv f.text=true)(a:dD dZ wZ.km f.hyps=b)(c:B1 dZ f.text=(t,0))(d:(if b.e≠0 then(false,[],[],b.e)else if 6<b.bd.length then(false,[],[],4)else pK (Bal wZ ⟨b.fl,b.bd,b.ot,b.hy,t,oI b.pl f.apart,100⟩ b.bd [] 0 ⟨0,false,none⟩).2)=r):dT dZ (bZ (aM dZ).1 sZ) f 100=r:=by
 rw[HQ]
 show dT dZ wZ f 100=r
 unfold dT rT
 rw[if_pos u,a,c,if_neg (by decide:¬(0:Int)≠0)]
 exact d
theorem DU:dT dZ (bZ (aM dZ).1 sZ) (pC 3) 100=(true,[],[],0):=pj (b:=⟨[hx],[0],[],[],[([120],0)],0⟩) Kr Kr wJ Kr
theorem GB:dT dZ (bZ (aM dZ).1 sZ) (pC 4) 100=(false,[⟨mG,0,[]⟩,⟨xD,1,[]⟩],[0,1],0):=pj (b:=⟨[hx,hy],[0,1],[],[],[([120],0),([121],1)],0⟩) Kr Kr wD Kr
theorem DH:dT dZ (bZ (aM dZ).1 sZ) (pC 5) 100=(true,[],[],0):=by
 refine pj (b:=⟨[hx,hp],[0],[1],[.node BY []],[([112,104],1),([120],0)],0⟩) Kr ?_ wK Kr;have a:(pC 5).hyps=[hx,hp,H]:=rfl;have c:dD dZ wZ.km [hx,hp]=⟨[hx,hp],[0],[1],[],[([112,104],1),([120],0)],0⟩:=Kr;rw[a]
 show d6 dZ wZ.km (dD dZ wZ.km [hx,hp]) H=_
 rw[c];unfold d6;rw[show H.text=[[124,45],[112,104]]from rfl,x7]
 rfl
theorem UU:pO dZ sZ:=(JT Kr Kr).1
theorem qI(a b c J):Cv 137 [sV a,sV b,sV c] J (.agg [sV b,.bool true,.sv [sV a,sV c] 1 2 none]):=by
 refine Aj Tryz.func137 rfl rfl λe d=>?_
 refine G2 ?_;refine A (Bj (n:=O J) bG rfl) ?_;refine G6 ?_;refine Cx (Ai aJ bM rfl rfl rfl) (Dv (len:=2)) rfl rfl ?_;refine G ?_
 refine A (sO (cs':=[sV b,.bool true,.sv [sV a,sV c] 1 2 none]) (by rw[a5,if_pos rfl])) ?_
 refine G2 ?_
 exact⟨[.agg [sV b,.bool true,.sv [sV a,sV c] 1 2 none]],Am (vs:=[sV b,.bool true,.sv [sV a,sV c] 1 2 none]) (aG (t:=74)) rfl (by simp only[F.cells];grind) rfl rfl,_,J,bL e ⟨Z,Z⟩,Y,.same rfl,rfl,rfl⟩
theorem WM(J):Cv 86 [] J (.tup [fy dZ,iE sZ]):=by
 refine Aj Tryz.func86 rfl rfl λk j=>?_
 refine G2 ?_;refine A (Bj (n:=O J) bG rfl) (A (Bj (n:=O J+1) bG (Ao _ _)) ?_);refine G ?_;obtain⟨a,g⟩:=zE ((J.new (.cells [nS,nS,nS])).new (.cells [.int .i64 0,nS,nS]));rw[g];have p:O a=O J+2:=Z;have o:∀b,b<O J->a.get b=J.get b:=Z;have l:a.get (O J)=some (.cells [nS,nS,nS]):=Z;have m:a.get (O J+1)=some (.cells [.int .i64 0,nS,nS]):=Z;refine G7 ?_;refine Ca (qI [115,101,116,118,97,114] [118,120] [120] _) ?_;refine G ?_;refine Ca (qI [115,101,116,118,97,114] [118,121] [121] _) ?_;refine G ?_;refine Ca (qI [119,102,102] [119,112,104] [112,104] _) ?_;refine A (Bj (n:=O a) bG rfl) (A (Bj (n:=O a+1) bG (Ao _ _)) (A (Bj (n:=O a+2) bG Z) ?_));refine A (G1 (cs:=[.str [],.bool false,nS]) (cs':=[.str [118,120],.bool true,.sv [.str [115,101,116,118,97,114],.str [120]] 1 2 none]) Z aG rfl rfl rfl rfl) ?_;refine A (G1 (cs:=[.str [],.bool false,nS]) (cs':=[.str [118,121],.bool true,.sv [.str [115,101,116,118,97,114],.str [121]] 1 2 none]) Z aG rfl rfl rfl rfl) ?_;refine A (G1 (cs:=[.str [],.bool false,nS]) (cs':=[.str [119,112,104],.bool true,.sv [.str [119,102,102],.str [112,104]] 1 2 none]) Z aG rfl rfl rfl rfl) ?_;refine G ?_;obtain⟨c,h⟩:=zE ((((((a.new (.cells [.str [],.bool false,nS])).new (.cells [.str [],.bool false,nS])).new (.cells [.str [],.bool false,nS])).set (O a) (.cells [.str [118,120],.bool true,.sv [.str [115,101,116,118,97,114],.str [120]] 1 2 none])).set (O a+1) (.cells [.str [118,121],.bool true,.sv [.str [115,101,116,118,97,114],.str [121]] 1 2 none])).set (O a+2) (.cells [.str [119,112,104],.bool true,.sv [.str [119,102,102],.str [112,104]] 1 2 none]));rw[h];have q:O c=O a+3:=Z;have i:∀b,b<O a->c.get b=a.get b:=Z;have d:c.get (O a)=some (.cells [.str [118,120],.bool true,.sv [.str [115,101,116,118,97,114],.str [120]] 1 2 none]):=Z
 have e:c.get (O a+1)=some (.cells [.str [118,121],.bool true,.sv [.str [115,101,116,118,97,114],.str [121]] 1 2 none]):=Z;have f:c.get (O a+2)=some (.cells [.str [119,112,104],.bool true,.sv [.str [119,102,102],.str [112,104]] 1 2 none]):=Z;refine G3 ?_;refine A (Ai aJ bM rfl rfl rfl) ?_;refine G4 ?_;refine A (Ai aJ bM rfl rfl rfl) (A (Ai aJ bM rfl rfl rfl) (A (lO d) (A (lO e) (A (Ai aJ bM rfl rfl rfl) (A (lO f) (A (Ai aJ bM rfl rfl rfl) (A (Ai aJ bM rfl rfl rfl) ?_)))))));refine G ?_;refine A (lO d) (A (lO f) (A (Ai aJ bM rfl rfl rfl) (A (lO e) (A (Ai aJ bM rfl rfl rfl) (A (Ai aJ bM rfl rfl rfl) ?_)))));refine G ?_;refine A (lO f) (A (Ai aJ bM rfl rfl rfl) (A (lO d) (A (lO e) (A (Ai aJ bM rfl rfl rfl) (A (Ai aJ bM rfl rfl rfl) ?_)))));refine G ?_;refine A (lO d) (A (Ai aJ bM rfl rfl rfl) (A (lO e) (A (lO f) (A (Ai aJ bM rfl rfl rfl) (A (Ai aJ bM rfl rfl rfl) ?_)))));refine G ?_;refine A (lO d) (A (lO e) (A (Ai aJ bM rfl rfl rfl) (A (lO f) (A (Ai aJ bM rfl rfl rfl) (A (Ai aJ bM rfl rfl rfl) ?_)))));refine G ?_;refine A (lO d) (A (lO f) (A (Ai aJ bM rfl rfl rfl) ?_));refine G ?_;refine A (Ai aJ bM rfl rfl rfl) (A (lO e) (A (Ai aJ bM rfl rfl rfl) (A (Ai aJ bM rfl rfl rfl) ?_)));refine G3 ?_;refine A (Ai aJ bM rfl rfl rfl) ?_;refine G3 ?_;refine A (Ai aJ bM rfl rfl rfl) (A (Ai aJ bM rfl rfl rfl) ?_);refine G ?_;refine A (Ai aJ bM rfl rfl rfl) ?_;refine G ?_;refine A (Ai aJ bM rfl rfl rfl) ?_;refine G ?_;refine A (Ai aJ bM rfl rfl rfl) ?_;refine G ?_;refine A (G1 (off:=0) ((i _ z).trans l) aG rfl rfl rfl rfl) ?_
 refine A (G1 (off:=0) (by rw[aU,if_neg z];exact(i _ z).trans m) aG rfl rfl rfl rfl) ?_
 refine G2 ?_
 refine⟨_,Am (aG (t:=25)) rfl (by simp only[F.cells];rw[aU,if_neg z,aU,if_pos rfl]) rfl (Am (aG (t:=86)) rfl (by simp only[F.cells];rw[aU,if_pos rfl]) rfl rfl),.tup [fy dZ,iE sZ],J,bL k ⟨Z,Z⟩,Y,Ahs 12 _ _ Kr,rfl,rfl⟩
theorem T'(J):Cv 32 [] J (.bool true):=by
 have d:∀(i:Nat) (r:Bool×List cT×List Int×Int),dZ.frames[i]? =some (pC i)->dT dZ (bZ (aM dZ).1 sZ) (pC i) 100=r->∀J,Cv 35 [fy dZ,iE sZ,nV i,D 100] J (.tup [.bool r.1,aD gE 3 r.2.1,aD eI 1 r.2.2.1,D r.2.2.2]):=λi r m o J=>by
  have h:=ML UU J (fuel:=100) zD zD m
  rwa[show jQ dZ sZ (pC i) 100=r by unfold jQ;rw[if_pos HL];exact o]at h
 have f:∀J,Cv 40 [aD eI 1 [0,1],aD eI 1 [0,1]] J (.bool true):=λJ=>by
  have:=f40 [0,1] [0,1] J zD
  rwa[decide_eq_true rfl]at this
 refine Aj Tryz.func32 rfl rfl λs p=>?_
 refine G6 ?_;refine Ca (WM _) ?_;refine G3 ?_;refine A (Bj (n:=O J) bG rfl) (A (Bj (n:=O J+1) bG (Ao _ _)) (A (G1 (cs:=[nS,nS,nS]) (cs':=[Af dZ.consts,Af dZ.vars,aD eF 8 dZ.frames]) Z aG rfl rfl rfl rfl) ?_));refine A (G1 (cs:=[.int .i64 0,nS,nS]) (cs':=mF sZ) Z aG rfl rfl rfl rfl) ?_;refine G ?_;obtain⟨c,e⟩:=zE ((((J.new (.cells [nS,nS,nS])).new (.cells [.int .i64 0,nS,nS])).set (O J) (.cells [Af dZ.consts,Af dZ.vars,aD eF 8 dZ.frames])).set (O J+1) (.cells (mF sZ)));rw[e];have t:O c=O J+2:=Z;have k:∀b,b<O J->c.get b=J.get b:=Z;have g:c.get (O J)=some (.cells [Af dZ.consts,Af dZ.vars,aD eF 8 dZ.frames]):=Z;have j:c.get (O J+1)=some (.cells (mF sZ)):=Z;refine G2 ?_;refine A (lO g) (A (lO j) ?_);refine Ca (d 3 _ rfl DU c) ?_;refine cG ?_;refine A (lO g) (A (lO j) ?_);refine Ca (d 4 _ rfl GB c) ?_;refine cG ?_;refine A (lO g) (A (lO j) ?_);refine Ca (d 5 _ rfl DH c) ?_
 iterate 15 refine G ?_
 refine Bi rfl rfl rfl rfl rfl bT rfl rfl (Ag rfl) (Bi rfl rfl rfl rfl rfl bT rfl rfl (H4 (q:=0) aV rfl rfl) (A (A3 rfl rfl rfl) ?_));refine G ?_;refine Bi rfl rfl rfl rfl rfl bT rfl rfl (Ag rfl) (Bi rfl rfl rfl rfl rfl bT rfl rfl (H4 (q:=0) aV rfl rfl) (A (A3 rfl rfl rfl) ?_));refine G ?_;refine Bi rfl rfl rfl rfl rfl bT rfl rfl (Ag rfl) (A (A3 rfl rfl rfl) ?_);refine G ?_;refine Bi rfl rfl rfl rfl rfl bT rfl rfl (Ag rfl) (Bi rfl rfl rfl rfl rfl bT rfl rfl (Dc rfl) (A (A3 rfl rfl rfl) ?_));refine G ?_;refine Bi rfl rfl rfl rfl rfl bT rfl rfl (Ag rfl) (A (A3 rfl rfl rfl) ?_);refine G ?_;refine Bi rfl rfl rfl rfl rfl bT rfl rfl (Ag rfl) (Bi rfl rfl rfl rfl rfl bT rfl rfl (Jl bF rfl) (Bi rfl rfl rfl rfl rfl bT rfl rfl (H4 (q:=2) aV rfl rfl) (A (A3 rfl rfl rfl) ?_)));refine G ?_;refine Bi rfl rfl rfl rfl rfl bT rfl rfl (Ag rfl) (Bi rfl rfl rfl rfl rfl bT rfl rfl (A1 (enc:=gE) (l:=[⟨mG,0,[]⟩,⟨xD,1,[]⟩]) (i:=0) (a:=⟨mG,0,[]⟩) aJ zF rfl rfl rfl) ?_)
 refine Bi rfl rfl rfl rfl rfl bT rfl rfl (Ae cP rfl rfl) (Bi rfl rfl rfl rfl rfl bT rfl rfl (Ac aG rfl rfl rfl) (Bi rfl rfl rfl rfl rfl bT rfl rfl (H4 (q:=0) aV rfl rfl) (A (A3 rfl rfl rfl) ?_)));refine G ?_;refine Bi rfl rfl rfl rfl rfl bT rfl rfl (Ag rfl) (Bi rfl rfl rfl rfl rfl bT rfl rfl (A1 (enc:=gE) (l:=[⟨mG,0,[]⟩,⟨xD,1,[]⟩]) (i:=1) (a:=⟨xD,1,[]⟩) aJ zF rfl rfl rfl) ?_)
 refine Bi rfl rfl rfl rfl rfl bT rfl rfl (Ae cP rfl rfl) (Bi rfl rfl rfl rfl rfl bT rfl rfl (Ac aG rfl rfl rfl) (Bi rfl rfl rfl rfl rfl bT rfl rfl (H4 (q:=1) aV rfl rfl) (A (A3 rfl rfl rfl) ?_)));refine G ?_;refine Bi rfl rfl rfl rfl rfl bT rfl rfl (Ag rfl) (ν (Ai aJ bM rfl rfl rfl) (Dv (len:=2)) (Bh rfl rfl rfl rfl rfl rfl rfl rfl (f _) (A (A3 rfl rfl rfl) ?_)));refine G3 ?_
 exact⟨[.bool true],rfl,.bool true,J,bL s ⟨by omega,k⟩,Y,.same rfl,rfl,rfl⟩
theorem DY(d s k)(X:k<256)(J):Cv 6 [fy d,iE s,.int .u8 (.ofNat k)] J (.bool true):=WK d s k X T' J
end Go.AM
