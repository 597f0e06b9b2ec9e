/- A part of the proof; shortened by program. -/
import Derived.LaidMore
import Derived.Stop.Joined
import Derived.Test.YtmkaboegdoadhaaGreatDoorRows
import Derived.ProofKit
import Derived.OpenShut
import Derived.SizedLaws
import Derived.Carry
import Derived.Test.YtmkaboegdoadhaaGreatDoorP31
set_option maxRecDepth 100000
set_option maxHeartbeats 4000000
set_option linter.all false
namespace Go.AM
open Go Go.Proofs Go.Proofs.YtmkaboegdoadhaaGreatDoor
section
variable {H:Type}{eh:TypeId×Value->H}{w:World}{hd:Bool}
theorem sT:Tryz.prog.underlying 3=some (.int .i64):=Kr
theorem P':Tryz.prog.underlying 462=some (.array 10 461):=Kr
theorem VO:Tryz.prog.cellsOf 461=4:=Kr
theorem ZT:Tryz.prog.cellsOf 462=40:=Kr
theorem VK:Kq 461=some [(9,0,1),(4,1,1),(3,2,1),(3,3,1)]:=Kr
theorem Ats{n:Nat}:oG eh w hd n 461 4:=Al2 VK rfl λm _ j f a=>by
 match j,a with
 |0,a=>cases a;exact YG oF
 |1,a=>cases a;exact WE zO
 |2,a=>cases a;exact RX sT
 |3,a=>cases a;exact RX sT
 |j+4,a=>simp at a
theorem Aqf{n:Nat}:oG eh w hd n 462 40:=by
 intro cs x h g;obtain⟨k,m,_,rfl,_,c,a⟩:=DataW.trod_array P' h;rw[VO]at a
 have:=Ac5 (cs:=cs) (eh:=eh) (w:=w) (hd:=hd) (m:=m) ((List.range 10).map λi=>(461,i*4,4)) k 0 (by rw[c];rfl) (λj f e=>by
  rw[eC,pR]at e;obtain⟨i,b,rfl⟩:=e;have d:=(bQ.1 b).1;rw[List.length_range]at d;rw[List.getElem?_range d]at b;cases b
  exact⟨Ats,a j d⟩) (by rw[g];rfl)
 rw[kn]at this;refine⟨?_,this.2⟩;rw[lC];exact this.1
end
theorem UO{w:World}{d:String}{g:Nat}{b:Array Value}(S:Tryz.prog.globalNamed d=some g)(h:w.var? Tryz.prog d=some b):∃T a,w.heap[g]? =some (.cells b T a):=by
 unfold World.var? at h;rw[S]at h;simp only[BH]at h
 split at h
 ·rename_i c T a e;cases h;exact⟨T,a,e⟩
 ·cases h
theorem vC:(Tryz.prog.globals[0]?).map (·.type)=some 462:=Kr
theorem QY:Tryz.prog.globalNamed "apodixis/layout.forms" =some 0:=Kr
def wB:List (String×DataW Unit):=Rows.structureAxiomsRow.laid
theorem TY:lC (Rows.laid_apodixis_layout_forms:DataW Unit)=DA:=Kr
theorem Zj{W:World}(h:laidMetH Tryz.prog wB W):Iw C0 0 W M:=by
 rw[MakeChecks.laidMetH_plain _ _ _ Kr]at h;have o:laidMet Tryz.prog (("apodixis/layout.forms", Rows.laid_apodixis_layout_forms)::[]) W:=h;obtain⟨C, ⟨B, E, e, f, p, q, a, d, x, k, _, _⟩, _⟩:=o;obtain rfl:=gL (QY.symm.trans a);obtain rfl:=gL (vC.symm.trans d)
 refine⟨λg l H=>?_,λc P s=>(by cases s),λL r=>(by cases r)⟩
 have H:vH g=some l:=H;unfold vH at H
 split at H
 ·rename_i t
  have:=bK t;subst this;cases H;obtain⟨T,y,u⟩:=UO QY x
  have b:e.toList.length=40:=by
   obtain⟨G,m,_,_,b,_⟩:=DataW.trod_array P' k;rw[b,ZT]
  obtain⟨j,n⟩:=Aqf e.toList _ k b;rw[show lC (Rows.laid_apodixis_layout_forms:DataW Unit)=DA from TY]at j
  unfold R
  exact⟨0,0,rfl,λ_=>BG 0,xl u j n λi v w=>by rw[dE];simpa using w⟩
 ·cases H
end Go.AM
namespace Go.AM
open Go Go.Proofs
section
variable {H:Type}{eh:TypeId×Value->H}{w:World}{hd:Bool}
theorem uG:Tryz.prog.underlying 31=some (.slice 3):=Kr
theorem wN:Tryz.prog.underlying 78=some (.slice 188):=Kr
theorem uZ:Tryz.prog.underlying 79=some (.slice 181):=Kr
theorem GI:Tryz.prog.cellsOf 3=1:=Kr
theorem Bev:Tryz.prog.cellsOf 188=2:=Kr
theorem xr:Tryz.prog.cellsOf 181=3:=Kr
theorem TV:Kq 188=some [(9,0,1),(3,1,1)]:=Kr
theorem tZ:Kq 181=some [(9,0,1),(3,1,1),(31,2,1)]:=Kr
theorem NE:Kq 81=some [(3,0,1),(78,1,1),(79,2,1)]:=Kr
theorem A3i{n:Nat}:eK eh w hd n 31 1 (H9 (M8 (α:=List Int)) λl=>[aD eI 1 l]):=
 (Wa (enc:=eI) uG GI z zF λm _=>AR sT).mono λa ⟨l,_,h⟩=>⟨l,trivial,h⟩
theorem vW{n:Nat}:eK eh w hd n 188 2 (H9 M8 kC):=
 (Nw (Qs:=[H9 nZ e1,H9 (λ_=>True) λa:Int=>[D a]]) TV rfl λm _=>⟨qD oF,AR sT,trivial⟩).mono λc h=>by
  obtain⟨_,_,⟨a,_,rfl⟩,⟨_,_,⟨b,_,rfl⟩,rfl,rfl⟩,rfl⟩:=h;exact⟨⟨a,b⟩,trivial,rfl⟩
theorem XN{n:Nat}:eK eh w hd n 78 1 (H9 (M8 (α:=List oS)) λl=>[aD kC 2 l]):=
 (Wa wN Bev z CA λm _=>vW).mono λa ⟨l,_,h⟩=>⟨l,trivial,h⟩
theorem wE{n:Nat}:eK eh w hd n 181 3 (H9 M8 eD):=
 (Nw (Qs:=[H9 nZ e1,H9 (λ_=>True) λa:Int=>[D a],H9 (M8 (α:=List Int)) λl=>[aD eI 1 l]]) tZ rfl λm _=>⟨qD oF,AR sT,A3i,trivial⟩).mono λd h=>by
  obtain⟨_,_,⟨a,_,rfl⟩,⟨_,_,⟨b,_,rfl⟩,⟨_,_,⟨c,_,rfl⟩,rfl,rfl⟩,rfl⟩,rfl⟩:=h;exact⟨⟨a,b,c⟩,trivial,rfl⟩
theorem ZQ{n:Nat}:eK eh w hd n 79 1 (H9 (M8 (α:=List Sy)) λl=>[aD eD 3 l]):=
 (Wa uZ xr z sI λm _=>wE).mono λa ⟨l,_,h⟩=>⟨l,trivial,h⟩
theorem ZS{n:Nat}:eK eh w hd n 81 3 (H9 (M8 (α:=cA)) mF):=
 (Nw (Qs:=[H9 (λ_=>True) λa:Int=>[D a],H9 (M8 (α:=List oS)) λl=>[aD kC 2 l],H9 (M8 (α:=List Sy)) λl=>[aD eD 3 l]]) NE rfl λm _=>⟨AR sT,XN,ZQ,trivial⟩).mono λd h=>by
  obtain⟨_,_,⟨a,_,rfl⟩,⟨_,_,⟨b,_,rfl⟩,⟨_,_,⟨c,_,rfl⟩,rfl,rfl⟩,rfl⟩,rfl⟩:=h;exact⟨⟨a,b,c⟩,trivial,rfl⟩
theorem yo:Tryz.prog.underlying 5=some (.int .u8):=Kr
theorem wR{n:Nat}:eK eh w hd n 5 1 (H9 (λk:Nat=>k<256) λk=>[.int .u8 (.ofNat k)]):=by
 intro c x h d e;obtain⟨i,rfl,rfl,a⟩:=DataW.trod_int yo h;have a:(decide (IntKind.u8.min<=i)&&decide (i<=IntKind.u8.max))=true:=a
 rw[show IntKind.u8.min=0 by rfl,show IntKind.u8.max=255 by rfl]at a
 simp only[bg,decide_eq_true_eq]at a
 refine⟨[.int .u8 i],⟨i.toNat,by omega,by show[I.int .u8 i]=[I.int .u8 (Int.ofNat i.toNat)];rw[show Int.ofNat i.toNat=i from Int.toNat_of_nonneg a.1]⟩,by unfold RL;exact⟨by unfold R;rfl,by unfold RL;trivial⟩,λv b=>by rw[cI.1 b];rfl⟩
end
end Go.AM
namespace Go.AM
open Go Go.Proofs Go.Proofs.YtmkaboegdoadhaaGreatDoor Go.ChangeShapes Go.WideShapes Go.ChangeAt Go.WideMaps Go.WideElems Go.RowKit
section
variable {H:Type}{eh:TypeId×Value->H}{w:World}
set_option maxRecDepth 1000000 in
theorem NY {t k base:Nat} {fl:List (TypeId×Nat×Nat)} {v:Value} (hf:Kq t=some fl) (hk:Tryz.prog.cellsOf t=k) (hv:Value.okWide Tryz.prog w .any base t v):∃cs:Array Value,v=.agg cs/\cs.toList.length=k:=by
 unfold Kq at hf
 split at hf
 ·rename_i fs ht
  unfold Value.okWide at hv;rw[ht]at hv;obtain⟨cs,h1,h2,_⟩:=hv
  exact⟨cs,h1,by rw[<-hk,<-h2];simp⟩
 ·cases hf
theorem FG:Tryz.prog.cellsOf 25=3:=Kr
theorem VP:Tryz.prog.cellsOf 81=3:=Kr
set_option maxRecDepth 1000000 in
theorem Yf {t base:Nat} {k:IntKind} {v:Value} (ht:Tryz.prog.underlying t=some (.int k)) (hv:Value.okWide Tryz.prog w .any base t v):v.cells=#[v]:=by
 obtain⟨s,rfl⟩:=okWide_int (P:=Tryz.prog) ht hv
 rfl
set_option maxRecDepth 1000000 in
theorem YL {base:Nat} {v0 v1 v2:Value} {d0 d1 d2:DataW H} {p0 p1 p2:List MemPlace} {ts:List TypeId} {gs:List (DataW H)} (hv0:Value.okWide Tryz.prog w .any base 25 v0) (hv1:Value.okWide Tryz.prog w .any base 81 v1) (hv2:Value.okWide Tryz.prog w .any base 5 v2)
  (h0:DataW.Trod eh Tryz.prog w 0 (λ_=>true) true 25 v0 d0 p0) (h1:DataW.Trod eh Tryz.prog w 0 (λ_=>true) true 81 v1 d1 p1) (h2:DataW.Trod eh Tryz.prog w 0 (λ_=>true) true 5 v2 d2 p2)
  (hw:(DataW.weightsEach Tryz.prog ([25,81,5]++ts) ([d0,d1,d2]++gs)).all (·<=reachBytes)=true):∃(d:Db) (s:cA) (k:Nat),k<256/\RL C0 0 w [fy d,iE s,.int .u8 (.ofNat k)] [v0,v1,v2]:=by
 have hw':∀(j:Nat) (t:TypeId) (d:DataW H),([25,81,5]++ts)[j]? =some t->([d0,d1,d2]++gs)[j]? =some d->∀b∈d.weights Tryz.prog t,b<=reachBytes:=λj t d ht hd b hb=>by
  have:=b_.1 hw b (DataW.weights_mem_each ht hd b hb)
  simpa using this
 obtain⟨c0,rfl,l0⟩:=NY xa FG hv0;obtain⟨c1,rfl,l1⟩:=NY NE VP hv1;have e2:=Yf yo hv2;obtain⟨n0,h0⟩:=h0;obtain⟨n1,h1⟩:=h1;obtain⟨n2,h2⟩:=h2;rw[e2]at h2;obtain⟨_,⟨d,_,rfl⟩,r0,o0⟩:=t3 c0.toList _ h0 l0 (hw' 0 25 d0 rfl rfl);obtain⟨_,⟨s,_,rfl⟩,r1,o1⟩:=ZS c1.toList _ h1 l1 (hw' 1 81 d1 rfl rfl);obtain⟨_,⟨k,hk,rfl⟩,r2,o2⟩:=wR [v2] _ h2 rfl (hw' 2 5 d2 rfl rfl);refine⟨d,s,k,hk,?_⟩;unfold RL
 refine⟨by unfold fy R;exact⟨c0,rfl,r0,o0⟩,?_⟩
 unfold RL
 exact⟨by unfold iE R;exact⟨c1,rfl,r1,o1⟩,r2⟩
end
end Go.AM
namespace Go.AM
open Go Go.Proofs
theorem aW.appZ{C enc sz by' N}{l:List C}{v J}(p:∀a,(enc a).length=sz){z}(G:z.length=sz)(R:N<=O J)(h:aW J N enc sz l v)(y:(l.length+1)*(by'+1)<=az):
  ∃d,B6 J sz by' v 1 z=some (.sr (O J) 0 sz (l.length+1) none,d)/\d.get (O J)=some (.cells (l.flatMap enc++z))/\O d=O J+1/\∀a,a<O J->bm v≠some a->d.get a=J.get a:=by
 obtain⟨b,i⟩:∃b:Option C->List I,b=λo=>match o with|none=>z|some a=>enc a:=⟨_,rfl⟩
 have r:∀l:List C,(l.map some).flatMap b=l.flatMap enc:=λl=>by
  induction l with
  |nil=>rfl
  |cons a l s=>rw[fG,ej,ej,s,i]
 have m:aW J N b sz (l.map some) v:=by
  rcases h with⟨e,f⟩|⟨a,x,e,f,B,E⟩
  ·exact .inl ⟨by rw[e];rfl,f⟩
  ·exact .inr ⟨a,x,e,f,Z,Z⟩
 obtain⟨d,t,u,w,_,k⟩:=m.app1 (by':=by') Z R none Z
 rw[jT]at t k;rw[mV,r]at u
 refine⟨d,?_,?_,w,λa n j=>k a n λc q g=>j (by rw[q,g];rfl)⟩
 ·grind
 grind
theorem A3l{C b T N}{l:List C}{v J}(h:aW J N b T l v):I.beq v v=true:=by
 rcases h with⟨_,rfl|rfl⟩|⟨a,c,_,_,rfl,_⟩
 ·rfl
 ·show(I.beqs [] []&&Nat.beq T T&&Nat.beq 0 0&&kW (some 0) (some 0))=true
  simp[I.beqs,kW]
 ·exact zz
theorem rV{C b T N}{l:List C}{v J}(h:aW J N b T l v):lenA v=some l.length/\pz v=true:=by
 rcases h with⟨rfl,rfl|rfl⟩|⟨a,c,_,_,rfl,_⟩<;>exact⟨rfl,rfl⟩
theorem WX(d l):M6 (B1 d l).1<=4000/\hT (B1 d l).1<=100:=by
 have a:M6 Ek<=4000/\hT Ek<=100:=by decide
 unfold B1
 split
 ·exact a
 ·split
  ·exact a
  ·split
   ·exact a
   ·split
    ·exact a
    ·unfold Mu
     split
     ·exact a
     ·split
      ·exact a
      ·split
       ·exact a
       ·rename_i c
        split
        ·exact a
        ·rename_i e
         refine⟨Nat.le_of_not_lt c,?_⟩;have b:=Nat.le_of_not_lt e
         rw[show ∀t:Ax,eZ t 1=hT t from λt=>by have:=PM t 1;omega]at b
         exact b
theorem Tf{g r}(h:Hr g r=true):(D1 r).Nodup:=by
 unfold Hr at h
 split at h
 ·cases h
 ·split at h
  ·cases h
  ·rename_i a
   rw[Bool.not_eq_true]at a;have k:=Aff a;have c:(Ei (D1 r)).Perm (D1 r):=List.mergeSort_perm _ _;refine c.nodup_iff.1 (List.pairwise_iff_getElem.2 λi j d f b e=>?_)
   grind
theorem SH{g}(h:Eb g=0):∀r∈g.rules,Hr g r=true:=by
 unfold Eb at h
 split at h
 ·cases h
 ·split at h
  ·cases h
  ·split at h
   ·cases h
   ·rename_i a;exact(Ace (by simpa using a)).1
theorem A25{k R v}:∀(f:List Pt) (a:Nat) (c l:List Sp),l∈wyP k R v f a c->(∀j,(∀p∈f,p.sort≠[]->p.arg.toNat≠j)->l[j]? =c[j]?)/\
  (((Ij f).map λp=>p.arg.toNat).Nodup->(∀p∈f,p.sort≠[]->p.arg.toNat<c.length)->∀p∈f,p.sort≠[]->∃e,l[p.arg.toNat]? =some e/\e.1=p.sort)/\∀p∈f,p.sort=[]->∃b,p.symbol=R.getD b []
 |[],a,c,l,h=>by
  unfold wyP at h
  grind
 |p::f,a,c,l,h=>by
  unfold wyP at h
  split at h
  ·cases h
  ·rename_i w
   split at h
   ·rename_i y
    obtain⟨m,r,u⟩:=A25 f _ _ l h;refine⟨λj s=>m j λq d=>s q (ch _ d),λi n q d g=>?_,λq d g=>?_⟩
    ·rcases bN.1 d with rfl|d
     ·grind
     ·refine r ?_ (λq d=>n q (ch _ d)) q d g
      have e:Ij (p::f)=Ij f:=by unfold Ij gD;grind
      rwa[e]at i
    ·rcases bN.1 d with rfl|d
     ·unfold ldP at w
      grind
     grind
   ·rename_i y
    obtain⟨e,_,h⟩:=List.mem_flatMap.1 h
    split at h
    ·obtain⟨m,r,u⟩:=A25 f _ _ l h;refine⟨λj s=>?_,λi n q d g=>?_,λq d g=>?_⟩
     ·grind
     ·have t:Ij (p::f)=p::Ij f:=by unfold Ij gD;grind
      rw[t,fG,nT]at i
      rcases bN.1 d with rfl|d
      ·refine⟨(q.sort,a,e),?_,rfl⟩
       rw[m _ λx B o e=>i.1 (dO.2 ⟨x,gS.2 ⟨B,by simpa[gD]using o⟩,e⟩),f_ (n q (cX ..) g)]
      grind
     grind
    ·cases h
theorem ς{g}(P:∀r∈g.rules,Hr g r=true){J R r a v}{w:Rl}(B:g.rules[r]? =some w):∀l∈Qx g J R r a v,∀p∈w.parts,(p.sort≠[]->∃e,l[p.arg.toNat]? =some e/\e.1=p.sort)/\(p.sort=[]->∃b,p.symbol=R.getD b []):=λl h p t=>by
 have G:=P w (bA B)
 have N:du g r=w.parts:=by unfold du;rw[B]
 unfold Qx at h;rw[N]at h;obtain⟨_,K,L⟩:=A25 _ _ _ l h;have d:=(Tp G).2.2;refine⟨λm=>K ?_ (λq c n=>?_) p t m,L p t⟩
 ·have:=Afk (f:=Int.toNat) (Tf G) λx C y E e=>by
   unfold D1 Ij at C E;obtain⟨q,c,rfl⟩:=dO.1 C;obtain⟨u,o,rfl⟩:=dO.1 E;rw[gS]at c o
   obtain⟨j,s,_⟩:=d q c.1 (by simpa[gD]using c.2)
   obtain⟨k,Q,_⟩:=d u o.1 (by simpa[gD]using o.2)
   grind
  unfold D1 at this
  grind
 ·obtain⟨j,s,i⟩:=d q c n;rw[kA,s];unfold Qw at i
  grind
def OS(L:List Sp)(o:List Nat)(P:List Sp):Prop:=∀(j k:Nat),o[j]? =some k->∃e,P[j]? =some e/\L[k]? =some e
theorem YD{C:Type}{L X:List C}{k:Nat}{e}(h:L[k]? =some e):(L++X)[k]? =some e:=Z
theorem SV{L s}:(D2 L s).2[(D2 L s).1]? =some s/\∃X,(D2 L s).2=L++X:=by
 unfold D2
 split
 ·rename_i h
  have a:=List.idxOf_lt_length_of_mem h;exact⟨Z,[],(dA _).symm⟩
 grind
theorem A1s:∀(l P L:List Sp) (o:List Nat),o.length=P.length->OS L o P->(∃X,(Ct L l o).2=L++X)/\OS (Ct L l o).2 (Ct L l o).1 (P++l)
 |[],P,L,o,_,h=>⟨⟨[],(dA _).symm⟩,by rw[dA];exact h⟩
 |s::r,P,L,o,c,h=>by
  obtain⟨i,X,n⟩:=SV (L:=L) (s:=s);unfold Ct
  obtain⟨⟨d,p⟩,m⟩:=A1s r (P++[s]) (D2 L s).2 (o++[(D2 L s).1]) (by simp[c]) λj k a=>by
   by_cases b:j<o.length
   ·rw[kU b]at a;obtain⟨e,f,g⟩:=h j k a
    grind
   grind
  grind
structure lA (g:Gr)(text:List aH)(L:List Sp)(s:Sp)(w:Wy):Prop where
 so:iY g w.rule=s.1
 kid:∀rl,g.rules[w.rule]? =some rl->∀p∈rl.parts,(p.sort≠[]->∃k e,w.kids[p.arg.toNat]? =some k/\L[k]? =some e/\e.1=p.sort)/\(p.sort=[]->∃b,p.symbol=text.getD b [])
theorem lA.mono{g R L X s w}(h:lA g R L s w):lA g R (L++X) s w:=
 ⟨h.so,λc b p a=>⟨λd=>by
  obtain⟨k,e,f,i,j⟩:=(h.kid c b p a).1 d
  grind,(h.kid c b p a).2⟩⟩
theorem θ{g}(b:∀r∈g.rules,Hr g r=true){m R s x P Q}(W:x∈kL g m R s)(i:∀w∈P.ways,lA g R P.list s w)(h:F7 x P=some Q):
  (∀w∈Q.ways,lA g R Q.list s w)/\∃X,Q.list=P.list++X:=by
 unfold F7 at h
 split at h
 ·cases h
 ·cases h
  obtain⟨⟨X,f⟩,q⟩:=A1s x.2 [] P.list [] rfl (λj k c=>by cases c)
  obtain⟨C,_,_⟩:=Xa x.2 P.list [] Z;refine⟨λw a=>?_,X,f⟩
  rcases dW.1 a with a|a
  ·show lA g R (Ct P.list x.2 []).2 s w
   rw[f];exact(i w a).mono
  ·rw[cI]at a;subst a;obtain⟨r,y,W⟩:=List.mem_flatMap.1 W;obtain⟨l,u,rfl⟩:=dO.1 W;refine⟨of_decide_eq_true (gS.1 y).2,λN d p v=>?_⟩
   obtain⟨n,o⟩:=ς b d l u p v;refine⟨λB=>?_,o⟩
   obtain⟨e,G,J⟩:=n B;have t:p.arg.toNat<(Ct P.list l []).1.length:=Z;have c:=fF t;obtain⟨E,K,L⟩:=q _ _ c
   grind
theorem A3n{g}(b:∀r∈g.rules,Hr g r=true){k R s}:∀(l:List (Nat×List Sp)) {P Q:Pk},(∀x∈l,x∈kL g k R s)->(∀w∈P.ways,lA g R P.list s w)->Pj l P=some Q->
  (∀w∈Q.ways,lA g R Q.list s w)/\∃X,Q.list=P.list++X
 |[],P,Q,_,a,h=>by cases h;exact⟨a,[],(dA _).symm⟩
 |x::r,P,Q,c,a,h=>by
  unfold Pj at h
  split at h
  ·cases h
  ·rename_i i e
   obtain⟨d,X,m⟩:=θ b (c x (cX ..)) a e;obtain⟨n,j,o⟩:=A3n b r (λy f=>c y (ch _ f)) d h
   grind
def IJ(g:Gr)(R:List aH)(L:List Sp)(o:List cN):Prop:=∀(n:Nat) (x:cN),o[n]? =some x->L[n]? =some x.sp/\∀w∈x.ways,lA g R L x.sp w
theorem A2n{g}(b:∀r∈g.rules,Hr g r=true){k R}:∀(f i c:Nat) (L:List Sp) (a d:List cN),a.length=i->IJ g R L a->Pf g k R f i c L a=some d->∃j,IJ g R j d/\∃X,j=L++X
 |0,_,_,_,_,_,_,_,h=>by cases h
 |f+1,i,c,L,a,d,u,o,h=>by
  unfold Pf at h
  split at h
  ·cases h;exact⟨L,o,[],(dA _).symm⟩
  ·rename_i s G
   split at h
   ·cases h
   ·rename_i P t
    obtain⟨B,X,l⟩:=A3n b _ (λx e=>e) Z t
    have l:P.list=L++X:=l
    obtain⟨j,C,y,E⟩:=A2n b f (i+1) P.total P.list (a++[⟨s,P.ways⟩]) d (by simp[u]) (λn x e=>by
     by_cases m:n<a.length
     ·rw[kU m]at e;obtain⟨p,q⟩:=o n x e;rw[l];exact⟨YD p,λw v=>(q w v).mono⟩
     grind) h
    grind
theorem RM(s):∀l:List Ax,kT s l=l.any (eE s)
 |[]=>rfl
 |t::r=>by rw[kT,RM s r];rfl
def AT(g:Gr)(R:List aH)(s:aH):Prop:=∃a∈g.rules,a.label=s/\∀p∈a.parts,p.sort=[]->∃b,p.symbol=R.getD b []
theorem A47{g}(W:gU g)(hv:∀r∈g.rules,Hr g r=true){R L o c E}(U:jC g o.length o)(J:IJ g R L o)(h:CI o c E):∀(i n:Nat),E[i]? =some n->c.2.getD n 0≠0->(∃x,o[n]? =some x/\ev g.rules (fT g o c n)=some x.sp.1)/\∀s,eE s (fT g o c n)=true->AT g R s:=by
 intro i
 induction i using Nat.strongRecOn with
 |_ i ih=>
  intro n N P;obtain⟨x,w,m,X,Q,l,hk⟩:=h.first N P;rw[vc h N P m X];have T:=U x (fA.2 ⟨_,m⟩) w Q;obtain⟨_,q⟩:=J n x m;have K:=q w Q;obtain⟨f,a⟩:∃f,g.rules[w.rule]? =some f:=⟨_,fF T.rule⟩
  have iq:Md g w.rule=f.label:=by unfold Md;rw[a]
  have G:f.sort=x.sp.1:=by rw[<-K.so];unfold iY;rw[a]
  have C:=O6 W.nd a;have d:=K.kid f a
  have bl:Qw f=w.kids.length:=by
   rw[T.len];unfold Qw qE du;rw[a];simp
  refine⟨⟨x,m,?_⟩,λs b=>?_⟩
  ·rw[ev,iq,C];simp only;rw[if_pos,G];rw[bg];refine⟨?_,decide_eq_true Z⟩;refine b_.2 λp l=>?_
   by_cases b:p.sort=[]
   ·simp[b]
   ·obtain⟨k,e,S,k2,k3⟩:=(d p l).1 b;have v:=bA S;obtain⟨⟨j,hj,u⟩,B⟩:=hk k v;obtain⟨⟨y,hy,t⟩,_⟩:=ih j hj k u B;have:=(J k y hy).1;rw[k2]at this;cases this;rw[eO];right;refine decide_eq_true ?_;rw[AE,eC,eC,S]
    grind
  ·rw[eE,eO]at b
   rcases b with b|b
   ·have b:=of_decide_eq_true b;exact⟨f,bA a,Z,λp l=>(d p l).2⟩
   ·rw[RM,e_]at b
    grind
theorem W5{g}(q:gU g)(b:∀r∈g.rules,Hr g r=true){R k e o t}(a:Im g k R e=some o)(h:Mu g o=(t,0)):ev g.rules t=some e.1/\∀s,eE s t=true->AT g R s:=by
 obtain⟨j,l,_⟩:=EV a
 obtain⟨L,f,X,u⟩:=A2n b 4002 0 0 [e] [] o rfl (λn x d=>by cases d) a
 unfold Mu at h
 split at h
 ·cases h
 ·rename_i c v
  split at h
  ·cases h
  ·rename_i B
   split at h
   ·cases h
   ·split at h
    ·cases h
    ·cases h;obtain⟨E,H,y⟩:=Z5 j _ 0 _ [] c ci0 l v;obtain⟨i,w⟩:=fA.1 y;obtain⟨⟨x,d,m⟩,p⟩:=A47 q b j f H.ci i 0 w z;refine⟨?_,p⟩;have:=(f 0 x d).1;rw[u]at this;cases this;exact m
theorem A4n{C J:Type}{f:C->J}:∀{l:List C},(l.map f).Nodup->∀x∈l,∀y∈l,f x=f y->x=y
 |[],_,x,b,_,_,_=>by cases b
 |a::l,c,x,b,y,h,e=>by
  rw[fG,nT]at c
  rcases bN.1 b with rfl|d<;>rcases bN.1 h with rfl|g
  ·rfl
  ·grind
  ·grind
  ·exact A4n c.2 x d y g e
theorem QU:∀(l:List aH) (k:Kn) (v:aH),k.vars.has v=true->(Sf l k).2.vars.has v=true
 |[],_,_,h=>h
 |c::r,k,v,h=>by
  unfold Sf;cases L8 c with
  |false=>exact h
  |true=>
   cases k.isSym c with
   |true=>exact h
   |false=>exact QU r _ v (show(k.vars.put c true).has v=true by rw[nD,h,Bool.or_true])
theorem A2o:∀(l:List aH) (k:Kn),(Sf l k).1=0->∀v∈l,(Sf l k).2.vars.has v=true/\L8 v=true
 |[],_,_,v,a=>by cases a
 |c::r,k,h,v,a=>by
  unfold Sf at h⊢;cases b:L8 c with
  |false=>rw[b]at h;cases h
  |true=>
   rw[b]at h;cases d:k.isSym c with
   |true=>rw[d]at h;cases h
   |false=>
    rw[d]at h
    rcases bN.1 a with rfl|a
    ·exact⟨QU r _ v (show(k.vars.put v true).has v=true by rw[nD];simp),b⟩
    ·exact A2o r _ h v a
theorem MT{c d}(h:Fy c d=0):∀v∈d.vars,(K8 d iJ).2.vars.has v=true/\L8 v=true:=by
 have a:(K8 d iJ).1=0:=by
  unfold Fy at h
  grind
 unfold K8 at a⊢
 split at a
 ·rename_i b;rw[if_pos b];exact A2o _ _ a
 grind
theorem A1e{m v}:∀(t:List aH) (q:SM Bool×Nat),(q.1.has v=true\/(v∈t/\m.has v=true))->(nW m t q).1.has v=true
 |[],q,h=>by
  rcases h with h|⟨h,_⟩
  ·exact h
  ·cases h
 |s::r,q,h=>by
  unfold nW;refine A1e r _ ?_
  rcases h with h|⟨h,a⟩
  ·left;split
   ·show(q.1.put s true).has v=true;rw[nD,h,Bool.or_true]
   ·exact h
  ·rcases bN.1 h with rfl|h
   ·left;rw[if_pos a];show(q.1.put v true).has v=true;rw[nD];simp
   grind
theorem A2p{m v}:∀(b:List (List aH)) (q:SM Bool×Nat),(q.1.has v=true\/((∃t∈b,v∈t)/\m.has v=true))->(mC m b q).1.has v=true
 |[],q,h=>by
  rcases h with h|⟨⟨t,h,_⟩,_⟩
  ·exact h
  ·cases h
 |t::r,q,h=>by
  unfold mC;refine A2p r _ ?_
  rcases h with h|⟨⟨u,a,d⟩,c⟩
  ·exact .inl (A1e t q (.inl h))
  ·rcases bN.1 a with rfl|a
   ·exact .inl (A1e u q (.inr ⟨d,c⟩))
   grind
theorem HF:∀{m:SM Bool} {v:aH},m.has v=true->v∈m.map (·.1)
 |[],_,h=>by cases h
 |(k,x)::r,v,h=>by
  unfold SM.has at h;rw[SM.get]at h
  split at h
  ·grind
  ·exact ch _ (HF (m:=r) h)
theorem A1f{a}:∀{l:List Hp} {n m:Nat},Qr a l n=some m->m=n+(flt l).length/\∀x∈flt l,a.has x=true
 |[],n,m,h=>by cases h;grind
 |y::l,n,m,h=>by
  unfold Qr at h;cases d:y.floating with
  |false=>
   rw[if_neg Z]at h;have e:flt (y::l)=flt l:=Z;rw[e];exact A1f h
  |true=>
   rw[if_pos d]at h;have e:flt (y::l)=bS y::flt l:=Z
   split at h
   ·cases h
   ·rename_i b
    obtain⟨f,g⟩:=A1f h;rw[e];refine⟨Z,λx c=>?_⟩
    rcases bN.1 c with rfl|c
    ·have b:a.has (bS y)=true:=by simpa[bS]using b
     exact b
    grind
theorem VH{b k f a}(h:E9 b k f a=0):Mt (k.fr f.label) f=0:=by
 unfold E9 at h
 grind
theorem Z0{w d}(P:Fy w d=0){f}(N:f∈d.frames){l}(r:l∈f.text::H8 f.hyps){v}(b:v∈l)(i:v∈d.vars):∃h∈f.hyps,h.floating=true/\bS h=v:=by
 obtain⟨e,j,m,o⟩:=To (rJ P) f N;have a:=VH o
 have p:(e.fr f.label).vars.has v=true:=by show e.vars.has v=true;rw[m];exact(MT P v i).1
 have s:(Kv (e.fr f.label) f).has v=true:=A2p _ _ (.inr ⟨⟨l,r,b⟩,p⟩);unfold Mt at a
 split at a
 ·cases a
 ·rename_i n t
  split at a
  ·cases a
  ·rename_i c
   have c:Int.ofNat n=Int.ofNat (Kv (e.fr f.label) f).length:=Classical.byContradiction λq=>c Z
   have c:=gI c;obtain⟨y,k⟩:=A1f t
   have g:(flt f.hyps).Nodup:=by
    have:=(Vh P N).2;rw[FO,iG]at this;have:=(rC.1 this).1
    rwa[Vi]at this
   have:=Qu g (λx u=>HF (k x u)) Z v (HF s)
   grind
theorem yc{i}(L:i≠0){p h s a}(e:jV i p h s=some a):a.1=s.1/\kw (s.1.get (bS h)) h=true:=by
 unfold jV Pi at e
 grind
theorem A4q{i}(L:i≠0){u}:∀{l:List Hp} {n:Nat} {s a:fR},Yw i u l n s=some a->a.1=s.1/\∀h∈l,kw (s.1.get (bS h)) h=true
 |[],_,s,a,e=>by cases e;grind
 |h::r,n,s,a,e=>by
  unfold Yw at e
  split at e
  ·cases e
  ·rename_i j b
   obtain⟨c,d⟩:=yc L b;obtain⟨f,g⟩:=A4q L e
   grind
theorem A3q{i}(L:i≠0):∀{b:List (List Hp)} {s a:fR},Pb i b s=some a->a.1=s.1/\∀l∈b,∀h∈l,kw (s.1.get (bS h)) h=true
 |[],s,a,e=>by cases e;grind
 |h::r,s,a,e=>by
  unfold Pb at e
  split at e
  ·cases e
  ·rename_i k c
   obtain⟨d,f⟩:=A4q L c;obtain⟨g,j⟩:=A3q L e
   grind
theorem uD{p h s a}(e:jV 0 p h s=some a):a.1=s.1.put (bS h) h:=by
 unfold jV Pi at e
 grind
theorem A27{u}:∀{l:List Hp} {n:Nat} {s a:fR},Yw 0 u l n s=some a->a.1=Il l s.1
 |[],_,s,a,e=>by cases e;rfl
 |h::r,n,s,a,e=>by
  unfold Yw at e
  split at e
  ·cases e
  ·rename_i c b
   rw[A27 e,uD b];rfl
theorem A4r{l m}(g:(l.map bS).Nodup){h}(a:h∈l):(Il l m).get (bS h)=some h:=by
 obtain⟨x,d,b,c⟩:=Afi (m:=m) ⟨h,a,rfl⟩;rw[b,A4n g x d h a c]
theorem A1u:∀{l:List Hp} {m:SM Hp} {v:aH} {h:Hp},(Il l m).get v=some h->(h∈l/\bS h=v)\/m.get v=some h
 |[],_,_,_,h=>.inr h
 |x::l,m,v,h,H=>by
  have H:(Il l (m.put (bS x) x)).get v=some h:=H
  rcases A1u H with⟨a,b⟩|a
  ·grind
  ·rw[dP]at a
   grind
theorem VE(h):kw (some h) h=true:=by unfold kw sK;simp
theorem A1v{d}:∀{g:List Fr} {i:Nat} {s b:fR},Ow d g i s=some b->(∀f∈g,(flt f.all).Nodup)->(i≠0->b.1=s.1)/\∀f∈g,∀h∈bX f.hyps,kw (b.1.get (bS h)) h=true
 |[],i,s,b,e,_=>by cases e;grind
 |f::r,i,s,b,e,j=>by
  unfold Ow at e
  split at e
  ·cases e
  ·split at e
   ·cases e
   ·rename_i v a
    obtain⟨m,B⟩:=A1v e λx c=>j x (ch _ c)
    have n:=m (Nat.succ_ne_zero i)
    by_cases k:i=0
    ·subst k;refine⟨λq=>absurd rfl q,λx c h t=>?_⟩
     rcases bN.1 c with rfl|c
     ·have l:=j x (cX ..);rw[FO]at l
      have u:v.1=Il (bX x.hyps++bX x.dummies) s.1:=by
       unfold Pb at a
       split at a
       ·cases a
       ·rename_i C o
        unfold Pb at a
        split at a
        ·cases a
        ·rename_i E p
         unfold Pb at a;cases a;rw[A27 p,A27 o];unfold Il;grind
      rw[n,u,A4r l (rQ _ t)];exact VE h
     grind
    ·obtain⟨w,y⟩:=A3q k a
     grind
theorem A2q{R s}:∀{n:Nat} {done:SM Bool} {a l:List Hp},W7 R s n done a=some l->(∀h∈a,∃v,s.1.get v=some h)->∀h∈l,∃v,s.1.get v=some h
 |0,_,_,_,e,h=>by cases e;exact h
 |n+1,done,a,l,e,h=>by
  unfold W7 at e
  split at e
  ·cases e
  ·rename_i v _
   split at e
   ·cases e
   ·rename_i x b
    exact A2q e Z
theorem A2r{B}:∀{l:List aH} {g a:Gr},Kw B l g=some a->∀r∈a.rules,r∈g.rules\/∃v∈l,∃h,B.get v=some h/\r=⟨h.label,h.text.headD [],[⟨v,[],0⟩],true⟩
 |[],g,a,e,r,b=>by cases e;exact .inl b
 |v::l,g,a,e,r,b=>by
  unfold Kw at e
  split at e
  ·cases e
  ·rename_i h f
   split at e
   ·cases e
   ·rcases A2r e r b with q|⟨w,i,x,c,d⟩
    ·rcases dW.1 q with q|q
     ·exact .inl q
     grind
    grind
theorem yK{d}(h:(aM d).2=0):Ea d=0/\∃g,Kw (Il (Bt d) []) d.vars zG=some g/\F6 d.frames g=some (aM d).1:=by
 unfold aM at h⊢
 grind
theorem A29{d l T}(h:B1 d l=(T,0)):(aM d).2=0/\∃n a b c w,l=n::a/\Im (aM d).1 c a w=some b/\Mu (aM d).1 b=(T,0):=by
 unfold B1 at h
 by_cases f:(aM d).2≠0
 ·grind
 ·rw[if_neg f]at h;refine⟨Classical.byContradiction f,?_⟩;cases l with
  |nil=>exact absurd (Prod.mk.inj h).2 zD
  |cons t a=>
   have h:(if D7 t∉(aM d).1.sorts then(Ek,11)else match Fj (aM d).1 (D7 t) a with
    |(none,e)=>(Ek,if e=160 then 190 else e)
    |(some b,_)=>Mu (aM d).1 b)=(T,0):=h
   by_cases m:D7 t∉(aM d).1.sorts
   ·grind
   ·rw[if_neg m]at h
    rcases Vt (g:=(aM d).1) (s:=D7 t) (t:=a)with⟨e,j,i⟩|⟨b,c,w,j,k⟩
    ·grind
    grind
theorem A5r(d):∀r∈(aM d).1.rules,Hr (aM d).1 r=true:=by
 rcases CZ (d:=d)with h|h
 ·rw[h];intro r a;cases a
 ·exact SH h
structure DM (d:Db)(l:List aH)(T:Ax):Prop where
 of0:(aM d).2=0
 fm:(ev (aM d).1.rules T).isSome=true
 ok:tN (aM d).1.rules T=true
 cn:M6 T<=4000
 tx:∃t0 text,l=t0::text/\∀s,eE s T=true->AT (aM d).1 text s
theorem A4s{d l T}(h:B1 d l=(T,0)):DM d l T:=by
 obtain⟨f,m,a,o,n,w,j,b,k⟩:=A29 h;obtain⟨g,i⟩:=W5 (Yc d) (A5r d) b k
 have e:(ev (aM d).1.rules T).isSome=true:=by rw[g];rfl
 have c:=(WX d l).1;rw[h]at c;exact⟨f,e,A3d (Yc d).rs T e,c,m,a,j,i⟩
theorem A1x{k n}:∀{l:List Hp} {i:Nat} {a:SM Bool} {d:SM aH},(Jd k n l i a d).1=0->(l.map (·.label)).Nodup/\∀h∈l,a.has h.label=false
 |[],_,_,_,_=>⟨kQ,Z⟩
 |h::r,i,a,d,c=>by
  unfold Jd at c
  split at c
  ·grind
  ·rename_i p
   have m:Vg k a d h (decide (Int.ofNat n<=Int.ofNat i))=0:=Z;obtain⟨o,f⟩:=A1x c
   have g:a.has h.label=false:=by
    unfold Vg at m
    grind
   refine⟨?_,λx b=>?_⟩
   ·rw[fG,nT];refine⟨λj=>?_,o⟩
    obtain⟨x,b,e⟩:=dO.1 j;have:=f x b;rw[nD,e]at this
    simp at this
   ·rcases bN.1 b with rfl|b
    ·exact g
    ·have:=f x b;rw[nD,iT]at this;exact this.2
theorem VI{d}(b:(aM d).2=0){f}(N:f∈d.frames):(f.hyps.map (·.label)).Nodup:=by
 obtain⟨e,_,_⟩:=rZ (yK b).1;obtain⟨g,a,_,c⟩:=To (rJ e) f N;have:=(A1x (IR c)).1;rw[show f.all=f.hyps++(f.dummies++[])from rfl,iG]at this
 grind
theorem VD{d}(a:(aM d).2=0){f}(N:f∈d.frames):((f.hyps.filter (·.floating)).map (·.label)).Nodup:=(VI a N).sublist (List.filter_sublist.map _)
theorem XD{d}(c:(aM d).2=0){f}(N:f∈d.frames):∀h∈f.hyps,h.floating=false->h.text≠[]:=by
 obtain⟨o,_,_⟩:=rZ (yK c).1;obtain⟨v,p,_,q⟩:=To (rJ o) f N
 have j:∀{k:Kn} {m:Nat} {l:List Hp} {i:Nat} {a:SM Bool} {n:SM aH},(Jd k m l i a n).1=0->∀h∈l,h.floating=false->h.text≠[]:=by
  intro k m l
  induction l with
  |nil=>intro _ _ _ _ h b;cases b
  |cons x r u=>
   intro i a n c h b t e;unfold Jd at c
   split at c
   ·grind
   ·rename_i o
    rcases bN.1 b with rfl|b
    ·have g:Vg k a n h (decide (Int.ofNat m<=Int.ofNat i))=0:=Z;unfold Vg at g
     split at g
     ·cases g
     ·rename_i s
      unfold IY at s
      grind
    grind
 intro h b
 exact j (IR q) h (by simp[Fr.all,b])
theorem TT{f:Fr}{h}(a:h∈f.hyps)(N:h.floating=false):h.text∈f.text::H8 f.hyps:=
 ch _ (dO.2 ⟨h,gS.2 ⟨a,Z⟩,rfl⟩)
def rc(m:Int):List Int->Nat->Option (List Int)
 |[],_=>none
 |x::r,k=>if x+1=m then rc m r (k+1)else some (r.reverse++(x+1)::List.replicate k 0)
def qK(m:Int)(l:List Int):Option (List Int):=rc m l.reverse 0
def runL{S:Type}(m:Int)(f:List Int->S->Bool×S):Nat->List Int->S->Bool×S
 |0,_,s=>(true,s)
 |k+1,l,s=>if(f l s).1=true then(match qK m l with|none=>(true,(f l s).2)|some a=>runL m f k a (f l s).2)else(false,(f l s).2)
def iy{S:Type}(m:Int)(f:List Int->S->Bool×S)(l:List Int)(s:S):Bool×S:=runL m f (m ^ l.length-dK m l).toNat l s
def kB(m:Int)(l:List Int):Prop:=∀v∈l,0<=v/\v<m
theorem DQ(m):∀(l:List Int) (c:Int),l.foldl (λa v=>a*m+v) c=c*m ^ l.length+dK m l
 |[],c=>by simp[dK]
 |x::l,c=>by
  have e:dK m (x::l)=x*m ^ l.length+dK m l:=by
   show l.foldl _ (0*m+x)=_
   rw[DQ m l,Int.zero_mul,Int.zero_add]
  rw[iU,DQ m l,e,cZ,Int.pow_succ,Int.add_mul,Int.mul_assoc,Int.mul_comm m,Int.add_assoc]
theorem yO(m p l):dK m (p++l)=dK m p*m ^ l.length+dK m l:=by
 unfold dK;rw[List.foldl_append,DQ];rfl
theorem NQ(m):∀k:Nat,dK m (List.replicate k 0)=0
 |0=>rfl
 |k+1=>by rw[List.replicate_succ',AK,NQ m k];simp
theorem NJ(m):∀k:Nat,dK m (List.replicate k (m-1))=m ^ k-1
 |0=>by simp[dK]
 |k+1=>by rw[List.replicate_succ',AK,NJ m k,Int.pow_succ];grind
theorem Bcx{m}(K:1<=m):∀(q:List Int) (k:Nat) (b:List Int),kB m q->rc m q k=some b->kB m b/\b.length=q.length+k/\dK m b=dK m (q.reverse++List.replicate k (m-1))+1
 |[],_,_,_,h=>by cases h
 |x::r,k,b,c,h=>by
  unfold rc at h;have j:=c x (cX ..);have d:kB m r:=λv a=>c v (ch _ a)
  split at h
  ·rename_i e
   obtain⟨f,g,i⟩:=Bcx K r (k+1) b d h
   grind
  ·rename_i e
   cases h;refine⟨λv a=>?_,Z,?_⟩
   ·rcases dW.1 a with a|a
    ·exact d v (List.mem_reverse.1 a)
    grind
   ·rw[d_,iC,yO,yO,show[x]++List.replicate k (m-1)=[x]++List.replicate k (m-1)from rfl,show(x+1)::List.replicate k 0=[x+1]++List.replicate k 0 from rfl,yO m [x+1],yO m [x],NQ,NJ]
    simp only[gW,kA,rR,dK,iU,List.foldl_nil]
    grind
theorem PR{m}(K:1<=m){l a}(d:kB m l)(h:qK m l=some a):kB m a/\a.length=l.length/\dK m a=dK m l+1:=by
 have:=Bcx K l.reverse 0 a (λv b=>d v (List.mem_reverse.1 b)) h
 grind
theorem V5{S m}(K:1<=m){f l}(d:kB m l)(s:S):iy m f l s=if(f l s).1=true then(match qK m l with|none=>(true,(f l s).2)|some a=>iy m f a (f l s).2)else(false,(f l s).2):=by
 have h:=(zv K l d).2
 obtain⟨k,e⟩:∃k,(m ^ l.length-dK m l).toNat=k+1:=⟨(m ^ l.length-dK m l).toNat-1,by omega⟩
 unfold iy;rw[e,runL];cases g:qK m l with
 |none=>rfl
 |some a=>
  obtain⟨i,b,c⟩:=PR K d g;simp only
  rw[b,c,show(m ^ l.length-(dK m l+1)).toNat=k by omega]
def fE(k:Nat):List Int:=List.replicate k 0
theorem Zm{m}(K:1<=m)(k):kB m (fE k):=λv a=>by rw[(List.mem_replicate.1 a).2];omega
def jE{S:Type}(n:Int)(k:Nat)(f:List Int->S->Bool×S)(s:S):Bool×S:=iy n (λl s=>f (kK l) s) (fE k) s
def vA(n:Int)(k:Nat)(w E:List Int):Int:=(w[(dU n (E.take k)).toNat]?).getD 0
def fC(n:Int)(k:Nat)(w:List Int)(o:Nat):Bool:= !(jE n k (λa (_:Unit)=>(decide (vA n k w a=vA n k w (a.set o 0)),())) ()).1
structure b9 where
 fl:List Hp
 bd:List Nat
 ot:List Nat
 hy:List Ax
 go:Ax
 pr:GM (Int×Int) Bool
 fuel:Int
def b9.lab(R:b9)(i:Nat):aH:=((R.fl[i]?).map (·.label)).getD []
def b9.srt(R:b9)(i:Nat):aH:=((R.fl[i]?).map λh=>h.text.headD []).getD []
def b9.prB(R:b9)(i k:Nat):Bool:=(R.pr.get (Int.ofNat i,Int.ofNat k)).getD false
def zA(n:Int)(R:b9)(E:cF)(i:Nat):Bool:=R.bd.all λk=> !(R.prB i k&&fC n E.k (E.of (R.lab i)).vals (E.of (R.lab k)).obj.toNat)
def nI(n:Int)(R:b9)(E:cF)(i k:Nat):Bool:= !R.prB i k||(List.range E.k).all λo=> !(fC n E.k (E.of (R.lab i)).vals o&&fC n E.k (E.of (R.lab k)).vals o)
def Bb6(n:Int)(R:b9)(E:cF):List Nat->List Nat->Bool
 |_,[]=>true
 |done,i::r=>zA n R E i&&(done.all (nI n R E i))&&Bb6 n R E (done++[i]) r
def lG(W:Wd)(E:cF)(t:Ax):Bool:= !(jE W.n E.k (λa (_:Unit)=>(decide (cU W E t a≠0),())) ()).1
def mL(W:Wd)(E:cF)(t:Ax):Option (List Int):=(jE W.n E.k (λa (_:Option (List Int))=>if cU W E t a=0 then(false,some (a.take E.k))else(true,none)) none).2
def jX(W:Wd)(R:b9)(E:cF):Option (List Int):=if R.hy.any (lG W E)=true then none else mL W E R.go
structure dH where
 cnt:Int
 sp:Bool
 rf:Option (List cT×List Int)
def lU(W:Wd)(R:b9)(E:cF)(s:dH):Bool×dH:=
 if R.fuel<s.cnt+1 then(false,⟨s.cnt+1,true,s.rf⟩)else if Bb6 W.n R E [] R.ot=true then
  (match jX W R E with
  |none=>(true,⟨s.cnt+1,s.sp,s.rf⟩)
  |some e=>(false,⟨s.cnt+1,s.sp,some (R.fl.map λh=>E.of h.label,e)⟩))else(true,⟨s.cnt+1,s.sp,s.rf⟩)
def cF.put(E:cF)(x:cT):cF:=⟨λt=>if t=x.var then x else E.of t,E.k⟩
def Bb7(W:Wd)(R:b9):List Nat->cF->dH->Bool×dH
 |[],a,s=>lU W R a s
 |i::b,a,s=>iy (bR W.n (kd W.km (R.srt i))) (λl s=>Bb7 W R b (a.put ⟨R.lab i,0,l⟩) s) (fE (W.n ^ a.k).toNat) s
def Bcn(R:b9):List Nat->List Nat->cF->cF
 |i::r,o::b,a=>Bcn R r b ⟨(a.put ⟨R.lab i,Int.ofNat o,[]⟩).of,max a.k (o+1)⟩
 |_,_,a=>a
def If:cF:=⟨λ_=>R9,0⟩
def rI(W:Wd)(R:b9)(x:List Nat)(s:dH):Bool×dH:=Bb7 W R R.ot (Bcn R R.bd x If) s
def Bbc{C S:Type}(f:C->S->Bool×S):List C->S->Bool×S
 |[],s=>(true,s)
 |a::r,s=>if(f a s).1=true then Bbc f r (f a s).2 else(false,(f a s).2)
def GK(R:b9)(x:List Nat)(i o:Nat):Bool:=(R.bd.zip x).any λp=>decide (p.2=o)&&R.prB i p.1
def Bal(W:Wd)(R:b9):List Nat->List Nat->Nat->dH->Bool×dH
 |[],a,_,s=>rI W R a s
 |i::r,a,b,s=>Bbc (λo s=>if GK R a i o=true then(true,s)else Bal W R r (a++[o]) (max b (o+1)) s) (List.range (b+1)) s
structure lE where
 fl:List Hp
 bd:List Nat
 ot:List Nat
 hy:List Ax
 pl:SM Int
 e:Int
def zB:lE:=⟨[],[],[],[],[],0⟩
def d6(d:Db)(o:SM Int)(s:lE)(h:Hp):lE:=
 if s.e≠0 then s else if h.floating=true then
  (if kd o (h.text.headD [])=1 then⟨s.fl++[h],s.bd++[s.fl.length],s.ot,s.hy,s.pl.put (bS h) (Int.ofNat s.fl.length),0⟩else⟨s.fl++[h],s.bd,s.ot++[s.fl.length],s.hy,s.pl.put (bS h) (Int.ofNat s.fl.length),0⟩)
 else if Nv h.text=true then(if(B1 d h.text).2≠0 then⟨s.fl,s.bd,s.ot,s.hy,s.pl,(B1 d h.text).2⟩else⟨s.fl,s.bd,s.ot,s.hy++[(B1 d h.text).1],s.pl,0⟩)else s
def dD(d:Db)(o:SM Int)(l:List Hp):lE:=l.foldl (d6 d o) zB
def zm(b:SM Int)(s:aH):Int:=(b.get s).getD 0
def oI(b:SM Int)(l:List Pr):GM (Int×Int) Bool:=l.foldl (λm p=>(m.put (zm b p.a,zm b p.b) true).put (zm b p.b,zm b p.a) true) []
def rT(d:Db)(o:SM Int)(f:Fr)(r:Int):b9:=
 let b:=dD d o f.hyps
 ⟨b.fl,b.bd,b.ot,b.hy,(B1 d f.text).1,oI b.pl f.apart,r⟩
def pK(s:dH):Bool×List cT×List Int×Int:=if s.sp=true then(false,[],[],10)else match s.rf with|some (l,e)=>(false,l,e,0)|none=>(true,[],[],0)
def dT(d:Db)(W:Wd)(f:Fr)(r:Int):Bool×List cT×List Int×Int:=
 if Nv f.text=true then
  (if(dD d W.km f.hyps).e≠0 then(false,[],[],(dD d W.km f.hyps).e)else if(B1 d f.text).2≠0 then(false,[],[],(B1 d f.text).2)
  else if 6<(dD d W.km f.hyps).bd.length then(false,[],[],4)else pK (Bal W (rT d W.km f r) (dD d W.km f.hyps).bd [] 0 ⟨0,false,none⟩).2)
 else(true,[],[],0)
def EH(n:Nat)(m:Int):I:=.fn (.func 235) [] [.pv [nV n],.pv [D m]]
theorem wX(n m J):Cv 200 [nV n,D m] J (EH n m):=by
 refine Aj Tryz.func200 rfl rfl λb a=>?_
 refine cG ?_;exact⟨_,rfl,_,_,a_ b Y zN,Y,.same rfl,rfl,rfl⟩
structure wP {S:Type}(Ls:List RF)(L:RF)(n:Nat)(m:Int)(N:Nat)(I:S->F->Prop)(aA:XE->S->F->Prop)(f:List Int->S->Bool×S):Prop where
 ext:∀s U U' q,I s U->N<=q->O U<=O U'->(∀b,b<O U->b≠q->U'.get b=U.get b)->I s U'
 y:∀l s q U,N<=q->q<O U->U.get q=some (.cells (l.flatMap eI))->l.length=n->kB m l->I s U->YX M Ls L [.sr q 0 1 n (some n)] U λx U'=>if(f l s).1=true then x=.normal/\I (f l s).2 U'/\U'.get q=some (.cells (l.flatMap eI))else x≠.normal/\aA x (f l s).2 U'
theorem R8{C:Type}{a b}{x y:C}:(a++x::b).set a.length y=a++y::b:=Z
theorem Beb{C:Type}{a b}{x:C}:(a++x::b)[a.length]? =some x:=Z
theorem YS(n):rep [.int .i64 0] n=(fE n).flatMap eI:=by
 unfold fE
 induction n with
 |zero=>rfl
 |succ n a=>rw[List.replicate_succ,ej,<-a];rfl
theorem vQ{S W L}(hL:L∈W){n m}(K:1<=m)(ah:m<1000000)(hn:n<1000000){I aA f}(J)(r:S)(Q:wP W L n m (O J) I aA f)(hI:I r J):
  Hl M W 235 (.yl L.aY::[.pv [nV n],.pv [D m]]) J λ_ T=>O J<=O T/\if(iy m f (fE n) r).1=true then I (iy m f (fE n) r).2 T else ∃x,x≠.normal/\aA x (iy m f (fE n) r).2 T:=by
 refine Mo Tryz.func235 (Ke _ _ Tryz.func235) rfl rfl λhw aj=>?_
 obtain⟨q,hq⟩:∃q,O J+1=q:=⟨_,rfl⟩;obtain⟨t,h⟩:∃t,J.bump.new (.cells (rep [.int .i64 0] n))=t:=⟨_,rfl⟩;have n1:O t=O J+2:=Z;have g1:∀b,b<O J->t.get b=J.get b:=Z
 have c1:t.get q=some (.cells ((fE n).flatMap eI)):=by rw[<-h,<-hq,<-Bm,a5,if_pos rfl,YS]
 have a7:I r t:=Q.ext _ _ _ q hI z z λb hb _=>g1 b hb
 iterate  3 refine G ?_
 refine A (O3 (n:=n) aJ rfl rfl (by simp only[az];omega)) ?_
 iterate  2 refine G ?_
 rw[h,Bm,hq];refine G ?_
 refine Hz (λ_:List Int×S=>[(0,.yl L.aY),(1,.pv [nV n]),(2,.pv [D m]),(4,.sr q 0 1 n (some n))]) (λx U=>U.get q=some (.cells (x.1.flatMap eI))/\x.1.length=n/\kB m x.1/\I x.2 U/\O J+2<=O U/\iy m f x.1 x.2=iy m f (fE n) r) (λx=>(m ^ n-dK m x.1).toNat) (fE n,r) SL ⟨c1,kA ..,Zm K n,a7,by omega,rfl⟩ ?_
 rintro⟨l,s⟩ U ⟨hc,hl,v,C,al,g⟩
 dsimp only at hc hl v C g
 have kq:=zv K l v;rw[hl]at kq;rw[V5 K v]at g;refine Qn ?_;refine Cf ?_;refine Cf ?_;refine Er ?_;refine Gm 2 λdf=>?_
 iterate  3 refine G ?_
 refine Lg hL (λ_ _=>rfl) rfl rfl rfl rfl (Q.y l s q U z z hc hl v C) λx U3 R ai=>?_
 refine rF 1 ?_
 iterate  3 refine G ?_
 cases hb:(f l s).1 with
 |false=>
  rw[if_neg Z]at R g;obtain⟨hx,hJ⟩:=R
  have aa:Iu x=false:=by cases x<;>first|exact absurd rfl hx|rfl
  rw[aa];refine A0 rfl (λX=>?_) Z
  refine Gi λo=>?_
  refine G ?_
  exact⟨[],rfl,.tup [],_,a_ o Y (λ_ _=>rfl),by omega,.same rfl,by omega,Z⟩
 |true=>
  rw[if_pos hb]at R g;obtain⟨rfl,a8,af⟩:=R
  refine A0 rfl (λX=>by cases X) (λX=>?_)
  iterate  4 refine G ?_
  refine A (xz (p:=Int.ofNat n) (q:=1) aV rfl rfl Z Z) ?_
  iterate  4 refine G ?_
  refine Hz (λk:Nat=>[(0,.yl L.aY),(1,.pv [nV n]),(2,.pv [D m]),(4,.sr q 0 1 n (some n)),(5,D (Int.ofNat n-1-Int.ofNat k))]) (λk U=>k<=n/\U.get q=some (.cells ((l.take (n-k)++fE k).flatMap eI))/\I (f l s).2 U/\O J+2<=O U/\rc m (l.take (n-k)).reverse k=qK m l) (λk=>n-k) 0 ⟨rfl,rfl,rfl,rfl,congrArg (λae=>some (D ae)) Z,trivial⟩ ⟨bU _,by rw[mO,dG z];show _=some (AO.cells ((l++[]).flatMap eI));grind,a8,by omega,by rw[mO,dG z];rfl⟩ ?_
  rintro k U4 ⟨hk,E,B,n4,c⟩
  by_cases P:k<n
  ·obtain⟨y,hy⟩:=Ar (show n-1-k<l.length by omega)
   obtain⟨a,ha⟩:∃a,a=l.take (n-1-k):=⟨_,rfl⟩;have a9:a.length=n-1-k:=Z
   have ac:l.take (n-k)=a++[y]:=by rw[show n-k=n-1-k+1 by omega,Fw hy,ha]
   have ak:=v y (bA hy);rw[ac]at E c;rw[iC]at E;have e:U4.get q=some (.cells ((a++y::fE k).flatMap eI++[])):=Z
   have ag:(a++y::fE k).length=n:=by rw[gW,cZ,a9];show _+((List.replicate k 0).length+1)=n;grind
   have N:(a++y::fE k)[a.length]? =some y:=Beb;rw[List.reverse_append]at c;have c:rc m (y::a.reverse) k=qK m l:=c;unfold rc at c;rw[List.reverse_reverse]at c;have j:Int.ofNat n-1-Int.ofNat k=Int.ofNat a.length:=Z;rw[j]
   iterate  2 refine G ?_
   refine Dy λdf=>X0 ?_
   have d:decide (Int.ofNat a.length≥0)=true:=decide_eq_true Z
   iterate  3 refine G ?_
   refine Wn (w:=by simp[d]) (Ag rfl) ?_
   refine Wn (w:=by simp[d]) (Ag rfl) ?_
   refine Wn (w:=by simp[d]) (Br aJ rfl rfl z) ?_
   refine Wn (w:=by simp[d]) (Dg (enc:=eI) (λ_=>rfl) aG rfl e N (λ_=>rfl)) ?_
   refine Wn (w:=by simp[d]) (rH (p:=y) (q:=1) aV rfl rfl z z) ?_
   refine Wn (w:=by simp[d]) (Ac aG rfl rfl rfl) ?_
   refine Wn (w:=by simp[d]) (H4 aV rfl rfl) ?_
   refine V (A3 rfl (by simp[d]) rfl) ?_
   refine G ?_;refine⟨rfl,rfl,?_⟩;refine A0 rfl ?_ ?_<;>intro i
   ·have i:y+1=m:=of_decide_eq_true i;rw[if_pos i]at c
    iterate  6 refine G ?_
    refine A (Br aJ rfl rfl z) ?_;refine A (Tb (enc:=eI) (u:=0) (l:=a++y::fE k) (tl:=[]) (λ_=>rfl) aG rfl rfl rfl e z) ?_
    iterate  3 refine G ?_
    refine A (xz (p:=Int.ofNat a.length) (q:=1) aV rfl rfl Z Z) ?_
    iterate  2 refine G ?_
    refine⟨k+1,Z,⟨rfl,rfl,rfl,rfl,congrArg (λae=>some (D ae)) Z,trivial⟩,by omega,?_,?_,Z,?_⟩
    ·rw[aU,if_pos rfl,dA,R8,show n-(k+1)=n-1-k by omega,<-ha];rfl
    ·exact Q.ext _ _ _ q B z Z Z
    grind
   ·have i:¬(y+1=m):=of_decide_eq_false i;rw[if_neg i]at c;rw[<-c]at g;simp only at g;obtain⟨k1,k2,k3⟩:=PR K v c.symm
    iterate  7 refine G ?_
    refine A0 rfl ?_ ?_<;>intro h5
    ·grind
    iterate  4 refine G ?_
    refine A (Br aJ rfl rfl z) ?_;refine A (Dg (enc:=eI) (λ_=>rfl) aG rfl e N (λ_=>rfl)) ?_
    refine A (rH (p:=y) (q:=1) aV rfl rfl z z) ?_;refine A (Br aJ rfl rfl z) ?_;refine A (Tb (enc:=eI) (u:=y+1) (l:=a++y::fE k) (tl:=[]) (λ_=>rfl) aG rfl rfl rfl e z) ?_
    refine G ?_;refine⟨(a++(y+1)::List.replicate k 0,(f l s).2),?_,SL,?_,Z,k1,?_,Z,g⟩
    ·grind
    ·rw[aU,if_pos rfl,dA,R8];rfl
    ·exact Q.ext _ _ _ q B z Z Z
  ·have P:k=n:=by omega
   subst P;have j:Int.ofNat k-1-Int.ofNat k= -1:=Z;rw[j];rw[Nat.sub_self,List.take_zero]at c;have c:none=qK m l:=c;rw[<-c]at g;simp only at g
   iterate  2 refine G ?_
   refine Dy λdf=>X0 ?_
   iterate  3 refine G ?_
   refine Bx rfl rfl rfl rfl rfl rfl rfl (Bx rfl rfl rfl rfl rfl rfl rfl (Bx rfl rfl rfl rfl rfl rfl rfl (Bx rfl rfl rfl rfl rfl rfl rfl (Bx rfl rfl rfl rfl rfl rfl rfl (Bx rfl rfl rfl rfl rfl rfl rfl (Bx rfl rfl rfl rfl rfl rfl rfl (V (Au rfl rfl rfl) ?_)))))));refine G ?_;refine⟨rfl,rfl,?_⟩;refine A0 rfl Z (λi=>?_)
   iterate  7 refine G ?_
   refine A0 rfl (λh5=>?_) Z
   refine Gi λo=>?_
   refine G ?_
   exact⟨[],rfl,.tup [],_,a_ o Y (λ_ _=>rfl),by omega,.same rfl,by omega,Z⟩
theorem VV{E f J o}{t r a T n m g:Nat}{x y c u U l vs' cs}(L:fM E.P t=some (T,g,U))(W:Ah E f x=some (.sr a 0 T n c))(B:Ah E f y=some u)(d:lenA u=some m)
  (j:F9 J T u (Nat.min m n)=some cs)(H:J.get a=some (.cells l))(b:Et l 0 cs=some vs'):As E o (.call ⟨.builtin .copy,#[x,y],#[t,r]⟩) f J (.int .i64 (.ofNat (Nat.min m n))) (J.set a (.cells vs')):=λG h=>by
 unfold fM at L
 split at L
 ·rename_i C k
  split at L
  ·rename_i e p
   split at L
   ·rename_i s i
    simp only[bH,cE]at L;obtain⟨q,v,w⟩:=L;subst q;simp only[bB,Aw,k,Ee,p,i,h.opd W,h.opd B,opds,yY,(show lenA (I.sr a 0 s.size n c)=some n from rfl),d,j,F.cells,H,cb,b,Ak]
   ·cases L
  ·cases L
 ·cases L
theorem QJ:∀{cs vs r:List I},cs.length=vs.length->Et (vs++r) 0 cs=some (cs++r)
 |[],[],r,_=>by cases r<;>rfl
 |c::cs,v::vs,r,h=>by
  have:=QJ (cs:=cs) (vs:=vs) (r:=r) Z;simp only[dL,Et,this]
theorem Bec{j}(h:j.length<=6):Et [.int .i64 (0),.int .i64 (0),.int .i64 (0),.int .i64 (0),.int .i64 (0),.int .i64 (0)] 0 (j.flatMap eI)=some ((kK j).map D):=by
 have a:([.int .i64 (0),.int .i64 (0),.int .i64 (0),.int .i64 (0),.int .i64 (0),.int .i64 (0)]:List I)=List.replicate j.length (.int .i64 0)++List.replicate (6-j.length) (.int .i64 0):=by
  rw[List.replicate_append_replicate,show j.length+(6-j.length)=6 by omega];rfl
 have b:j.flatMap eI=j.map D:=by
  clear h a
  induction j with
  |nil=>rfl
  |cons x l c=>rw[ej,c];rfl
 rw[a,QJ Z,b];unfold kK;rw[iG,List.map_replicate];rfl
theorem Γ{n}(S:1<=n){l}(d:l.length<=6)(h:kB n l):ff n (kK l):=by
 unfold kK;refine⟨Z,λv a=>?_⟩
 rcases dW.1 a with a|a
 ·exact h v a
 grind
theorem vK{n l}(h:ff n l):(l.map D).length=6:=by rw[jT];exact h.1
def xP(a:Nat):I:=.fn (.func 268) [] [.pv [.pr a 0]]
theorem qF{E J}(a:E<O J):Cv 238 [.pr E 0] J (xP E):=by
 refine Aj Tryz.func238 rfl rfl λc b=>?_
 refine fJ ?_
 exact⟨_,rfl,_,_,a_ c Y zN,Y,.same (by
  show(true&&(((Nat.blt E (O J)&&true)&&true)))=true
  rw[Ce a];rfl),rfl,rfl⟩
structure vB {S:Type}(Ls:List RF)(L:RF)(n:Int)(N:Nat)(I:S->F->Prop)(aA:XE->S->F->Prop)(f:List Int->S->Bool×S):Prop where
 lt:L.aY<N
 ext:∀s U U',I s U->O U<=O U'->(∀b,b<N->U'.get b=U.get b)->I s U'
 jx:∀x s U U',aA x s U->O U<=O U'->(∀b,b<N->U'.get b=U.get b)->aA x s U'
 y:∀l s U,ff n l->I s U->N<=O U->YX M Ls L [.agg (l.map D)] U λx U'=>(∀b,N<=b->b<O U->U'.get b=U.get b)/\if(f l s).1=true then x=.normal/\I (f l s).2 U' else x≠.normal/\aA x (f l s).2 U'
theorem f268{S Ls L}(hL:L∈Ls){d s a kq rq yq q k a7 tl J}(aq:J.get a=some (.cells (dI d s kq rq yq)))(ap:J.get a7=some (.cells (gH a q k++tl)))(g1:1<=s.size)(g3:s.size<=3)(hk:k<=6)
  {I aA f}(t:S)(h:vB Ls L s.size (O J) I aA f)(hI:I t J):
  Hl M Ls 268 (.yl L.aY::[.pv [.pr a7 0]]) J λ_ W=>O J<=O W/\if(jE s.size k f t).1=true then I (jE s.size k f t).2 W else ∃x,x≠.normal/\aA x (jE s.size k f t).2 W:=by
 refine Mo Tryz.func268 (Ke _ _ Tryz.func268) rfl rfl λhw bx=>?_
 have E:J.bump.get a=some (.cells (dI d s kq rq yq)):=Z;have j:J.bump.get a7=some (.cells (gH a q k++tl)):=Z
 iterate  5 refine G ?_
 refine Dy λdf=>XS (l:=[(200,[nV k,D s.size],J.bump,EH k s.size,J.bump)]) ⟨wX k s.size J.bump,trivial⟩ ?_
 iterate  4 refine G ?_
 refine V (E8 j aG rfl (show Cz 1 false ((gH a q k++tl).drop 2)=some (nV k)from rfl)) ?_
 iterate  4 refine G ?_
 refine V (E8 j aG rfl (show Cz 1 false ((gH a q k++tl).drop 0)=some (.pr a 0)from rfl)) ?_
 iterate  3 refine G ?_
 refine V (E8 E aG rfl (show Cz 1 false ((dI d s kq rq yq).drop 0)=some (D s.size)from rfl)) ?_
 iterate  2 refine G ?_
 obtain⟨c,ag⟩:∃c,O J+2=c:=⟨_,rfl⟩;obtain⟨v,P⟩:∃v,J.bump.bump.new (.loop .ready)=v:=⟨_,rfl⟩;have n7:O v=O J+3:=Z;have g7:∀b,b<O J->v.get b=J.get b:=Z;have y7:v.get c=some (.loop .ready):=Z;refine G ?_;refine Oo ?_;refine L6 rfl (λtm ai=>?_)
 rw[P,show O J.bump+1=c by rw[Bm];exact ag]
 have au:=h.lt
 refine mB (vQ (L:=⟨c,tm,Tryz.f268.ntmps,_,_,_⟩) (I:=λs U=>I s U/\U.get c=some (.loop .ready)/\c<O U) (aA:=λx s U=>x=.ret/\U.get c=some (.loop (H2 .ret))/\∃x0,x0≠.normal/\aA x0 s U) (f:=λl s=>f (kK l) s) (cX ..) g1 z z v t ⟨?ext,?y⟩ ⟨h.ext _ _ _ hI z g7,y7,by omega⟩) ?post
 case ext=>
  rintro s' U U' p ⟨h1,X,h3⟩ hp hn H
  exact⟨h.ext _ _ _ h1 hn λb C=>H b z z,Z,by omega⟩
 case y=>
  rintro l s' p U hp ay ao hl hr ⟨ae,N,ak⟩
  have K:l.length<=6:=by omega
  have B:=Γ g1 K hr;obtain⟨m,Q⟩:∃m,U.set c (.loop .busy)=m:=⟨_,rfl⟩;have al:O m=O U:=Z;have am:∀b,b≠c->m.get b=U.get b:=Z;obtain⟨w,R⟩:∃w,m.new (.cells [.int .i64 0,.int .i64 0,.int .i64 0,.int .i64 0,.int .i64 0,.int .i64 0])=w:=⟨_,rfl⟩;have bz:O w=O U+1:=Z;have c2:w.get (O U)=some (.cells [.int .i64 0,.int .i64 0,.int .i64 0,.int .i64 0,.int .i64 0,.int .i64 0]):=Z;have an:∀b,b<O U->w.get b=m.get b:=Z;obtain⟨i,T⟩:∃i,w.set (O U) (.cells ((kK l).map D))=i:=⟨_,rfl⟩;have cx:O i=O U+1:=Z;have c3:i.get (O U)=some (.cells ((kK l).map D)):=Z;have a8:∀b,b<O U->b≠c->i.get b=U.get b:=Z;have d4:i.get c=some (.loop .busy):=Z;have a9:I s' i:=h.ext _ _ _ ae z λb C=>a8 b z z
  refine Tk ai rfl Kr Kr Kr N ak ?_
  iterate  3 refine G ?_
  refine⟨N,?_⟩;rw[show U.set c (.loop .busy)=m from Q]
  iterate  3 refine G ?_
  refine A (Bj (n:=O U) bG al) ?_;refine G ?_;rw[R]
  iterate  2 refine G ?_
  refine A (zl rD rfl c2 rfl rfl rfl rfl rfl) ?_;refine G ?_
  refine A (VV (vs':=(kK l).map D) (cs:=l.flatMap eI) aJ rfl rfl rfl (by rw[show Nat.min k (6-0)=l.length by rw[hl];exact nO hk,<-hl];exact kH (tl:=[]) (λ_=>rfl) Z) c2 (Bec K)) ?_
  refine G ?_;rw[T];refine Cf ?_;refine Er ?_;refine Gm 2 λdf=>?_
  refine G ?_;refine A (E8 c3 aG rfl (Wz (vK B))) ?_;refine G ?_;refine Lg (ch _ hL) (λ_ _=>rfl) rfl rfl rfl rfl (h.y (kK l) s' i B a9 z).up λx U4 e aw=>?_
  refine rF 1 ?_
  iterate  3 refine G ?_
  obtain⟨ar,e⟩:=e;have y4:U4.get c=some (.loop .busy):=Z;cases C:(f (kK l) s').1 with
  |true=>
   rw[if_pos C]at e;obtain⟨rfl,aa⟩:=e
   refine A0 rfl (λX=>by cases X) (λX=>?_)
   refine G ?_;refine⟨y4,?_⟩;rw[if_pos rfl]
   exact⟨rfl,⟨h.ext _ _ _ aa Z Z,by rw[aU,if_pos rfl];rfl,Z⟩,Z⟩
  |false=>
   rw[if_neg Z]at e;obtain⟨hx,hJ⟩:=e
   have ah:Iu x=false:=by cases x<;>first|exact absurd rfl hx|rfl
   rw[ah];refine A0 rfl (λX=>?_) Z
   refine G ?_;refine⟨y4,?_⟩
   rw[if_neg (by decide)]
   exact⟨by simp,rfl,Z,x,hx,h.jx _ _ _ _ hJ Z Z⟩
 case post=>
  rintro u W ⟨ax,g⟩;have g:if(jE s.size k f t).1=true then _ else _:=g;cases C:(jE s.size k f t).1 with
  |true=>
   rw[if_pos C]at g;obtain⟨ac,r,_⟩:=g;refine⟨.normal,r,λo=>?_⟩
   exact⟨[],rfl,.tup [],_,a_ o Y (λ_ _=>rfl),Z,.same rfl,Z,by rw[if_pos rfl];exact h.ext _ _ _ ac Z Z⟩
  |false=>
   rw[if_neg Z]at g;obtain⟨x,_,rfl,r,x0,aj,af⟩:=g;refine⟨.ret,r,λo=>?_⟩
   exact⟨[],rfl,.tup [],_,a_ o Y (λ_ _=>rfl),Z,.same rfl,Z,by rw[if_neg (by decide)];exact⟨x0,aj,h.jx _ _ _ _ af Z Z⟩⟩
end Go.AM
