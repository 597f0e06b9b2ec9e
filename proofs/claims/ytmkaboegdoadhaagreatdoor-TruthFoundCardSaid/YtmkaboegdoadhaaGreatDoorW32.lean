/- A part. -/
import Derived.LaidMore
import Derived.Stop.Joined
import Derived.Test.YtmkaboegdoadhaaGreatDoorRows
import Derived.ProofKit
import Derived.OpenShut
import Derived.SizedLaws
import Derived.Carry
import Derived.Test.YtmkaboegdoadhaaGreatDoorW26
set_option maxRecDepth 100000
set_option maxHeartbeats 4000000
set_option linter.unusedSimpArgs false
set_option linter.unusedVariables false
namespace Go.AM
open Go Go.Proofs Go.Proofs.YtmkaboegdoadhaaGreatDoor
section
variable {H:Type}{eh:TypeId×Value->H}{w:World}{hd:Bool}
theorem ut3:Tryz.prog.underlying 3=some (.int .i64):=Kr
theorem utF:Tryz.prog.underlying 462=some (.array 10 461):=Kr
theorem ctE:Tryz.prog.cellsOf 461=4:=Kr
theorem ctF:Tryz.prog.cellsOf 462=40:=Kr
theorem flE:Kq 461=some [(9,0,1),(4,1,1),(3,2,1),(3,3,1)]:=Kr
theorem Ats{n:Nat}:RdX eh w hd n 461 4:=Al2 flE rfl fun m _ j f hj=>by
 match j,hj with
 |0,hj=>cases hj;exact Avz ut9
 |1,hj=>cases hj;exact Atr ut4
 |2,hj=>cases hj;exact Aoi ut3
 |3,hj=>cases hj;exact Aoi ut3
 |j+4,hj=>simp at hj
theorem Aqf{n:Nat}:RdX eh w hd n 462 40:=by
 intro cs x h hl;obtain⟨xs,m,_,rfl,_,hxl,hxf⟩:=DataW.trod_array utF h;rw[ctE]at hxf
 have:=Ac5 (cs:=cs) (eh:=eh) (w:=w) (hd:=hd) (m:=m) ((List.range 10).map fun i=>(461,i*4,4)) xs 0 (by rw[hxl];rfl) (fun j f hj=>by
  rw[br_,cy_]at hj;obtain⟨i,hi,rfl⟩:=hj;have kj:=(ae_.1 hi).1;rw[List.length_range]at kj;rw[List.getElem?_range kj]at hi;cases hi
  exact⟨Ats,hxf j kj⟩) (by rw[hl];rfl)
 rw[db_]at this;refine⟨?_,this.2⟩;rw[Aht];exact this.1
end
theorem Akj{w:World}{nm:String}{g:Nat}{cs:Array Value}(hn:Tryz.prog.globalNamed nm=some g)(h:w.var? Tryz.prog nm=some cs):∃T fz,w.heap[g]? =some (.cells cs T fz):=by
 unfold World.var? at h;rw[hn]at h;simp only[gq_]at h
 split at h
 ·rename_i c T fz hh;cases h;exact⟨T,fz,hh⟩
 ·cases h
theorem tFrmW:(Tryz.prog.globals[0]?).map (·.type)=some 462:=Kr
theorem Aws:Tryz.prog.globalNamed "apodixis/layout.forms" =some 0:=Kr
def Ac6:List (String×DataW Unit):=Rows.truthFoundRow.laid
theorem Att:Aht (Rows.laid_apodixis_layout_forms:DataW Unit)=Ak1:=Kr
theorem Av0{W:World}(h:laidMetH Tryz.prog Ac6 W):Iw C0 0 W Ew:=by
 rw[MakeChecks.laidMetH_plain _ _ _ Kr]at h;have h6:laidMet Tryz.prog (("apodixis/layout.forms", Rows.laid_apodixis_layout_forms)::[]) W:=h;obtain⟨ps, ⟨g', t', cs, fuel, p, q, hg', ht', sg, hd, _, _⟩, _⟩:=h6;obtain rfl:=by_ (Aws.symm.trans hg');obtain rfl:=by_ (tFrmW.symm.trans ht')
 refine⟨fun g l hg=>?_,fun c P hP=>(by cases hP),fun L hL=>(by cases hL)⟩
 have hg:glW g=some l:=hg;unfold glW at hg
 split at hg
 ·rename_i hb
  have:=ac_ hb;subst this;cases hg;obtain⟨T,fz,hh⟩:=Akj Aws sg
  have hl:cs.toList.length=40:=by
   obtain⟨xs,m,_,_,hl,_⟩:=DataW.trod_array utF hd;rw[hl,ctF]
  obtain⟨h1,h2⟩:=Aqf cs.toList _ hd hl;rw[show Aht (Rows.laid_apodixis_layout_forms:DataW Unit)=Ak1 from Att]at h1
  unfold R
  exact⟨0,0,rfl,fun _=>Al0 0,fb_ hh h1 h2 fun i v hv=>by rw[bn_];simpa using hv⟩
 ·cases hg
end Go.AM
namespace Go.AM
open Go Go.Proofs
section
variable {H:Type}{eh:TypeId×Value->H}{w:World}{hd:Bool}
theorem utK26:Tryz.prog.underlying 31=some (.slice 3):=Kr
theorem ctK3:Tryz.prog.cellsOf 3=1:=Kr
theorem A3i{n}:RdN eh w hd n 31 1 (H9 (M8 (α:=List Int)) fun l=>[slV eI 1 l]):=
 (Wa (enc:=eI) utK26 ctK3 Om (fun _=>rfl) fun m _=>A4e ut3).mono fun avs ⟨l,_,h⟩=>⟨l,trivial,h⟩
theorem utK5:Tryz.prog.underlying 5=some (.int .u8):=Kr
theorem rd_u8{n}:RdN eh w hd n 5 1 (H9 (fun k:Nat=>k<256) fun k=>[.int .u8 (.ofNat k)]):=by
 intro cs x h hl hw;obtain⟨i,rfl,rfl,hi⟩:=DataW.trod_int utK5 h;have hi:(decide (IntKind.u8.min<=i)&&decide (i<=IntKind.u8.max))=true:=hi
 rw[show IntKind.u8.min=0 by rfl,show IntKind.u8.max=255 by rfl]at hi
 simp only[ad_,decide_eq_true_eq]at hi
 refine⟨[.int .u8 i],⟨i.toNat,by omega,gr⟩,by unfold RL;exact⟨by unfold R;rfl,by unfold RL;trivial⟩,fun v hv=>by rw[ao_.1 hv];rfl⟩
end
end Go.AM
namespace Go.AM
open Go Go.Proofs Go.Proofs.YtmkaboegdoadhaaGreatDoor Go.ChangeShapes Go.WideShapes Go.ChangeAt Go.WideMaps Go.WideElems Go.RowKit
section
variable {H:Type}{eh:TypeId×Value->H}{w:World}
set_option maxRecDepth 1000000 in
theorem Akk {t k base:Nat} {fl:List (TypeId×Nat×Nat)} {v:Value} (hf:Kq t=some fl) (hk:Tryz.prog.cellsOf t=k) (hv:Value.okWide Tryz.prog w .any base t v):∃cs:Array Value,v=.agg cs/\cs.toList.length=k:=by
 unfold Kq at hf
 split at hf
 ·rename_i fs ht
  unfold Value.okWide at hv;rw[ht]at hv;obtain⟨cs,h1,h2,_⟩:=hv
  exact⟨cs,h1,by rw[←hk,←h2];simp⟩
 ·cases hf
theorem ct25:Tryz.prog.cellsOf 25=3:=Kr
set_option maxRecDepth 1000000 in
theorem A2y {t e base:Nat} {v:Value} (ht:Tryz.prog.underlying t=some (.slice e)) (hv:Value.okWide Tryz.prog w .any base t v):v.cells=#[v]:=by
 obtain⟨a,l,c,rfl⟩:=okWide_slice (P:=Tryz.prog) (e:=e) ht hv
 rfl
set_option maxRecDepth 1000000 in
theorem A4g {t base:Nat} {k:IntKind} {v:Value} (ht:Tryz.prog.underlying t=some (.int k)) (hv:Value.okWide Tryz.prog w .any base t v):v.cells=#[v]:=by
 obtain⟨s,rfl⟩:=okWide_int (P:=Tryz.prog) ht hv
 rfl
set_option maxRecDepth 1000000 in
theorem A7j {base:Nat} {v0 v1 v2 v3 v4:Value} {d0 d1 d2 d3 d4:DataW H} {p0 p1 p2 p3 p4:List MemPlace} {ts:List TypeId} {gs:List (DataW H)} (hv0:Value.okWide Tryz.prog w .any base 25 v0) (hv1:Value.okWide Tryz.prog w .any base 3 v1) (hv2:Value.okWide Tryz.prog w .any base 31 v2) (hv3:Value.okWide Tryz.prog w .any base 22 v3) (hv4:Value.okWide Tryz.prog w .any base 5 v4)
  (h0:DataW.Trod eh Tryz.prog w 0 (fun _=>true) true 25 v0 d0 p0) (h1:DataW.Trod eh Tryz.prog w 0 (fun _=>true) true 3 v1 d1 p1) (h2:DataW.Trod eh Tryz.prog w 0 (fun _=>true) true 31 v2 d2 p2) (h3:DataW.Trod eh Tryz.prog w 0 (fun _=>true) true 22 v3 d3 p3) (h4:DataW.Trod eh Tryz.prog w 0 (fun _=>true) true 5 v4 d4 p4)
  (hw:(DataW.weightsEach Tryz.prog ([25,3,31,22,5]++ts) ([d0,d1,d2,d3,d4]++gs)).all (·<=reachBytes)=true):∃(d:Db) (n:Int) (gd:List Int) (l:List Str) (k:Nat),k<256/\RL C0 0 w [dbV d,iV n,slV eI 1 gd,Af l,.int .u8 (.ofNat k)] [v0,v1,v2,v3,v4]:=by
 have hw':∀(j:Nat) (t:TypeId) (d:DataW H),([25,3,31,22,5]++ts)[j]? =some t->([d0,d1,d2,d3,d4]++gs)[j]? =some d->∀b∈d.weights Tryz.prog t,b<=reachBytes:=fun j t d ht hd b hb=>by
  have:=b_.1 hw b (DataW.weights_mem_each ht hd b hb)
  simpa using this
 obtain⟨c0,rfl,l0⟩:=Akk fl25 ct25 hv0;have e1:=A4g ut3 hv1;have e2:=A2y utK26 hv2;have e3:=A2y ut22 hv3;have e4:=A4g utK5 hv4;obtain⟨n0,h0⟩:=h0;obtain⟨n1,h1⟩:=h1;obtain⟨n2,h2⟩:=h2;obtain⟨n3,h3⟩:=h3;obtain⟨n4,h4⟩:=h4;rw[e1]at h1;rw[e2]at h2;rw[e3]at h3;rw[e4]at h4;obtain⟨_,⟨d,_,rfl⟩,r0,o0⟩:=rd_db c0.toList _ h0 l0 (hw' 0 25 d0 rfl rfl);obtain⟨_,⟨n,_,rfl⟩,r1,o1⟩:=A4e ut3 [v1] _ h1 rfl (hw' 1 3 d1 rfl rfl);obtain⟨_,⟨gd,_,rfl⟩,r2,o2⟩:=A3i [v2] _ h2 rfl (hw' 2 31 d2 rfl rfl);obtain⟨_,⟨l,_,rfl⟩,r3,o3⟩:=O8 [v3] _ h3 rfl (hw' 3 22 d3 rfl rfl);obtain⟨_,⟨k,hk,rfl⟩,r4,o4⟩:=rd_u8 [v4] _ h4 rfl (hw' 4 5 d4 rfl rfl);refine⟨d,n,gd,l,k,hk,?_⟩;unfold RL
 refine⟨by unfold dbV R;exact⟨c0,rfl,r0,o0⟩,?_⟩
 unfold RL at r1 r2 r3;unfold RL;refine⟨r1.1,?_⟩;unfold RL;refine⟨r2.1,?_⟩;unfold RL;exact⟨r3.1,r4⟩
end
end Go.AM
namespace Go.AM
open Go Go.Proofs
theorem f72(d t J)(hD:DbB d)(hvf:d.vars.length+d.frames.length<1000000)(hb:M6 t<=4000)(hh:hT t<=100):Cv 72 [dbV d,En t] J (.tup [sV (if Ay8 d t=0 then chkS d t else[]),iV (Ay8 d t)]):=by
 refine Aj Tryz.func72 rfl rfl fun hw hu0=>?_
 refine G11 ?_;refine Ca (f129 d t _ hD hvf hb hh) ?_
 iterate 14 refine G ?_
 refine Ab rfl ?_ ?_<;>intro h1
 ·have h0:¬Ay8 d t=0:=gr;refine G7 ?_;refine B4 hw rfl ?_;rw[if_neg h0];rfl
 ·have h0:Ay8 d t=0:=gr;refine G8 ?_;refine B4 hw rfl ?_;rw[if_pos h0,h0];rfl
theorem f74(p l k cap J)(hb:l.length<4611686018427387904)(hk:∀a∈l,Al Ew k ([.agg (eVl a)]++cap) J fun v J'=>v=.bool (p a)/\J'=J):
  Cv 74 [slV eVl 2 l,.fn (.func k) [] cap] J (iV (A5 p l 0)):=by
 refine Aj Tryz.func74 rfl rfl fun hw hu=>?_
 refine G12 ?_;refine Bz l.length (fun i=>[(0,slV eVl 2 l),(1,.fn (.func k) [] cap),(7,iV (.ofNat l.length)),(8,iV (.ofNat i))]) (fun i J'=>J'=J/\A5 p l 0=A5 p (l.drop i) i) SL ⟨rfl,rfl⟩ ?_
 rintro i J' hi ⟨rfl,hf⟩;refine G5 ?_;refine Ab rfl ?_ ?_<;>intro h
 ·have hlt:i<l.length:=gr;obtain⟨a,ha⟩:∃a,l[i]? =some a:=⟨_,az_ hlt⟩
  have hd:l.drop i=a::l.drop (i+1):=by
   obtain⟨h1,rfl⟩:=ae_.1 ha;exact bj_ h1
  iterate 14 refine G ?_
  refine O1 (Ac ldC rfl rfl (A6 ((fun _=>rfl:∀a,(eVl a).length=2) a) _)) ?_
  refine Az rfl rfl rfl rfl (hk a (ab_ ha)) ?_;rintro _ _ ⟨rfl,rfl⟩;refine G ?_;refine Ab rfl (fun h'=>?_) (fun h'=>?_)
  ·refine G6 ?_;refine⟨_,rfl,iV (.ofNat i),_,a_ hw nl (fun _ _=>rfl),nl,.same rfl,?_,rfl⟩
   rw[hf,hd];simp only[A5,h',cond_true]
  ·refine G2 ?_;refine O1 (D3 (p:=i) (q:=1) okC rfl rfl Om) ?_;refine G2 ?_;refine⟨hlt,SL,rfl,?_⟩;rw[hf,hd];simp only[A5,h',cond_false]
 ·have hge:l.length<=i:=gr;refine G6 ?_;refine⟨_,rfl,iV (-1),_,a_ hw nl (fun _ _=>rfl),nl,.same rfl,?_,rfl⟩
  rw[hf,ah_ hge];rfl
theorem f75(x s J):Cv 75 [.agg (eVl x),.pv [sV s]] J (.bool (decide (x.var=s))):=by
 refine Aj Tryz.func75 rfl rfl fun hw hu0=>?_
 iterate 14 refine G ?_
 refine B4 hw rfl ?_
 rfl
theorem f128(a)(m:Ax9)(J):Cv 128 [iV a,.pv [iV m.n,slV eI 1 m.des,slV eTb 2 m.tabs]] J (.bool (decide (a<0)||decide (m.n<=a))):=by
 refine Aj Tryz.func128 rfl rfl fun hw hu0=>?_
 refine G9 ?_;refine TOr 4 ?_ (fun hg=>?_) ?_
 rotate_left
 ·iterate 4 refine Gn hg ?_
  exact Ez
 refine G3 ?_;refine B4 hw rfl ?_
 rfl
theorem f142(r J):Cv 142 [.agg (eR r)] J (.bool r.var):=by
 refine Aj Tryz.func142 rfl rfl fun hw hu0=>?_
 refine G12 ?_;refine B4 hw rfl ?_
 rfl
theorem f95(r J)(hb:r.parts.length<1000000):Cv 95 [.agg (eR r)] J (iV (.ofNat (Qw r))):=by
 refine Aj Tryz.func95 rfl rfl fun hw hu0=>?_
 iterate 18 refine G ?_
 refine Bz r.parts.length (fun i0=>[(3,iV (.ofNat ((r.parts.take i0).filter fun p=> !decide (p.sort=[])).length)),(7,slV ePt 3 r.parts),(8,iV (.ofNat r.parts.length)),(9,iV (.ofNat i0))]) (fun i0 J0=>J0=J) SL rfl ?_
 rintro i0 J0 hi0 rfl;refine G5 ?_;refine Ab rfl ?_ ?_<;>intro h1
 ·have bc:i0<r.parts.length:=gr;obtain⟨a0,ha0⟩:=Ar bc;have hd0:=A4 ha0;have hl0:((r.parts.take i0).filter fun p=> !decide (p.sort=[])).length<=i0:=ai_ (ee_ _ _) gr
  have ht0:((r.parts.take (i0+1)).filter fun p=> !decide (p.sort=[])).length=((r.parts.take i0).filter fun p=> !decide (p.sort=[])).length+if(!decide (a0.sort=[]))=true then 1 else 0:=gr
  iterate 13 refine G ?_
  refine O1 (Ko (q:=[]) okC rfl rfl) ?_;refine G ?_;refine Ab rfl ?_ ?_<;>intro h2
  ·rw[if_pos h2]at ht0;refine G9 ?_
   refine⟨bc,⟨by rw[ht0];rfl,rfl,rfl,rfl,trivial⟩,rfl⟩
  ·rw[if_neg gr,fd_]at ht0;refine G5 ?_
   refine⟨bc,⟨by rw[ht0];rfl,rfl,rfl,rfl,trivial⟩,rfl⟩
 ·have bj:r.parts.length<=i0:=gr;refine G7 ?_;refine B4 hw rfl ?_;rw[at_ bj];rfl
theorem f94(n k J)(g1:1<=n)(h5:n<=5)(hk:k<1000000):Cv 94 [iV n,iV (.ofNat k),iV 10000] J (iV (Ayi n 10000 k 1)):=by
 refine Aj Tryz.func94 rfl rfl fun hw hu0=>?_
 iterate 15 refine G ?_
 refine Bz k (fun i0=>[(0,iV n),(2,iV 10000),(7,iV (n ^ i0)),(8,iV (.ofNat k)),(9,iV (.ofNat i0))]) (fun i0 J0=>J0=J/\n ^ i0<=10000/\Ayi n 10000 k 1=Ayi n 10000 (k-i0) (n ^ i0)) ⟨rfl,rfl,congrArg (fun x=>some (iV x)) (Int.pow_zero n).symm,rfl,rfl,trivial⟩ ⟨rfl,gr,gr⟩ ?_
 rintro i0 J0 hi0 ⟨rfl,hp0,hf0⟩;refine G5 ?_;refine Ab rfl ?_ ?_<;>intro h1
 ·have bc:i0<k:=gr;have hn0:0<=n ^ i0:=Int.pow_nonneg Om;have hm0:n ^ i0*n<=10000*5:=Int.mul_le_mul hp0 h5 Om Om;have hm1:0<=n ^ i0*n:=Int.mul_nonneg hn0 Om
  rw[show k-i0=(k-(i0+1))+1 by omega,Ayi]at hf0
  refine G7 ?_;refine O1 (Au0 okC rfl rfl Om Om) ?_;refine G8 ?_;refine Ab rfl ?_ ?_<;>intro h2
  ·skip
   refine G3 ?_;refine O1 (A0y (p:=10000) (q:=1) okC rfl rfl Om Om) ?_;refine G3 ?_;refine B4 hw rfl ?_;rw[hf0,if_pos h2];rfl
  ·skip
   refine G5 ?_;refine⟨bc,⟨rfl,rfl,congrArg (fun x=>some (iV x)) (Int.pow_succ n i0).symm,rfl,rfl,trivial⟩,rfl,gr,gr⟩
 ·have bj:k<=i0:=gr;refine G7 ?_;refine B4 hw rfl ?_
  rw[hf0,show k-i0=0 by omega,Ayi];rfl
theorem f90(n l J)(hb:l.length<1000000):Cv 90 [iV n,slV eI 1 l] J (iV (A1c n l)):=by
 refine Aj Tryz.func90 rfl rfl fun hw hu0=>?_
 refine G10 ?_;refine TOr 2 ?_ (fun hg=>?_) ?_
 rotate_left
 ·iterate 2 refine Gn hg ?_
  exact Ez
 refine G ?_;refine Ab rfl ?_ ?_<;>intro h1
 ·skip
  refine G5 ?_;refine B4 hw rfl ?_;unfold A1c;rw[if_pos h1];rfl
 ·skip
  refine G9 ?_;refine Bz l.length (fun i0=>[(0,iV n),(1,slV eI 1 l),(13,slV eI 1 l),(14,iV (.ofNat l.length)),(15,iV (.ofNat i0))]) (fun i0 J0=>J0=J/\A2w n none l=A2w n (A2a l i0) (l.drop i0)) SL ⟨rfl,rfl⟩ ?_
  rintro i0 J0 hi0 ⟨rfl,hf0⟩;refine G5 ?_;refine Ab rfl ?_ ?_<;>intro h2
  ·have bc:i0<l.length:=gr;obtain⟨a0,ha0⟩:=Ar bc;have hd0:=A4 ha0;obtain⟨p0,hp0⟩:∃p,0<i0->l[i0-1]? =some p:=gr
   have hm0:leB (A2a l i0) a0=(decide ((0:Int)<Int.ofNat i0)&&decide (a0<=p0)):=by
    unfold A2a
    by_cases hz:0<i0
    ·rw[if_neg Om,hp0 hz]
     show decide (a0<=p0)=_
     grind
    ·rw[if_pos Om]
     show false=_
     grind
   rw[hd0,A2w,hm0]at hf0
   iterate 16 refine G ?_
   refine TOr 3 ?_ (fun hg=>?_) ?_
   rotate_left
   ·iterate 3 refine Gn hg ?_
    exact Ez
   refine G ?_;refine TOr 11 ?_ (fun hg=>?_) ?_
   rotate_left
   ·iterate 3 refine Gn hg ?_
    refine Hq 7 _ ?_ rfl rfl rfl rfl rfl (Ft rfl rfl rfl rfl (by rw[hg];rfl)) (fun hg=>?_) (fun hg=>?_) ?_
    rotate_left
    ·iterate 3 refine Gn hg ?_
     refine On hg (W2 (q:=1) okC rfl rfl gr Om) ?_;refine On hg (A1 elC (fun _=>rfl) rfl rfl (hp0 gr)) ?_
     refine Gn hg ?_;refine On hg (Hn okC rfl rfl) ?_;refine G ?_;refine⟨rfl,?_,?_⟩
     ·exact sb
     ·exact rfl
    ·iterate 7 refine Gn hg ?_
     refine G ?_;exact⟨rfl,sb⟩
    exact Ez
   refine G ?_;refine Ab rfl ?_ ?_<;>intro h3
   ·have h3':((decide (a0<0)||decide (n<=a0))||(decide ((0:Int)<Int.ofNat i0)&&decide (a0<=p0)))=true:=h3
    refine G5 ?_;refine B4 hw rfl ?_;unfold A1c;rw[if_neg gr,hf0,h3'];rfl
   ·have h3':((decide (a0<0)||decide (n<=a0))||(decide ((0:Int)<Int.ofNat i0)&&decide (a0<=p0)))=false:=h3
    refine G5 ?_
    refine⟨bc,SL,rfl,(by rw[hf0,A2x ha0,h3'];rfl)⟩
  ·have bj:l.length<=i0:=gr;refine G6 ?_;refine B4 hw rfl ?_;unfold A1c;rw[if_neg gr,hf0,ah_ bj];rfl
theorem f141(l J)(hb:l.length<1000000):Al Ew 141 [slV eR 4 l] J fun v J'=>Own J' (nx J) eR 4 l v/\Below (nx J) J J':=by
 refine Aj Tryz.func141 rfl rfl fun hw hu0=>?_
 refine G8 ?_;refine Abi slC rfl rfl fun b hbn=>?_
 refine G ?_;refine Ab rfl ?_ ?_<;>intro h1
 ·refine G4 ?_;obtain rfl:=ce_ (hbn h1);refine G ?_;exact⟨_,rfl,_,J,a_ hw nl (fun _ _=>rfl),nl,.same rfl,.nil,.rfl'⟩
 ·refine G3 ?_
  obtain⟨v,U,c5,bf,cb,_⟩:=ex_ (enc:=eR) (sz:=4) (l:=([]:List Rl)) (by':=64) (N:=nx J) (fun s=>rfl) nl (Own.emp (enc:=eR) (sz:=4)) l (by simp[sizeLim];omega)
  refine O1 (Ai elC byW rfl rfl rfl) ?_;refine G ?_;refine O1 (Av elC rfl slC rfl rfl rfl (X7 (enc:=eR) (sz:=4) (fun _=>rfl) _ l) c5) ?_
  refine G2 ?_;refine Bo fun hw'=>Av4 (i:=2) rfl fun hu=>?_
  refine G ?_;exact⟨_,rfl,_,_,a_ hw' nl (fun _ _=>rfl),cb.1,.same hu,bf,cb⟩
theorem f161o(p l a tl k cap J)(hb:l.length<1000000)(hg:J.get a=some (.cells (l.flatMap eR++tl)))(hk:∀x∈l,Al Ew k ([.agg (eR x)]++cap) J fun v J'=>v=.bool (p x)/\J'=J):Cv 161 [.sr a 0 4 l.length none,.fn (.func k) [] cap] J (iV (A5 p l 0)):=by
 refine Aj Tryz.func161 rfl rfl fun hw hu0=>?_
 refine G8 ?_;refine O1 (Bf slC rfl rfl rfl) ?_;refine G3 ?_;refine Bz l.length (fun i0=>[(0,.sr a 0 4 l.length none),(1,.fn (.func k) [] cap),(7,iV (.ofNat l.length)),(8,iV (.ofNat i0))]) (fun i0 J0=>J0=J/\A5 p l 0=A5 p (l.drop i0) i0) SL ⟨rfl,rfl⟩ ?_
 rintro i0 J0 hi0 ⟨rfl,hf0⟩;refine G5 ?_;refine Ab rfl ?_ ?_<;>intro h1
 ·have bc:i0<l.length:=gr;obtain⟨a0,ha0⟩:=Ar bc;have hd0:=A4 ha0
  iterate 13 refine G ?_
  refine O1 (Br elC rfl rfl bc) (O1 (Dg (enc:=eR) (v:=.agg (eR a0)) (fun _=>rfl) ldC rfl hg ha0 (fun _=>rfl)) ?_)
  refine Ca (hk a0 (ab_ ha0)) ?_;refine G ?_;refine Ab rfl ?_ ?_<;>intro h2
  ·refine G6 ?_;refine B4 hw rfl ?_
   exact(by rw[hf0,hd0];simp only[A5,h2,cond_true];rfl)
  ·refine G5 ?_
   refine⟨bc,SL,rfl,by rw[hf0,hd0];simp only[A5,h2,cond_false]⟩
 ·have bj:l.length<=i0:=gr;refine G6 ?_;refine B4 hw rfl ?_
  exact(by rw[hf0,ah_ bj];rfl)
theorem f140e(k:Nat)(cap v₀)(hv:v₀=nS∨v₀=.sv [] 4 0 (some 0))(J):Cv 140 [v₀,.fn (.func k) [] cap] J v₀:=by
 refine Aj Tryz.func140 rfl rfl fun hw hu0=>?_
 refine G8 ?_
 refine Nm rfl rfl rfl rfl ((f161 (fun _=>false) [] k cap J (by simp) gr).wk (.cons (by rcases hv with rfl|rfl<;>first|exact Agy|exact Dv) .refl)) ?_
 refine G6 ?_;refine O1 (H4 (q:=(-1)) okC rfl rfl) ?_;refine G ?_;refine Ab rfl ?_ ?_<;>intro h1
 ·refine G6 ?_
  exact⟨_,rfl,_,_,a_ hw nl (fun _ _=>rfl),nl,.same (by rcases hv with rfl|rfl<;>rfl),rfl,rfl⟩
 ·exact absurd h1 (by simp[A5])
theorem f140o(p l a N tl k cap J)(hb:l.length<1000000)(hN:N<=a)(hg:J.get a=some (.cells (l.flatMap eR++tl)))(hk:∀x∈l,∀U,(∀b,b<N->U.get b=J.get b)->nx U=nx J->Al Ew k ([.agg (eR x)]++cap) U fun v J'=>v=.bool (p x)/\J'=U):Al Ew 140 [.sr a 0 4 l.length none,.fn (.func k) [] cap] J fun v J'=>Own J' N eR 4 (Eo p l) v/\Below N J J':=by
 refine Aj Tryz.func140 rfl rfl fun hw hu0=>?_
 have gd:=(hw _ _ hg).1;refine G8 ?_;refine Ca (f161o p l a tl k cap _ hb hg (fun x hx=>hk x hx _ (fun _ _=>rfl) rfl)) ?_
 refine G6 ?_;refine O1 (H4 (q:=(-1)) okC rfl rfl) ?_;refine G ?_;refine Ab rfl ?_ ?_<;>intro h1
 ·refine G5 ?_;obtain hs:Eo p l=l:=Ab3 ((Ha (p:=p) l 0).resolve_right gr).2;refine G ?_
  exact⟨_,rfl,_,_,a_ hw nl (fun _ _=>rfl),nl,.same (Ce gd),.inr ⟨a,tl,hN,gd,by rw[hs];rfl,gr⟩,.rfl'⟩
 ·rcases Ha (p:=p) l 0 with⟨hf,hno⟩|⟨n,x,hf,hx,hpx,hpb⟩
  ·grind
  obtain⟨hst,jw⟩:=Vc.start hx hpx hpb;have hn:=(ae_.1 hx).1;rw[hf,bn_];refine G9 ?_;refine Ci (fun q:Nat×Nat=>[(0,.sr a 0 4 l.length none),(1,.fn (.func k) [] cap),(5,iV (.ofNat q.2)),(6,iV (.ofNat q.1))])
   (fun q J0=>q.1<=l.length/\q.2=(Eo p (l.take q.1)).length/\nx J0=nx J/\(∀b,b≠a->J0.get b=J.get b)/\∃c,Vc p l c q.1/\J0.get a=some (.cells (c.flatMap eR++tl))) (fun q=>l.length-q.1) (n+1,n) SL ⟨hn,hst.symm,rfl,fun _ _=>rfl,l,jw,hg⟩ ?_
  rintro⟨j,w⟩ J0 ⟨hjl,hw0,hnx,dq,c,hdi,hc⟩;simp only at hjl hw0 hdi;refine G5 ?_;refine O1 (Bf slC rfl rfl rfl) ?_;refine G2 ?_;refine Ab rfl ?_ ?_<;>intro h2
  ·have bc:j<l.length:=gr;obtain⟨b,hb0⟩:=Ar bc;have hcb:=hdi.at.trans hb0
   have hwl:w<=j:=by rw[hw0];exact ai_ H0 gr
   refine G7 ?_;refine O1 (Br elC rfl rfl bc) (O1 (Dg (enc:=eR) (v:=.agg (eR b)) (fun _=>rfl) ldC rfl hc hcb (fun _=>rfl)) ?_)
   refine G6 ?_;refine Ca (hk b (ab_ hb0) J0 (fun b' hb'=>dq b' Om) hnx) ?_
   refine G2 ?_;refine Ab rfl ?_ ?_<;>intro h3
   ·have h4:p b=false:=gr;obtain⟨e1,e2,e3⟩:=hdi.keep hb0 h4;rw[←hw0]at e1 e2 e3;refine G5 ?_;refine O1 (Br elC rfl rfl Om) ?_;refine O1 (Tb (enc:=eR) (u:=b) (fun _=>rfl) ldC rfl rfl rfl hc e2) ?_
    refine G11 ?_;refine⟨(j+1,w+1),gr,SL,bc,e1.symm,gr,gr,c.set w b,e3,gr⟩
   ·have h4:p b=true:=gr;obtain⟨e1,e2⟩:=hdi.out hb0 h4;rw[←hw0]at e1;refine G6 ?_;refine⟨(j+1,w),gr,SL,bc,e1.symm,hnx,dq,c,e2,hc⟩
  ·have bj:j=l.length:=gr
   have hwl:w<=l.length:=by rw[hw0];exact ai_ H0 gr
   refine G5 ?_
   refine O1 (Aim elC rfl rfl hwl) (O1 (Aez (enc:=eR) (l:=c) (b:=w) (fun _=>rfl) elC rfl rfl hc (by rw[hdi.len];omega)) ?_)
   refine G5 ?_;refine O1 (Uv elC rfl rfl hwl) ?_;refine G2 ?_;have hs:Eo p (l.take j)=Eo p l:=gr;rw[hs]at hw0;have jx:=hdi.fst;rw[hs,←hw0]at jx;refine Bo fun hw'=>?_
   refine G ?_
   refine⟨_,rfl,_,_,a_ hw' nl (fun _ _=>rfl),ef_ gr,.same (Ce gr),.inr ⟨a,rep [.str [],.str [],nS,.bool false] (l.length-w)++tl,hN,gr,by rw[←hw0];rfl,?_⟩,⟨ef_ gr,gr⟩⟩
   grind
theorem f140(p l N k cap v₀ J)(h:Own J N eR 4 l v₀)(hb:l.length<1000000)(hk:∀x∈l,∀U,(∀b,b<N->U.get b=J.get b)->nx U=nx J->Al Ew k ([.agg (eR x)]++cap) U fun v J'=>v=.bool (p x)/\J'=U):
  Al Ew 140 [v₀,.fn (.func k) [] cap] J fun v J'=>Own J' N eR 4 (Eo p l) v/\Below N J J':=by
 rcases h with⟨rfl,hv⟩|⟨a,tl,h1,h2,rfl,h4⟩
 ·exact(f140e k cap v₀ hv J).mono fun v U ⟨e1,e2⟩=>by subst e1 e2;exact⟨.inl ⟨rfl,hv⟩,.rfl'⟩
 ·exact f140o p l a N tl k cap J hb h1 h4 hk
theorem f93(g J)(hb:g.rules.length<1000000):Cv 93 [grV g] J (slV eR 4 (axR g.rules)):=by
 refine Aj Tryz.func93 rfl rfl fun hw hu0=>?_
 refine G9 ?_;refine Az rfl rfl rfl rfl (f141 g.rules _ hb) fun v U ⟨bf,cb⟩=>?_
 refine Az rfl rfl rfl rfl (f140 (fun r=>r.var) g.rules (nx J) 142 [] v U bf hb (fun x _ U _ _=>f142 x U)) fun v2 U2 ⟨bw,b7⟩=>?_
 refine G3 ?_;exact⟨_,rfl,slV eR 4 (axR g.rules),J,am_ hw (cb.trans b7),nl,bw.fz (fun _=>rfl) (fun a ha=>hw.none ha) (A2 Vj _),rfl,rfl⟩
def gpV(g:Gr):AV:=.pv [Af g.sorts,slV eR 4 g.rules]
structure A0z (g:Gr)(σb:Sto)(N b c:Nat)(acc:List Str)(J:Sto):Prop where
 ex:∃w,J.get b=some (.cells [w])/\Own J N e1 1 acc w
 cl:J.get c=some (.cells [.fn (.func 130) [] [gpV g,.pr b 0,.pr c 0]])
 lo:∀a,a<N->a≠b->a≠c->J.get a=σb.get a
 nn:N<=nx J
mutual
theorem A00 {g:List Rl}:∀(t:Ax) (acc:List Str),(Ayh g t acc).length<=acc.length+M6 t
 |.node s ks,acc=>by
  unfold Ayh M6;refine ai_ (Azk ks _) ?_
  grind
theorem Azk {g:List Rl}:∀(l:List Ax) (acc:List Str),(Ayv g l acc).length<=acc.length+Ach l
 |[],acc=>nl
 |t::r,acc=>by
  unfold Ayv Ach;have h1:=Azk (g:=g) r (Ayh g t acc);have h2:=A00 (g:=g) t acc;omega
end
theorem Az9{g a}:∀(l:List Ax) (acc:List Str),Ayv g (l++[a]) acc=Ayh g a (Ayv g l acc)
 |[],acc=>rfl
 |t::r,acc=>by simp only[ay_,Ayv,Az9 r]
theorem f130n(g:Gr)(s:Str)(ks:List Ax)(acc:List Str)(σb J:Sto)(N b c:Nat)(hS:A0z g σb N b c acc J)(hbN:b<N)(hcN:c<N)(hcb:c≠b)(hgr:g.rules.length<1000000)(hb:acc.length+M6 (.node s ks)<=100000)(ih:∀k∈ks,∀acc J,A0z g σb N b c acc J->acc.length+M6 k<=100000->Al Ew 130 [En k,gpV g,.pr b 0,.pr c 0] J fun v J'=>v=.tup []/\A0z g σb N b c (Ayh g.rules k acc) J'/\nx J<=nx J'):Al Ew 130 [En (.node s ks),gpV g,.pr b 0,.pr c 0] J fun v J'=>v=.tup []/\A0z g σb N b c (Ayh g.rules (.node s ks) acc) J'/\nx J<=nx J':=by
 have hlk:=Ajh ks
 have hck:acc.length+(1+Ach ks)<=100000:=by unfold M6 at hb;exact hb
 rw[Cg];obtain⟨w,hgb,bf⟩:=hS.ex;refine Aj Tryz.func130 rfl rfl fun hw hu0=>?_
 refine G4 ?_
 obtain⟨r,hcA,hvb⟩:∃r:Rl,(0<=A5 (fun r=>decide (r.label=s)) g.rules 0->∃n,A5 (fun r=>decide (r.label=s)) g.rules 0=Int.ofNat n/\g.rules[n]? =some r)/\((decide ((0:Int)<=A5 (fun r=>decide (r.label=s)) g.rules 0)&&r.var)&& !acc.any fun x=>decide (s=x))=(A0m g.rules s&& !acc.any fun x=>decide (s=x)):=by
  unfold A0m
  rcases L9 (l:=g.rules) (s:=s)with⟨e1,e2⟩|⟨n,r,e1,e2,e3⟩
  ·exact⟨⟨[],[],[],false⟩,fun h=>absurd (e1▸h) (by decide),gr⟩
  ·exact⟨r,fun _=>⟨n,e1,e2⟩,gr⟩
 refine G6 ?_;refine Ca (f126 g s _ hgr) ?_;refine G7 ?_;refine TAn 6 ?_ (fun hg=>?_) ?_
 rotate_left
 ·obtain⟨n,hfn,hrn⟩:=hcA (of_decide_eq_true hg)
  iterate 3 refine Gn hg ?_
  refine On hg (A1 (i:=n) elC (fun _=>rfl) rfl (congrArg (fun x=>some (AV.int .i64 x)) hfn) hrn) ?_
  iterate 2 refine Gn hg ?_
  exact Ez
 refine G ?_;refine TAn 5 ?_ (fun hg=>?_) ?_
 rotate_left
 ·refine On hg (lO hgb) ?_
  iterate 2 refine Gn hg ?_
  refine Bh rfl rfl rfl (by rw[hg];rfl) rfl rfl rfl rfl (f15w acc s w _ bf Om) ?_
  refine Gn hg ?_;exact Ez
 refine G ?_;refine Ab rfl ?_ ?_<;>intro h1
 ·have hcond:(A0m g.rules s&& !acc.any fun x=>decide (s=x))=true:=gr
  have hlen1:(acc++[s]).length=acc.length+1:=by simp
  obtain⟨v1,U1,hap,ho1,hb1,hk1⟩:=bf.app (by':=16) (enc:=e1) (sz:=1) (fun _=>rfl) hS.nn [s] (by simp only[fh_,sizeLim];omega)
  have hgb1:U1.get b=some (.cells [w]):=(hb1.2 _ hbN).trans hgb
  have hS1:A0z g σb N b c (Ayv g.rules (ks.take 0) (acc++[s])) (U1.set b (.cells [v1])):=⟨⟨v1,gr,ho1.mono gr gr⟩,by rw[aa_,if_neg hcb,hb1.2 _ hcN];exact hS.cl,fun a ha hab hac=>by rw[aa_,if_neg hab,hb1.2 _ ha];exact hS.lo a ha hab hac,by rw[Aq];exact ai_ hS.nn hb1.1⟩
  have hnx1:nx J<=nx (U1.set b (.cells [v1])):=by rw[Aq];exact hb1.1
  refine G ?_;refine O1 (lO hgb) ?_;refine G2 ?_;refine Cx (Ai elC byW rfl rfl rfl) (Dv (len:=1)) rfl rfl (O1 (Av elC rfl slC rfl rfl rfl (new:=e1 s) rfl hap) (O1 (G1 hgb1 ldC rfl rfl (Acc ho1) rfl) ?_));refine G9 ?_;refine Bz ks.length (fun i0=>[(3,.pr c 0),(35,slV eT 2 ks),(36,iV (.ofNat ks.length)),(37,iV (.ofNat i0))]) (fun i0 J0=>A0z g σb N b c (Ayv g.rules (ks.take i0) (acc++[s])) J0/\nx J<=nx J0) SL ⟨hS1,hnx1⟩ ?_
  rintro i0 J0 hi0 ⟨hS0,hnx0⟩;refine G5 ?_;refine Ab rfl ?_ ?_<;>intro h2
  ·have bc:i0<ks.length:=gr;obtain⟨a0,ha0⟩:=Ar bc;have hct:=Azj ha0;have hvl:=Azk (g:=g.rules) (ks.take i0) (acc++[s]);have nq:=hS0.cl;refine G5 ?_;refine O1 (A1 elC Dh rfl rfl ha0) (O1 (Ac ldC rfl rfl (A6 (Dh a0) _)) (Ho ziC ldC rfl (fun _=>rfl) rfl (A7 (Dh a0)) rfl rfl ?_))
   refine G2 ?_;refine O1 (lO nq) ?_;refine G ?_;refine Az rfl rfl rfl rfl (ih a0 (ab_ ha0) _ _ hS0 Om) ?_;rintro _ U ⟨rfl,hSn,hnn⟩;refine G5 ?_
   refine⟨bc,SL,(by rw[Fw ha0,Az9];exact hSn),ai_ hnx0 hnn⟩
  ·have bj:ks.length<=i0:=gr;rw[at_ bj]at hS0;refine Bo fun hw1=>?_
   refine G ?_
   exact⟨[],rfl,.tup [],_,a_ hw1 nl (fun _ _=>rfl),hnx0,.same rfl,rfl,by rw[Ayh,if_pos hcond];exact hS0,hnx0⟩
 ·have hcond:¬(A0m g.rules s&& !acc.any fun x=>decide (s=x))=true:=gr
  have hS1:A0z g σb N b c (Ayv g.rules (ks.take 0) acc) J:=hS;have hnx1:nx J<=nx J:=nl;refine G9 ?_;refine Bz ks.length (fun i0=>[(3,.pr c 0),(35,slV eT 2 ks),(36,iV (.ofNat ks.length)),(37,iV (.ofNat i0))]) (fun i0 J0=>A0z g σb N b c (Ayv g.rules (ks.take i0) acc) J0/\nx J<=nx J0) SL ⟨hS1,hnx1⟩ ?_
  rintro i0 J0 hi0 ⟨hS0,hnx0⟩;refine G5 ?_;refine Ab rfl ?_ ?_<;>intro h2
  ·have bc:i0<ks.length:=gr;obtain⟨a0,ha0⟩:=Ar bc;have hct:=Azj ha0;have hvl:=Azk (g:=g.rules) (ks.take i0) acc;have nq:=hS0.cl;refine G5 ?_;refine O1 (A1 elC Dh rfl rfl ha0) (O1 (Ac ldC rfl rfl (A6 (Dh a0) _)) (Ho ziC ldC rfl (fun _=>rfl) rfl (A7 (Dh a0)) rfl rfl ?_))
   refine G2 ?_;refine O1 (lO nq) ?_;refine G ?_;refine Az rfl rfl rfl rfl (ih a0 (ab_ ha0) _ _ hS0 Om) ?_;rintro _ U ⟨rfl,hSn,hnn⟩;refine G5 ?_
   refine⟨bc,SL,(by rw[Fw ha0,Az9];exact hSn),ai_ hnx0 hnn⟩
  ·have bj:ks.length<=i0:=gr;rw[at_ bj]at hS0;refine Bo fun hw1=>?_
   refine G ?_
   exact⟨[],rfl,.tup [],_,a_ hw1 nl (fun _ _=>rfl),hnx0,.same rfl,rfl,by rw[Ayh,if_neg hcond];exact hS0,hnx0⟩
theorem f130(g σb N b c)(hbN:b<N)(hcN:c<N)(hcb:c≠b)(hgr:g.rules.length<1000000)(t):∀(acc:List Str) (J:Sto),A0z g σb N b c acc J->acc.length+M6 t<=100000->
  Al Ew 130 [En t,gpV g,.pr b 0,.pr c 0] J fun v J'=>v=.tup []/\A0z g σb N b c (Ayh g.rules t acc) J'/\nx J<=nx J':=by
 refine Ax.ind' (P:=fun t=>∀(acc:List Str) (J:Sto),A0z g σb N b c acc J->acc.length+M6 t<=100000->Al Ew 130 [En t,gpV g,.pr b 0,.pr c 0] J fun v J'=>v=.tup []/\A0z g σb N b c (Ayh g.rules t acc) J'/\nx J<=nx J') ?_ t
 exact fun s ks ih acc J hS hb=>f130n g s ks acc σb J N b c hS hbN hcN hcb hgr hb ih
theorem f73(g:Gr)(t:Ax)(J:Sto)(hgr:g.rules.length<1000000)(hb:M6 t<=100000):Cv 73 [grV g,En t] J (Af (Ayh g.rules t [])):=by
 refine Aj Tryz.func73 rfl rfl fun hw hu0=>?_
 refine G8 ?_;refine O1 (Bu ziC) ?_;refine G3 ?_;refine O1 (Bu ziC) ?_;refine G ?_;have hnx1:nx (J.new (.cells [nS]))=nx J+1:=Ao _ _;rw[hnx1];refine G3 ?_;refine O1 (sO (a:=nx J+1) (off:=0) (cs:=[.nil .nilFunc]) (cs':=[.fn (.func 130) [] [gpV g,.pr (nx J) 0,.pr (nx J+1) 0]]) gr) ?_;refine G ?_;have hS:A0z g J (nx J+2) (nx J) (nx J+1) [] (((J.new (.cells [nS])).new (.cells [.nil .nilFunc])).set (nx J+1) (.cells [.fn (.func 130) [] [gpV g,.pr (nx J) 0,.pr (nx J+1) 0]])):=
  ⟨⟨_,gr,.nil⟩,gr,gr,gr⟩
 refine G2 ?_;refine O1 (lO hS.cl) ?_;refine G ?_;refine Az rfl rfl rfl rfl (f130 g J (nx J+2) (nx J) (nx J+1) Om Om Om hgr t [] _ hS gr) ?_;rintro _ U ⟨rfl,hS2,hnn⟩;obtain⟨w,hgb,bf⟩:=hS2.ex;refine G3 ?_;refine O1 (lO hgb) ?_;refine G3 ?_;exact⟨_,rfl,Af (Ayh g.rules t []),J,am_ hw ⟨ai_ Om hS2.nn,fun b hb=>hS2.lo b Om Om Om⟩,nl,bf.fz (fun _=>rfl) (fun a ha=>hw.none Om) (A2 D9 _),rfl,rfl⟩
def tabV(l:List Int):AV:=slV eI 1 l
theorem A1d:∀{l:List AV} {i:Nat} {v:AV},i<l.length->Et l i [v]=some (l.set i v)
 |[],i,v,h=>by simp at h
 |x::r,0,v,_=>by cases r<;>rfl
 |x::r,i+1,v,h=>by
  have:=A1d (l:=r) (i:=i) (v:=v) gr;simp only[Et,this,List.set_cons_succ]
def Aym(d:Db)(g:Gr)(n:Int)(b:List AV)(r:Nat):List AV:=[Af d.consts,Af d.vars,slV eF 8 d.frames,Af g.sorts,slV eR 4 g.rules,iV n]++b++[.mp r]
theorem A2z{d g n b r i v}(hb:b.length=5)(hi:i<5):Et (Aym d g n b r) (6+i) [v]=some (Aym d g n (b.set i v) r):=by
 have hl:([Af d.consts,Af d.vars,slV eF 8 d.frames,Af g.sorts,slV eR 4 g.rules,iV n]:List AV).length=6:=rfl
 rw[A1d (by simp only[Aym,bx_,hb,hl,fh_];omega)]
 congr 1
 unfold Aym
 grind
theorem Aze{d g n b r}:Cz 1 false ((Aym d g n b r).drop 5)=some (iV n):=rfl
theorem A2f{d g n b r}:Cz 2 true ((Aym d g n b r).drop 3)=some (grV g):=rfl
theorem A0n{d g n b r}(hb:b.length=5):Cz 1 false ((Aym d g n b r).drop 11)=some (.mp r):=by
 match b,hb with
 |[_,_,_,_,_],_=>rfl
def gdC(gd:List Int):List AV:=(List.range 5).map fun i=>.bool (gd.any fun x=>decide (x=Int.ofNat i))
theorem A4i{gd k}(hk:k<5):(gdC gd).set k (.bool true)=gdC (gd++[Int.ofNat k]):=by
 refine List.ext_getElem (by simp[gdC]) fun i h1 h2=>?_
 rw[List.getElem_set];unfold gdC at h1 h2⊢
 grind
structure Ayq (d:Db)(g:Gr)(n:Int)(gd:List Int)(tm:SM (List Int))(N a r:Nat)(J:Sto):Prop where
 cl:∃b,b.length=5/\J.get a=some (.cells (Aym d g n b r))/\b=gdC gd
 mp:B8 tabV J r tm
 na:N<=a
 nr:N<=r
 ar:a≠r
theorem Ayq.of_get{d g n gd tm N a r J U}(h:Ayq d g n gd tm N a r J)(ha:U.get a=J.get a)(hr:U.get r=J.get r):Ayq d g n gd tm N a r U:=by
 obtain⟨⟨b,h1,h2,h2e⟩,⟨ver,h3⟩,h4,h5,h6⟩:=h;exact⟨⟨b,h1,ha.trans h2,h2e⟩,⟨ver,hr.trans h3⟩,h4,h5,h6⟩
theorem f92(d:Db)(g:Gr)(n:Int)(l:List Int)(J:Sto)(hb:l.length<1000000)(hl:∀x∈l,0<=x/\x<5):Al Ew 92 [dbV d,grV g,iV n,slV eI 1 l] J fun v J'=>v=.pr (nx J+1) 0/\Ayq d g n l [] (nx J) (nx J+1) (nx J) J'/\Below (nx J) J J':=by
 refine Aj Tryz.func92 rfl rfl fun hw hu0=>?_
 refine G11 ?_;refine O1 (Gx Ae5) ?_;refine G ?_;refine O1 (Aqy ldC rfl rfl) ?_;rw[Ao];refine G10 ?_
 refine Bz l.length (fun i0=>[(9,.pr (nx J+1) 0),(18,slV eI 1 l),(19,iV (.ofNat l.length)),(20,iV (.ofNat i0))]) (fun i0 J0=>Ayq d g n (l.take i0) [] (nx J) (nx J+1) (nx J) J0/\Below (nx J) J J0) SL ⟨⟨⟨List.replicate 5 (.bool false),rfl,by rw[ag_,if_pos (Ao _ _).symm];rfl,rfl⟩,⟨0,by rw[ag_,if_neg gr,ag_,if_pos rfl];rfl⟩,by omega,nl,by omega⟩,⟨gr,gr⟩⟩ ?_
 rintro i0 J0 hi0 ⟨hS0,hB0⟩;refine G5 ?_;refine Ab rfl ?_ ?_<;>intro h1
 ·have bc:i0<l.length:=gr;obtain⟨a0,ha0⟩:=Ar bc;obtain⟨k,hk⟩:=Int.eq_ofNat_of_zero_le (hl a0 (ab_ ha0)).1
  have hk5:k<5:=by have:=(hl a0 (ab_ ha0)).2;omega
  have hkv:(iV a0)=.int .i64 (.ofNat k):=congrArg iV hk;obtain⟨bs,hbl,hbc,hbe⟩:=hS0.cl
  iterate 14 refine G ?_
  refine O1 (Bp (v:=.pr (nx J+1) (6+k*1)) A3v rfl (congrArg some hkv) hk5 rfl) (O1 (G1 (c:=[.bool true]) hbc ldC rfl rfl rfl (by rw[fr_];exact A2z hbl hk5)) ?_)
  refine G5 ?_
  refine⟨bc,SL,⟨⟨bs.set k (.bool true),gr,gr,by rw[hbe,A4i hk5,Fw ha0,hk];rfl⟩,(by obtain⟨ver,h9⟩:=hS0.mp;exact⟨ver,gr⟩),hS0.na,hS0.nr,hS0.ar⟩,⟨by rw[Aq];exact hB0.1,fun b hb=>by rw[aa_,if_neg Om];exact hB0.2 b hb⟩⟩
 ·have bj:l.length<=i0:=gr;refine Bo fun hw1=>?_
  refine G7 ?_
  exact⟨_,rfl,.pr (nx J+1) 0,_,a_ hw1 nl (fun _ _=>rfl),hB0.1,.same (Ce (by obtain⟨_,_,hbc,_⟩:=hS0.cl;exact(hw1 _ _ hbc).1)),rfl,gr,hB0⟩
theorem A4j{tm n f}{ks:List Ax}{i a}(h:ks[i]? =some a):atF n (evL tm n f (ks.take (i+1)))=atF n (evL tm n f (ks.take i))*n+evT tm n f a:=by
 rw[Fw h,Ay1,co_,←Ay1];exact A3e _ _ _
theorem A3j{n:Int}(hn:1<=n){i}:∀j,n ^ i<=n ^ (i+j)
 |0=>Int.le_refl _
 |j+1=>by
  have h1:=A3j hn (i:=i) j;have h2:n ^ (i+j)*1<=n ^ (i+j)*n:=Int.mul_le_mul_of_nonneg_left hn (Int.pow_nonneg Om)
  grind
theorem A42{g tm n f}(ht:A0w g tm n)(hf:∀s,0<=f s/\f s<n){s ks tab}(ho:okT g (.node s ks)=true)(hs:tm.get s=some tab){i}(hi:i<=ks.length):0<=atF n (evL tm n f (ks.take i))/\atF n (evL tm n f (ks.take i))<10001:=by
 obtain⟨r,h1,h2,h3⟩:=ht.key s tab hs
 have bl:Qw r=ks.length:=by
  unfold okT at ho
  grind
 have hn:=ht.n1
 obtain⟨k1,k2⟩:=A1n hn (evL tm n f (ks.take i)) fun v hv=>by
  rw[Ay1]at hv;obtain⟨k,hk,rfl⟩:=bt_.1 hv;exact Azb ht hf k (A08 ho k (cm_ hk))
 have hl:(evL tm n f (ks.take i)).length=i:=by rw[Ay1,cx_,cb_];omega
 rw[hl]at k2
 have h4:n ^ i<=n ^ Qw r:=by
  have:=A3j hn (i:=i) (Qw r-i)
  grind
 have h5:=ht.len s tab hs
 grind
def byM(vm:SM Int)(s:Str):Int:=(vm.get s).getD 0
def tabE(e:List Int×Option Nat):AV:=match e.2 with|none=>tabV e.1|some o=>.sr o 0 1 e.1.length (some e.1.length)
def emF(em:SM (List Int×Option Nat)):SM (List Int):=em.map fun p=>(p.1,p.2.1)
theorem A3k:∀(em:SM (List Int×Option Nat)) (s:Str),(emF em).get s=(em.get s).map (·.1)
 |[],_=>rfl
 |(k,v)::r,s=>by
  show SM.get ((k,v.1)::emF r) s=_
  unfold SM.get
  split
  ·rfl
  ·exact A3k r s
def LivS(J:Sto)(em:SM (List Int×Option Nat)):Prop:=∀p∈em,∀o,p.2.2=some o->J.get o=some (.cells (p.2.1.flatMap eI))
theorem SM.get_mem{α}:∀{m:SM α} {s:Str} {x:α},m.get s=some x->(s,x)∈m
 |[],_,_,h=>by cases h
 |(k,v)::r,s,x,h=>by
  unfold SM.get at h
  split at h
  ·grind
  ·exact aj_ _ (SM.get_mem h)
structure Ayj (d:Db)(g:Gr)(n:Int)(gd:List Int)(tm:SM (List Int))(N a r:Nat)(J:Sto):Prop where
 cl:∃b,b.length=5/\J.get a=some (.cells (Aym d g n b r))/\b=gdC gd
 mp:∃em,B8 tabE J r em/\emF em=tm/\LivS J em
theorem Ayj.rl{d g n gd tm N a r J}(h:Ayj d g n gd tm N a r J)(hw:WFS J):r<nx J:=by
 obtain⟨em,h1,_⟩:=h.mp;exact h1.lt hw
theorem Ayj.of_get{d g n gd tm N a r J U}(h:Ayj d g n gd tm N a r J)(hw:WFS J)(hg:∀b,b<nx J->U.get b=J.get b):Ayj d g n gd tm N a r U:=by
 obtain⟨⟨b,h1,h2,h2e⟩,em,h3,h4,h5⟩:=h
 exact⟨⟨b,h1,(hg a (hw _ _ h2).1).trans h2,h2e⟩,em,h3.of_get (hg r (h3.lt hw)),h4,fun p hp o ho=>by have:=h5 p hp o ho;exact(hg o (hw _ _ this).1).trans this⟩
theorem Ayq.g{d g n gd tm N a r J}(h:Ayq d g n gd tm N a r J):Ayj d g n gd tm N a r J:=by
 obtain⟨h1,⟨ver,h2⟩,_⟩:=h;refine⟨h1,tm.map fun p=>(p.1,(p.2,none)),⟨ver,?_⟩,?_,fun p hp o ho=>?_⟩
 ·rw[h2];unfold Cn;rw[List.map_map];rfl
 ·unfold emF;rw[List.map_map];exact List.map_id' tm
 grind
theorem f76n(d:Db)(g:Gr)(n:Int)(gd:List Int)(tm:SM (List Int))(vm:SM Int)(s:Str)(ks:List Ax)(N a r q:Nat)(J:Sto)(hS:Ayj d g n gd tm N a r J)(hv:B8 iV J q vm)(ht:A0w g.rules tm n)(h5:n<=5)(hf:∀s,0<=byM vm s/\byM vm s<n)(ho:okT g.rules (.node s ks)=true)(hb:ks.length<1000000)(ih:∀k∈ks,Cv 76 [.pr a 0,En k,.mp q] J (iV (evT tm n (byM vm) k))):Cv 76 [.pr a 0,En (.node s ks),.mp q] J (iV (evT tm n (byM vm) (.node s ks))):=by
 rw[Cg];obtain⟨bs,hbl,hbc,_⟩:=hS.cl;obtain⟨em,hem,hemE,hlv⟩:=hS.mp
 have heg:tm.get s=(em.get s).map (·.1):=by rw[←hemE];exact A3k em s
 refine Aj Tryz.func76 rfl rfl fun hw hu0=>?_
 refine G6 ?_;refine X0 ?_;refine G3 ?_;refine DF (E8 hbc ldC rfl (A0n hbl)) ?_;refine G2 ?_;refine DF (Ag1 st9 Ae5 rfl hem rfl) ?_;refine G6 ?_;refine⟨rfl,rfl,?_⟩;refine G6 ?_;refine Ab rfl ?_ ?_<;>intro h1
 ·have hs:tm.get s=none:=by
   rw[heg];cases hh:em.get s with
   |none=>rfl
   |some x=>rw[hh]at h1;simp at h1
  refine G5 ?_;refine O1 (W4 st9 Arn rfl hv rfl) ?_;refine G3 ?_
  refine⟨_,rfl,_,_,a_ hw nl (fun _ _=>rfl),nl,.same (by cases vm.get s<;>rfl),?_,rfl⟩
  rw[evT,hs];show _=iV (byM vm s);unfold byM;cases vm.get s<;>rfl
 ·obtain⟨⟨tab,p⟩,hes⟩:∃e,em.get s=some e:=by
   cases hh:em.get s with
   |none=>rw[hh]at h1;simp at h1
   |some x=>exact⟨x,rfl⟩
  have hs:tm.get s=some tab:=gr
  iterate 14 refine G ?_
  refine Bz ks.length (fun i0=>[(0,.pr a 0),(2,.mp q),(7,tabE (tab,p)),(9,iV (atF n (evL tm n (byM vm) (ks.take i0)))),(29,slV eT 2 ks),(30,iV (.ofNat ks.length)),(31,iV (.ofNat i0))]) (fun i0 J0=>J0=J) ⟨rfl,rfl,(show some (((em.get s).map tabE).getD nS)=some (tabE (tab,p)) by rw[hes];rfl),rfl,rfl,rfl,rfl,trivial⟩ rfl ?_
  rintro i0 J0 hi0 rfl;refine G5 ?_;refine Ab rfl ?_ ?_<;>intro h2
  ·have bc:i0<ks.length:=gr;obtain⟨a0,ha0⟩:=Ar bc;obtain⟨hr1,hr2⟩:=A42 ht hf ho hs hi0;obtain⟨hr3,hr4⟩:=Azb ht hf a0 (A08 ho a0 (ab_ ha0));have hn1:=ht.n1;have hm0:atF n (evL tm n (byM vm) (ks.take i0))*n<=10000*5:=Int.mul_le_mul Om h5 Om Om;have hm1:0<=atF n (evL tm n (byM vm) (ks.take i0))*n:=Int.mul_nonneg hr1 Om;have e9:=A4j (tm:=tm) (n:=n) (f:=byM vm) ha0;refine G5 ?_;refine O1 (A1 elC Dh rfl rfl ha0) (O1 (Ac ldC rfl rfl (A6 (Dh a0) _)) (Ho ziC ldC rfl (fun _=>rfl) rfl (A7 (Dh a0)) rfl rfl ?_))
   refine G ?_;refine XX 1 (l:=[(76,[.pr a 0,En a0,.mp q],J0,iV (evT tm n (byM vm) a0),J0)]) ⟨ih a0 (ab_ ha0),trivial⟩ ?_;refine G4 ?_;refine DF (E8 hbc ldC rfl Aze) (DF (Au0 okC rfl rfl Om Om) ?_);refine G4 ?_;refine DF (A0y okC rfl rfl Om Om) ?_;refine G2 ?_
   refine⟨(by intro e he;simp at he;rcases he with rfl|rfl<;>exact .refl),?_⟩
   refine G4 ?_;refine⟨bc,⟨rfl,rfl,rfl,congrArg (fun x=>some (iV x)) e9.symm,rfl,rfl,rfl,trivial⟩,rfl⟩
  ·have bj:ks.length<=i0:=gr;obtain⟨hq1,hq2⟩:=ev_at ht hf ho hs;obtain⟨x,hx⟩:=Ar hq2;have hxe:atF n (evL tm n (byM vm) (ks.take i0))=Int.ofNat (atF n (evL tm n (byM vm) ks)).toNat:=gr
   rcases p with _|o
   ·refine G5 ?_;refine O1 (A1 elC (fun _=>rfl) rfl (congrArg (fun x=>some (AV.int .i64 x)) hxe) hx) ?_
    refine G4 ?_;refine B4 hw rfl ?_;rw[evT,hs];simp only[hx];rfl
   ·have hlo:=hlv _ (SM.get_mem hes) o rfl;refine G5 ?_;refine O1 (Br elC rfl (congrArg (fun x=>some (AV.int .i64 x)) hxe) hq2) ?_
    refine O1 (Dg (enc:=eI) (l:=tab) (tl:=[]) (fun _=>rfl) ldC rfl gr hx (fun _=>rfl)) ?_
    refine G3 ?_;refine B4 hw rfl ?_;rw[evT,hs];simp only[hx];rfl
theorem f76(d g n gd tm vm N a r q J)(hS:Ayj d g n gd tm N a r J)(hv:B8 iV J q vm)(ht:A0w g.rules tm n)(h5:n<=5)(hf:∀s,0<=byM vm s/\byM vm s<n)(t):okT g.rules t=true->M6 t<=100000->Cv 76 [.pr a 0,En t,.mp q] J (iV (evT tm n (byM vm) t)):=by
 refine Ax.ind' (P:=fun t=>okT g.rules t=true->M6 t<=100000->Cv 76 [.pr a 0,En t,.mp q] J (iV (evT tm n (byM vm) t))) ?_ t
 intro s ks ih ho hb;have hlk:=Ajh ks
 have hc:1+Ach ks<=100000:=by unfold M6 at hb;exact hb
 refine f76n d g n gd tm vm s ks N a r q J hS hv ht h5 hf ho Om fun k hk=>ih k hk (A08 ho k hk) ?_
 have:=Azd hk;omega
theorem A3y{d}:(ofF d).1=zG∨Eb (ofF d).1=0:=by
 unfold ofF
 grind
theorem A20(d):GOk (ofF d).1:=by
 rcases A3y (d:=d)with h|h
 ·rw[h]
  exact⟨⟨fun r hr=>(by cases hr),fun r hr=>(by cases hr)⟩,dk_,fun r hr=>(by cases hr),by simp[zG],fun r hr=>(by cases hr)⟩
 ·exact Afh h
theorem A5p{te n l}(_:te.size=n)(h:te.isAgg=false):Je te (tabV l)=true:=by unfold tabV slV Je;rw[h];rfl
structure MdB (m:Ax9):Prop where
 d:m.des.length<1000000
 t:m.tabs.length<1000000
 v:∀t∈m.tabs,t.vals.length<1000000
theorem f71(d:Db)(m:Ax9)(J:Sto)(hD:DbB d)(hvf:d.vars.length+d.frames.length<1000000)(hM:MdB m):Al Ew 71 [dbV d,mdV m] J fun v J'=>(∃p,v=.tup [p,iV (Ayd (ofF d) m)]/\AV.und (nx J') p=true/\Below (nx J) J J'/\(Ayd (ofF d) m=0->p=.pr (nx J+1) 0/\Ayq d (ofF d).1 m.n m.des (Ayx (ofF d).1.rules m.n m.tabs).2 (nx J) (nx J+1) (nx J) J')):=by
 have hG:=A20 d;have hgl:=hG.len;have hMt:=hM.t;refine Aj Tryz.func71 rfl rfl fun hw hu0=>?_
 refine G10 ?_;refine Ca (f66 d _ hD hvf) ?_;refine G12 ?_;refine Ab rfl ?_ ?_<;>intro h1
 ·skip
  refine G6 ?_
  have hE:Ayd (ofF d) m=(ofF d).2:=by unfold Ayd;grind
  have hne:(ofF d).2≠(0:Int):=gr;refine G ?_
  exact⟨_,rfl,_,_,a_ hw nl (fun _ _=>rfl),nl,.same rfl,_,by rw[hE];rfl,rfl,fn_,fun h=>absurd (hE▸h) hne⟩
 ·have he1:(ofF d).2=0:=gr;refine G8 ?_;refine Ca (f90 m.n m.des _ hM.d) ?_;refine G7 ?_;refine Ab rfl ?_ ?_<;>intro h2
  ·skip
   refine G6 ?_
   have hE:Ayd (ofF d) m=A1c m.n m.des:=by unfold Ayd;grind
   have hne:A1c m.n m.des≠(0:Int):=gr;refine G ?_
   exact⟨_,rfl,_,_,a_ hw nl (fun _ _=>rfl),nl,.same rfl,_,by rw[hE];rfl,rfl,fn_,fun h=>absurd (hE▸h) hne⟩
  ·have he2:A1c m.n m.des=0:=gr;obtain⟨hn1,hn5,hnd⟩:=A3h he2;refine G9 ?_;refine Az rfl rfl rfl rfl (f92 d (ofF d).1 m.n m.des _ hM.d (fun x hx=>⟨(hnd x hx).1,gr⟩)) ?_
   rintro _ U ⟨rfl,hS,hB⟩;refine G11 ?_;refine Bz m.tabs.length (fun i0=>[(3,.pv [iV m.n,slV eI 1 m.des,slV eTb 2 m.tabs]),(6,.pv [Af (ofF d).1.sorts,slV eR 4 (ofF d).1.rules]),(9,.pr (nx J+1) 0),(40,slV eTb 2 m.tabs),(41,iV (.ofNat m.tabs.length)),(42,iV (.ofNat i0))]) (fun i0 J0=>∃tm,Ayq d (ofF d).1 m.n m.des tm (nx J) (nx J+1) (nx J) J0/\Below (nx J) J J0/\Ay2 (ofF d).1.rules m.n m.tabs []=Ay2 (ofF d).1.rules m.n (m.tabs.drop i0) tm) SL ⟨[],hS,hB,rfl⟩ ?_
   rintro i0 J0 hi0 ⟨tm,hS0,hB0,hf0⟩;refine G5 ?_;refine Ab rfl ?_ ?_<;>intro h3
   ·have bc:i0<m.tabs.length:=gr;obtain⟨a0,ha0⟩:=Ar bc;have hd0:=A4 ha0;obtain⟨bs,hbl,hbc,hbe⟩:=hS0.cl;have hav:=hM.v a0 (ab_ ha0)
    obtain⟨r,hrA,hrN⟩:∃r:Rl,(0<=A5 (fun r=>decide (r.label=a0.label)) (ofF d).1.rules 0->∃n,A5 (fun r=>decide (r.label=a0.label)) (ofF d).1.rules 0=Int.ofNat n/\(ofF d).1.rules[n]? =some r/\F4 (ofF d).1.rules a0.label=some r)/\(A5 (fun r=>decide (r.label=a0.label)) (ofF d).1.rules 0<0->F4 (ofF d).1.rules a0.label=none):=by
     rcases L9 (l:=(ofF d).1.rules) (s:=a0.label)with⟨e1,e2⟩|⟨n,r,e1,e2,e3⟩
     ·exact⟨⟨[],[],[],false⟩,fun h=>absurd (e1▸h) (by decide),fun _=>e2⟩
     ·exact⟨r,fun _=>⟨n,e1,e2,e3⟩,gr⟩
    rw[hd0,Ay2]at hf0
    iterate 14 refine G ?_
    refine Ca (f126 (ofF d).1 a0.label _ Om) ?_;refine G4 ?_;refine X0 ?_;refine G3 ?_;refine DF (E8 hbc ldC rfl (A0n hbl)) ?_;refine G2 ?_;refine DF (Ag1 st9 Ae5 rfl hS0.mp rfl) ?_;refine G6 ?_;refine⟨rfl,rfl,?_⟩;refine G5 ?_;refine TOr 6 ?_ (fun hg=>?_) ?_
    rotate_left
    ·obtain⟨n,hFn,hrn,_⟩:=hrA gr
     iterate 3 refine Gn hg ?_
     refine On hg (A1 (i:=n) elC (fun _=>rfl) rfl (congrArg (fun x=>some (AV.int .i64 x)) hFn) hrn) ?_
     iterate 2 refine Gn hg ?_
     exact Ez
    refine G ?_;refine TOr 1 ?_ (fun hg=>?_) ?_
    rotate_left
    ·refine Gn hg ?_;exact Ez
    refine G ?_;refine Ab rfl ?_ ?_<;>intro h4
    ·refine Bo fun hw1=>?_
     have hT:Ay2 (ofF d).1.rules m.n m.tabs []=(360,tm):=gr;refine G5 ?_
     have hE:Ayd (ofF d) m=360:=by unfold Ayd;rw[if_pos he1,if_pos he2];unfold Ayx;grind
     have hne:360≠(0:Int):=by decide
     refine G ?_
     exact⟨_,rfl,_,_,a_ hw1 nl (fun _ _=>rfl),hB0.1,.same rfl,_,by rw[hE];rfl,rfl,hB0,fun h=>absurd (hE▸h) hne⟩
    ·have h4':((decide (A5 (fun r=>decide (r.label=a0.label)) (ofF d).1.rules 0<0)||r.var)||(tm.get a0.label).isSome)=false:=h4
     simp only[bv_]at h4';have hF:¬A5 (fun r=>decide (r.label=a0.label)) (ofF d).1.rules 0<0:=of_decide_eq_false h4'.1.1
     obtain⟨n,hFn,hrn,hro⟩:=hrA Om;have hrp:=hG.prt r (ab_ hrn);have hna:Qw r<=r.parts.length:=ee_ _ _;rw[hro]at hf0;simp only at hf0;rw[if_neg gr]at hf0;refine G2 ?_;refine XX 1 (l:=[(95,[.agg (eR r)],J0,iV (.ofNat (Qw r)),J0),(94,[iV m.n,iV (.ofNat (Qw r)),iV 10000],J0,iV (Ayi m.n 10000 (Qw r) 1),J0)]) ⟨f95 r _ Om,f94 m.n (Qw r) _ hn1 hn5 Om,trivial⟩ ?_;refine G5 ?_;refine DF (A1 (i:=n) elC (fun _=>rfl) rfl (congrArg (fun x=>some (AV.int .i64 x)) hFn) hrn) ?_
     refine DF (Ac ldC rfl rfl (A6 (Qy r) _)) ?_;refine G ?_
     refine DT (Bq rfl rfl (Dw (by decide) Bv)) ?_
     refine G2 ?_
     refine⟨(by intro e he;simp at he;rcases he with rfl|rfl|rfl<;>exact .refl),?_⟩
     refine G6 ?_;refine Ab rfl ?_ ?_<;>intro h5
     ·refine Bo fun hw1=>?_
      rw[if_pos h5]at hf0;refine G5 ?_
      have hE:Ayd (ofF d) m=4:=by unfold Ayd;rw[if_pos he1,if_pos he2];unfold Ayx;grind
      have hne:4≠(0:Int):=by decide
      refine G ?_
      exact⟨_,rfl,_,_,a_ hw1 nl (fun _ _=>rfl),hB0.1,.same rfl,_,by rw[hE];rfl,rfl,hB0,fun h=>absurd (hE▸h) hne⟩
     ·rw[if_neg gr]at hf0;refine G10 ?_;refine TOr 4 ?_ (fun hg=>?_) ?_
      rotate_left
      ·iterate 3 refine Gn hg ?_
       refine Bh rfl rfl rfl (by rw[hg];rfl) rfl rfl rfl rfl (f127 (fun v=>decide (v<0)||decide (m.n<=v)) a0.vals 128 [.pv [iV m.n,slV eI 1 m.des,slV eTb 2 m.tabs]] _ Om (fun a _=>f128 a m _)) ?_
       exact Ez
      refine G ?_;refine Ab rfl ?_ ?_<;>intro h6
      ·refine Bo fun hw1=>?_
       have h6':(!decide (Int.ofNat a0.vals.length=Ayi m.n 10000 (Qw r) 1)||a0.vals.any fun v=>decide (v<0)||decide (m.n<=v))=true:=h6
       rw[if_pos h6']at hf0;refine G5 ?_
       have hE:Ayd (ofF d) m=360:=by unfold Ayd;rw[if_pos he1,if_pos he2];unfold Ayx;grind
       have hne:360≠(0:Int):=by decide
       refine G ?_
       exact⟨_,rfl,_,_,a_ hw1 nl (fun _ _=>rfl),hB0.1,.same rfl,_,by rw[hE];rfl,rfl,hB0,fun h=>absurd (hE▸h) hne⟩
      ·have h6':(!decide (Int.ofNat a0.vals.length=Ayi m.n 10000 (Qw r) 1)||a0.vals.any fun v=>decide (v<0)||decide (m.n<=v))=false:=h6
       obtain⟨vm,hvm⟩:=id hS0.mp;refine G ?_;refine XS (l:=[]) trivial ?_;refine G3 ?_;refine DF (E8 hbc ldC rfl (A0n hbl)) ?_;refine G4 ?_
       refine DT (Gh (v:=a0.vals) st9 Ae5 rfl hvm rfl rfl (fun te k1 k2=>by first|exact A5p k1 k2|exact I0 k1 k2|exact I1 k1 k2|exact I2 k1 k2|exact Jn k1 k2|exact H6 k1 k2 rfl)) ?_
       refine G5 ?_
       refine⟨bc,SL,tm.put a0.label a0.vals,⟨⟨bs,hbl,gr,hbe⟩,dz_,hS0.na,hS0.nr,hS0.ar⟩,⟨by rw[Aq];exact hB0.1,fun b hb=>by rw[aa_,if_neg Om];exact hB0.2 b hb⟩,gr⟩
   ·have bj:m.tabs.length<=i0:=gr;obtain⟨bs,hbl,hbc,hbe⟩:=hS0.cl
    have hT:Ay2 (ofF d).1.rules m.n m.tabs []=(0,tm):=by rw[hf0,ah_ bj];rfl
    refine G3 ?_;refine XS (l:=[(93,[grV (ofF d).1],J0,slV eR 4 (axR (ofF d).1.rules),J0)]) ⟨f93 (ofF d).1 _ Om,trivial⟩ ?_;refine G3 ?_;refine DF (E8 hbc ldC rfl (A0n hbl)) (DF (Aul Ae5 rfl hS0.mp) ?_);refine G5 ?_;refine Ab rfl ?_ ?_<;>intro h4
    ·refine Bo fun hw1=>?_
     have hL:¬tm.length=(axR (ofF d).1.rules).length:=gr;refine G5 ?_
     have hE:Ayd (ofF d) m=360:=by unfold Ayd;rw[if_pos he1,if_pos he2];unfold Ayx;grind
     have hne:360≠(0:Int):=by decide
     refine G ?_
     exact⟨_,rfl,_,_,a_ hw1 nl (fun _ _=>rfl),hB0.1,.same rfl,_,by rw[hE];rfl,rfl,hB0,fun h=>absurd (hE▸h) hne⟩
    ·refine Bo fun hw1=>?_
     have hL:tm.length=(axR (ofF d).1.rules).length:=gr;refine G7 ?_
     have hO:Ayx (ofF d).1.rules m.n m.tabs=(0,tm):=by unfold Ayx;grind
     have hE:Ayd (ofF d) m=0:=by unfold Ayd;grind
     refine G ?_
     exact⟨_,rfl,_,_,a_ hw1 nl (fun _ _=>rfl),hB0.1,.same (by show(AV.und (nx J0) (.pr (nx J+1) 0)&&(true&&true))=true;rw[show AV.und (nx J0) (.pr (nx J+1) 0)=true from Ce (hw1 _ _ hbc).1];rfl),.pr (nx J+1) 0,by rw[hE];rfl,Ce (hw1 _ _ hbc).1,hB0,fun _=>⟨rfl,gr⟩⟩
theorem A1q{l s}:(A5 (fun x=>decide (x.var=s)) l 0= -1/\Ayw l s=none)∨∃n x,A5 (fun x=>decide (x.var=s)) l 0=Int.ofNat n/\l[n]? =some x/\Ayw l s=some x.val:=by
 have key:∀(l:List Ayb) (i:Nat),(A5 (fun r=>decide (r.var=s)) l i= -1/\Ayw l s=none)∨∃n r,A5 (fun r=>decide (r.var=s)) l i=Int.ofNat (i+n)/\l[n]? =some r/\Ayw l s=some r.val:=by
  intro l
  induction l with
  |nil=>intro i;exact .inl ⟨rfl,rfl⟩
  |cons r l ih=>
   intro i;unfold A5 Ayw;rw[List.find?_cons]
   by_cases h:r.var=s
   ·grind
   ·rw[decide_eq_false h]
    rcases ih (i+1)with⟨h1,h2⟩|⟨n,x,h1,h2,h3⟩
    ·exact .inl ⟨h1,h2⟩
    ·exact .inr ⟨n+1,x,gr,h2,h3⟩
 grind
def tmO(d:Db)(m:Ax9):SM (List Int):=(Ayx (ofF d).1.rules m.n m.tabs).2
def Ayp(d:Db)(m:Ax9)(t:Ax)(l:List Ayb):Int:=if Ayd (ofF d) m=0 then(if Ay8 d t=0 then valE (ofF d).1.rules m.n l t else Ay8 d t)else Ayd (ofF d) m
def Ay3(d:Db)(m:Ax9)(t:Ax)(l:List Ayb):Int:=if Ayp d m t l=0 then evE (ofF d).1.rules (tmO d m) m.n l t else 0
theorem Ayu{d m}(h:Ayd (ofF d) m=0):1<=m.n/\m.n<=5/\A0w (ofF d).1.rules (tmO d m) m.n:=by
 unfold Ayd at h
 split at h
 ·split at h
  ·rename_i h1 h2
   obtain⟨a,b,_⟩:=A3h h2;exact⟨a,b,A36 a h⟩
  grind
 grind
theorem A43{d t}(h:Ay8 d t=0):okT (ofF d).1.rules t=true:=by
 unfold Ay8 at h
 split at h
 ·unfold A06 at h
  split at h
  ·rename_i h2;exact A3d (A20 d).rs t h2
  ·cases h
 grind
structure A3z (l:List Ayb)(vs:List Str)(n:Int)(vm:SM Int):Prop where
 get:∀s,vm.get s=if s∈vs then Ayw l s else none
theorem A3z.put{l vs n vm}(h:A3z l vs n vm){s v}(hv:Ayw l s=some v):A3z l (vs++[s]) n (vm.put s v):=⟨fun x=>by
 rw[ch_,h.get]
 grind⟩
theorem A3z.by{l vs n vm}(h:A3z l vs n vm):byM vm=byF vs l:=by
 funext s
 unfold byM byF;rw[h.get]
 split<;>rfl
theorem f27(d:Db)(m:Ax9)(t:Ax)(l:List Ayb)(J:Sto)(hD:DbB d)(hvf:d.vars.length+d.frames.length<1000000)(hM:MdB m)(hb:M6 t<=4000)(hh:hT t<=100)(hl:l.length<1000000):Cv 27 [dbV d,mdV m,En t,slV eVl 2 l] J (.tup [iV (Ay3 d m t l),iV (Ayp d m t l)]):=by
 have hG:=A20 d;have hgl:=hG.len;have hvl:=A00 (g:=(ofF d).1.rules) t [];simp only[cu_,bn_]at hvl;refine Aj Tryz.func27 rfl rfl fun hw hu0=>?_
 refine G12 ?_;refine Az rfl rfl rfl rfl (f71 d m _ hD hvf hM) ?_;rintro _ U ⟨p,rfl,_,cb,hW⟩;refine G12 ?_;refine Ab rfl ?_ ?_<;>intro h1
 ·have hO:¬Ayd (ofF d) m=0:=gr;refine G6 ?_
  have hE:Ayp d m t l=(Ayd (ofF d) m):=by unfold Ayp;rw[if_neg hO]
  have hne:(Ayd (ofF d) m)≠(0:Int):=hO;refine G ?_
  exact⟨_,rfl,_,J,am_ hw cb,nl,.same rfl,(by unfold Ay3;rw[hE,if_neg hne];rfl),rfl⟩
 ·have hO:Ayd (ofF d) m=0:=gr;obtain⟨rfl,hS⟩:=hW hO;obtain⟨hn1,hn5,htm⟩:=Ayu hO;refine G6 ?_;refine Ca (f72 d t _ hD hvf hb hh) ?_;refine G11 ?_;refine Ab rfl ?_ ?_<;>intro h2
  ·have hC:¬Ay8 d t=0:=gr;refine G6 ?_
   have hE:Ayp d m t l=(Ay8 d t):=by unfold Ayp;grind
   have hne:(Ay8 d t)≠(0:Int):=hC;refine G ?_
   exact⟨_,rfl,_,J,am_ hw cb,nl,.same rfl,(by unfold Ay3;rw[hE,if_neg hne];rfl),rfl⟩
  ·have hC:Ay8 d t=0:=gr;have hok:=A43 hC;refine Bo fun hwt=>?_
   obtain⟨bs,hbl,hbc',hbe⟩:=hS.cl;have hlta:=(hwt _ _ hbc').1;have hSm:Ayq d (ofF d).1 m.n m.des (tmO d m) (nx J) (nx J+1) (nx J) (U.new (.map 9 [] 0)):=hS.of_get gr gr;have hbc:(U.new (.map 9 [] 0)).get (nx J+1)=some (.cells (Aym d (ofF d).1 m.n bs (nx J))):=gr
   have hbm:Below (nx J) J (U.new (.map 9 [] 0)):=⟨gr,fun b hb=>by rw[ag_,if_neg Om];exact cb.2 b hb⟩
   refine G3 ?_;refine O1 (Gx Arn) ?_;refine G4 ?_;refine XS (l:=[(73,[grV (ofF d).1,En t],U.new (.map 9 [] 0),Af (Ayh (ofF d).1.rules t []),U.new (.map 9 [] 0))]) ⟨f73 (ofF d).1 t _ Om Om,trivial⟩ ?_;refine G3 ?_;refine DF (E8 hbc ldC rfl A2f) ?_;refine G6 ?_
   refine Bz (Ayh (ofF d).1.rules t []).length (fun i0=>[(3,slV eVl 2 l),(6,.pv (eT t)),(10,.pr (nx J+1) 0),(14,.mp (nx U)),(42,Af (Ayh (ofF d).1.rules t [])),(43,iV (.ofNat (Ayh (ofF d).1.rules t []).length)),(44,iV (.ofNat i0))]) (fun i0 J0=>∃vm,B8 iV J0 (nx U) vm/\Ayq d (ofF d).1 m.n m.des (tmO d m) (nx J) (nx J+1) (nx J) J0/\Below (nx J) J J0/\A3z l ((Ayh (ofF d).1.rules t []).take i0) m.n vm/\Az8 m.n l (Ayh (ofF d).1.rules t [])=Az8 m.n l ((Ayh (ofF d).1.rules t []).drop i0)) SL ⟨[],⟨0,by rw[ag_,if_pos rfl];rfl⟩,hSm,hbm,⟨fun s=>rfl⟩,rfl⟩ ?_
   rintro i0 J0 hi0 ⟨vm,hm0,hS0,hB0,hv0,hf0⟩;refine G5 ?_;refine Ab rfl ?_ ?_<;>intro h3
   ·have bc:i0<(Ayh (ofF d).1.rules t []).length:=gr;obtain⟨a0,ha0⟩:=Ar bc;have hd0:=A4 ha0;obtain⟨bs0,hbl0,hbc0,hbe⟩:=hS0.cl;obtain⟨ver,hvm⟩:=id hm0;rw[hd0,Az8]at hf0
    iterate 13 refine G ?_
    refine Ca (f74 (fun x=>decide (x.var=a0)) l 75 [.pv [sV a0]] _ Om (fun x _=>f75 x a0 _)) ?_
    refine G10 ?_;refine Ab rfl ?_ ?_<;>intro h4
    ·have e2:Ayw l a0=none:=by
      rcases A1q (l:=l) (s:=a0)with⟨_,e⟩|⟨n,x,e1,_⟩
      ·exact e
      grind
     rw[e2]at hf0;refine G5 ?_
     have hE:Ayp d m t l=5:=by unfold Ayp;rw[if_pos hO,if_pos hC];exact hf0
     have hne:5≠(0:Int):=by decide
     refine G ?_
     exact⟨_,rfl,_,J,am_ hw hB0,nl,.same rfl,(by unfold Ay3;rw[hE,if_neg hne];rfl),rfl⟩
    ·obtain⟨n,x,e1,e2,e3⟩:∃n x,A5 (fun x=>decide (x.var=a0)) l 0=Int.ofNat n/\l[n]? =some x/\Ayw l a0=some x.val:=by
      rcases A1q (l:=l) (s:=a0)with⟨e1,_⟩|h
      ·grind
      ·exact h
     rw[e3]at hf0;simp only at hf0
     refine Gg [(54,.bool (decide (x.val<0)||decide (m.n<=x.val)))] ?_ ?_
     ·rcases av_ (decide (x.val<0))with hg6|hg6
      ·refine X0 ?_;refine G2 ?_;refine DF (A1 (i:=n) elC (fun _=>rfl) rfl (congrArg (fun x=>some (AV.int .i64 x)) e1) e2) ?_
       iterate 17 refine G ?_
       exact⟨rfl,rfl,⟨⟨Cb,trivial⟩,sb,rfl⟩⟩
      ·refine X0 ?_;refine G2 ?_;refine DF (A1 (i:=n) elC (fun _=>rfl) rfl (congrArg (fun x=>some (AV.int .i64 x)) e1) e2) ?_
       refine G6 ?_;refine Xn (A1 (i:=n) elC (fun _=>rfl) rfl (congrArg (fun x=>some (AV.int .i64 x)) e1) e2) ?_
       refine G5 ?_;refine Wn (w:=R1 hg6) (E8 hbc0 ldC rfl Aze) (Wn (w:=R1 hg6) (Agq okC rfl rfl) (DF (Au rfl (R1 hg6) rfl) (DF (Gd rfl) (C1 ?_))));exact⟨rfl,rfl,⟨⟨congrArg (fun b=>some (AV.bool b)) (R1 hg6),trivial⟩,sb,rfl⟩⟩
     refine Ab rfl ?_ ?_<;>intro h5
     ·rw[if_pos h5]at hf0;refine G5 ?_
      have hE:Ayp d m t l=3:=by unfold Ayp;rw[if_pos hO,if_pos hC];exact hf0
      have hne:3≠(0:Int):=by decide
      refine G ?_
      exact⟨_,rfl,_,J,am_ hw hB0,nl,.same rfl,(by unfold Ay3;rw[hE,if_neg hne];rfl),rfl⟩
     ·skip
      refine G ?_;refine XS (l:=[]) trivial ?_;refine G4 ?_;refine DF (A1 (i:=n) elC (fun _=>rfl) rfl (congrArg (fun x=>some (AV.int .i64 x)) e1) e2) ?_
      refine G2 ?_
      refine DT (Gh (v:=x.val) st9 Arn rfl hvm rfl rfl (fun te k1 k2=>by first|exact I0 k1 k2|exact I1 k1 k2|exact I2 k1 k2|exact Jn k1 k2|exact H6 k1 k2 rfl)) ?_
      refine G5 ?_
      refine⟨bc,SL,vm.put a0 x.val,dz_,hS0.of_get gr gr,⟨by rw[Aq];exact hB0.1,fun b hb=>by rw[aa_,if_neg Om];exact hB0.2 b hb⟩,(by rw[Fw ha0];exact hv0.put e3),gr⟩
   ·have bj:(Ayh (ofF d).1.rules t []).length<=i0:=gr;rw[at_ bj]at hv0
    have hV0:Az8 m.n l (Ayh (ofF d).1.rules t [])=0:=by rw[hf0,ah_ bj];rfl
    have hby:=hv0.by
    have hfr:∀s,0<=byM vm s/\byM vm s<m.n:=fun s=>by rw[hby];exact A3t hn1 hV0 s
    refine G6 ?_;refine Ca (f76 d (ofF d).1 m.n m.des (tmO d m) vm (nx J) (nx J+1) (nx J) (nx U) _ hS0.g hm0 htm hn5 hfr t hok Om) ?_;refine G3 ?_
    have hE:Ayp d m t l=0:=by unfold Ayp;rw[if_pos hO,if_pos hC];exact hV0
    refine G ?_
    exact⟨_,rfl,_,J,am_ hw hB0,nl,.same rfl,(by unfold Ay3;rw[if_pos hE,hE,hby];rfl),rfl⟩
theorem f134(l J):Cv 134 [Af l] J (.bool (Nv l)):=by
 refine Aj Tryz.func134 rfl rfl fun hw hu0=>?_
 refine G4 ?_;cases l with
 |nil=>
  refine G6 ?_;refine Co rfl rfl rfl rfl rfl rfl (Co rfl rfl rfl rfl rfl rfl (Co rfl rfl rfl rfl rfl rfl (Co rfl rfl rfl rfl rfl rfl (O1 (Au rfl rfl rfl) ?_))));refine G3 ?_;exact⟨_,rfl,_,_,a_ hw nl (fun _ _=>rfl),nl,.same rfl,rfl,rfl⟩
 |cons a l=>
  have hgt:decide ((0:Int)<Int.ofNat (a::l).length)=true:=decide_eq_true gr;refine G5 ?_;rw[hgt];refine G ?_;refine Bi rfl rfl rfl rfl rfl noR rfl rfl (Ag rfl) (Bi rfl rfl rfl rfl rfl noR rfl rfl (A1 (i:=0) elC (fun _=>rfl) rfl rfl rfl) ?_)
  refine Bi rfl rfl rfl rfl rfl noR rfl rfl (Ac ldC rfl rfl rfl) (Bi rfl rfl rfl rfl rfl noR rfl rfl (H5 (q:=[124,45]) okC rfl rfl) (O1 (A3 rfl rfl rfl) ?_));refine G3 ?_
  exact⟨_,rfl,_,_,a_ hw nl (fun _ _=>rfl),nl,.same rfl,(by unfold Nv;rw[List.getElem?_cons_zero];simp;rfl),rfl⟩
theorem f94g(mo n k J)(g0:1<=mo)(g9:mo<=100000)(g1:1<=n)(h5:n<=5)(hk:k<1000000):Cv 94 [iV n,iV (.ofNat k),iV mo] J (iV (Ayi n mo k 1)):=by
 refine Aj Tryz.func94 rfl rfl fun hw hu0=>?_
 iterate 15 refine G ?_
 refine Bz k (fun i0=>[(0,iV n),(2,iV mo),(7,iV (n ^ i0)),(8,iV (.ofNat k)),(9,iV (.ofNat i0))]) (fun i0 J0=>J0=J/\n ^ i0<=mo/\Ayi n mo k 1=Ayi n mo (k-i0) (n ^ i0)) ⟨rfl,rfl,congrArg (fun x=>some (iV x)) (Int.pow_zero n).symm,rfl,rfl,trivial⟩ ⟨rfl,gr,gr⟩ ?_
 rintro i0 J0 hi0 ⟨rfl,hp0,hf0⟩;refine G5 ?_;refine Ab rfl ?_ ?_<;>intro h1
 ·have bc:i0<k:=gr;have hn0:0<=n ^ i0:=Int.pow_nonneg Om;have hm0:n ^ i0*n<=mo*5:=Int.mul_le_mul hp0 h5 Om Om;have hm1:0<=n ^ i0*n:=Int.mul_nonneg hn0 Om
  rw[show k-i0=(k-(i0+1))+1 by omega,Ayi]at hf0
  refine G7 ?_;refine O1 (Au0 okC rfl rfl Om Om) ?_;refine G8 ?_;refine Ab rfl ?_ ?_<;>intro h2
  ·skip
   refine G3 ?_;refine O1 (A0y (p:=mo) (q:=1) okC rfl rfl Om Om) ?_;refine G3 ?_;refine B4 hw rfl ?_;rw[hf0,if_pos h2];rfl
  ·skip
   refine G5 ?_;refine⟨bc,⟨rfl,rfl,congrArg (fun x=>some (iV x)) (Int.pow_succ n i0).symm,rfl,rfl,trivial⟩,rfl,gr,gr⟩
 ·have bj:k<=i0:=gr;refine G7 ?_;refine B4 hw rfl ?_
  rw[hf0,show k-i0=0 by omega,Ayi];rfl
def Aye(vars:List Str)(m:SM Int):List Ayb:=vars.map fun v=>⟨v,byM m v⟩
theorem A1z{m s}:((m.get s).map iV).getD (.int .i64 0)=iV (byM m s):=by unfold byM;cases m.get s<;>rfl
theorem f133{vars m q J}(hm:B8 iV J q m)(hb:vars.length<1000000):Cv 133 [Af vars,.mp q] J (slV eVl 2 (Aye vars m)):=by
 refine Aj Tryz.func133 rfl rfl fun hw hu0=>?_
 have hq:=hm.lt hw
 iterate 16 refine G ?_
 refine Ci (fun x:Nat×AV=>[(1,.mp q),(5,x.2),(8,Af vars),(9,nV vars.length),(10,nV x.1)]) (fun x J0=>x.1<=vars.length/\Own J0 (nx J) eVl 2 (Aye (vars.take x.1) m) x.2/\Below (nx J) J J0) (fun x=>vars.length-x.1) (0,nS) SL ⟨aq_ _,.nil,⟨nl,fun _ _=>rfl⟩⟩ ?_
 rintro⟨i0,v0⟩ J0 ⟨hi0,bf,n0,g0⟩;have bf:Own J0 (nx J) eVl 2 (Aye (vars.take i0) m) v0:=bf
 have hvl:(Aye (vars.take i0) m).length<=1000000:=by unfold Aye;grind
 refine G5 ?_;refine Ab rfl ?_ ?_<;>intro h1
 ·have bc:i0<vars.length:=Int.ofNat_lt.1 (of_decide_eq_true h1);obtain⟨s,hs⟩:=Ar bc
  obtain⟨J1,hap,n1,cn,g1⟩:=dn_ (enc:=eVl) (sz:=2) (by':=24) (fun _=>rfl) n0 bf ⟨s,byM m s⟩ (by simp only[sizeLim];omega)
  have htk:Aye (vars.take (i0+1)) m=Aye (vars.take i0) m++[⟨s,byM m s⟩]:=by unfold Aye;rw[Fw hs,co_];rfl
  iterate 14 refine G ?_
  refine O1 (Ahh (u:=iV (byM m s)) st9 Arn rfl (hm.of_get (g0 _ hq)) rfl A1z) ?_;refine G ?_;refine Cx (Ai elC byW rfl rfl rfl) (Dv (len:=1)) rfl rfl (O1 (Av elC rfl slC rfl rfl rfl (new:=eVl ⟨s,byM m s⟩) rfl hap) ?_);refine G6 ?_
  exact⟨(i0+1,_),gr,SL,gr,gr,by omega,fun b hb=>(g1 b Om (fun e=>by have:=(bf.adr_lt e).1;omega)).trans (g0 b hb)⟩
 ·have bj:vars.length<=i0:=bm_.1 (Int.not_lt.1 (fun q=>of_decide_eq_false h1 q))
  rw[at_ bj]at bf;refine G7 ?_;exact⟨_,rfl,_,J,am_ hw ⟨n0,g0⟩,nl,bf.fz (enc:=eVl) (fun _=>rfl) (fun a ha=>hw.none ha) (A2 (fun _=>rfl) _),rfl,rfl⟩
def fn165(vars:List Str)(a:Nat):AV:=.fn (.func 165) [] [.pv [Af vars],.pv [.pr a 0]]
theorem f131{vars a J}(ha:a<nx J):Cv 131 [.pr a 0,Af vars] J (fn165 vars a):=by
 refine Aj Tryz.func131 rfl rfl fun hw hu0=>?_
 refine G12 ?_
 exact⟨_,rfl,_,_,a_ hw nl (fun _ _=>rfl),nl,.same (by
  have h1:AV.und (nx J) (Af vars)=true:=A2 D9 _
  show(true&&((AV.und (nx J) (Af vars)&&true)&&((Nat.blt a (nx J)&&true)&&true)))=true
  rw[h1,Ce ha];rfl),rfl,rfl⟩
def A0a(n:Int):List Str->SM Int->Option (SM Int)
 |[],_=>none
 |v::r,m=>if byM m v+1<n then some (m.put v (byM m v+1))else A0a n r ((m.put v (byM m v+1)).put v 0)
def VR(n:Int)(m:SM Int):Prop:=∀s,0<=byM m s/\byM m s<n
def Ay7(n:Int):List Str->SM Int->Int
 |[],_=>0
 |v::r,m=>byM m v+n*Ay7 n r m
def Ayy(vars:List Str):SM Int:=vars.foldl (fun m v=>m.put v 0) []
inductive Run (n:Int)(rv:List Str)(bad:SM Int->Bool):SM Int->Option (SM Int)->Prop
 |hit {m}:bad m=true->Run n rv bad m (some m)
 |done {m}:bad m=false->A0a n rv m=none->Run n rv bad m none
 |step {m m' o}:bad m=false->A0a n rv m=some m'->Run n rv bad m' o->Run n rv bad m o
theorem Ayn{m s t x}:byM (m.put s x) t=if t=s then x else byM m t:=by
 unfold byM;rw[ch_];split<;>rfl
theorem VR.put{n m}(h:VR n m){s x}(h0:0<=x)(h1:x<n):VR n (m.put s x):=fun t=>by
 rw[Ayn];split
 ·grind
 ·exact h t
theorem A0o{n s x m}:∀{r:List Str},s∉r->Ay7 n r (m.put s x)=Ay7 n r m
 |[],_=>rfl
 |v::r,h=>by
  rw[an_,not_or]at h;rw[Ay7,Ay7,A0o h.2,Ayn,if_neg (gx_ h.1)]
theorem A0p{n}:∀{r:List Str} {m m':SM Int},r.Nodup->VR n m->A0a n r m=some m'->VR n m'/\Ay7 n r m'=Ay7 n r m+1
 |[],_,_,_,_,h=>by cases h
 |v::r,m,m',hd,hr,h=>by
  have hd:=ed_.1 hd;have hv:=hr v;unfold A0a at h
  split at h
  ·rename_i h1
   cases h;refine⟨hr.put Om h1,?_⟩;rw[Ay7,Ay7,A0o hd.1,Ayn,if_pos rfl];omega
  ·rename_i h1
   have hr2:VR n ((m.put v (byM m v+1)).put v 0):=fun t=>by
    rw[Ayn];split
    ·omega
    ·rename_i ht;rw[Ayn,if_neg ht];exact hr t
   obtain⟨h2,h3⟩:=A0p hd.2 hr2 h;refine⟨h2,?_⟩
   have h4:byM m' v=0:=advI_keep hd.1 h▸(by rw[Ayn,if_pos rfl])
   rw[Ay7,Ay7,h3,A0o hd.1,A0o hd.1,h4]
   grind
 where
 advI_keep {n:Int} {s:Str}:∀{r:List Str} {m m':SM Int},s∉r->A0a n r m=some m'->byM m' s=byM m s
 |[],_,_,_,h=>by cases h
 |v::r,m,m',hs,h=>by
  rw[an_,not_or]at hs;unfold A0a at h
  split at h
  ·cases h;rw[Ayn,if_neg hs.1]
  ·rw[advI_keep hs.2 h,Ayn,if_neg hs.1,Ayn,if_neg hs.1]
theorem A10{n}(hn:1<=n):∀{r:List Str} {m:SM Int},VR n m->0<=Ay7 n r m/\Ay7 n r m<n ^ r.length
 |[],_,_=>⟨Int.le_refl _,by simp[Ay7]⟩
 |v::r,m,h=>by
  obtain⟨h1,h2⟩:=A10 hn (r:=r) h;have h3:=h v;rw[Ay7,as_,Int.pow_succ];have h4:0<=n*Ay7 n r m:=Int.mul_nonneg Om h1;have h5:n*(Ay7 n r m+1)<=n*n ^ r.length:=Int.mul_le_mul_of_nonneg_left Om Om
  grind
theorem A2g:∀(vars:List Str) (m:SM Int) (s:Str),byM m s=0->byM (vars.foldl (fun m v=>m.put v 0) m) s=0
 |[],_,_,h=>h
 |v::r,m,s,h=>A2g r _ s (by rw[Ayn];split<;>first|rfl|exact h)
theorem A0q{n}(hn:1<=n)(vars):VR n (Ayy vars):=fun s=>by
 unfold Ayy;rw[A2g vars [] s rfl];omega
theorem A21{vars:List Str}{i s}(h:vars[i]? =some s):Ayy (vars.take (i+1))=(Ayy (vars.take i)).put s 0:=by
 unfold Ayy;rw[Fw h,List.foldl_append];rfl
theorem Run.det{n rv bad m o}(h:Run n rv bad m o):∀o',Run n rv bad m o'->o'=o:=by
 induction h with
 |hit h=>intro o' h';cases h'<;>simp_all
 |done h1 h2=>intro o' h';cases h'<;>simp_all
 |step h1 h2 _ ih=>
  intro o' h';cases h' with
  |hit h=>rw[h1]at h;cases h
  |done _ h=>rw[h2]at h;cases h
  |step _ h k=>rw[h2]at h;cases h;exact ih _ k
def runV(n:Int)(rv:List Str)(bad:SM Int->Bool):Nat->SM Int->Option (Option (SM Int))
 |0,_=>none
 |k+1,m=>if bad m=true then some (some m)else match A0a n rv m with|none=>some none|some m'=>runV n rv bad k m'
theorem A11{n rv bad}:∀{k:Nat} {m:SM Int} {o:Option (SM Int)},runV n rv bad k m=some o->Run n rv bad m o
 |0,_,_,h=>by cases h
 |k+1,m,o,h=>by
  unfold runV at h
  split at h
  ·rename_i h1;cases h;exact .hit h1
  ·rename_i h1
   have h1:bad m=false:=gr;cases ha:A0a n rv m with
   |none=>rw[ha]at h;cases h;exact .done h1 ha
   |some m'=>rw[ha]at h;exact .step h1 ha (A11 h)
structure VCons (Ls:List RF)(L:RF)(d:Db)(g:Gr)(n:Int)(gd:List Int)(tm:SM (List Int))(N0 a r N:Nat)(I:Sto->Prop)(aA:SM Int->XE->Sto->Prop)(bad:SM Int->Bool):Prop where
 w:∀U,I U->Ayj d g n gd tm N0 a r U
 ext:∀U U' q,I U->N<=q->nx U<=nx U'->(∀b,b<nx U->b≠q->U'.get b=U.get b)->I U'
 y:∀vm q U,N<=q->B8 iV U q vm->VR n vm->I U->YX Ew Ls L [.mp q] U fun x U'=>if bad vm=true then x≠.normal/\aA vm x U' else x=.normal/\I U'/\B8 iV U' q vm
theorem A44{vars:List Str}{p}(h:p<vars.length):∃s,vars[vars.length-1-p]? =some s/\vars.reverse.drop p=s::vars.reverse.drop (p+1):=by
 obtain⟨s,hs⟩:=Ar (show vars.length-1-p<vars.length by omega)
 refine⟨s,hs,A4 ?_⟩
 grind
theorem f165{Ls L}(hL:L∈Ls){d g n gd tm N0 a r I aA bad vars}(hn:1<=n)(h5:n<=5)(hnd:vars.Nodup)(hvl:vars.length<1000000)(J)(hC:VCons Ls L d g n gd tm N0 a r (nx J) I aA bad)(hI:I J):
  Hl Ew Ls 165 (.yl L.aY::[.pv [Af vars],.pv [.pr a 0]]) J fun _ J'=>∃o,Run n vars.reverse bad (Ayy vars) o/\nx J<=nx J'/\match o with
   |none=>I J'
   |some m=>∃x,x≠.normal/\aA m x J':=by
 refine Mo Tryz.func165 (Ke _ _ Tryz.func165) rfl rfl fun hw hu0=>?_
 obtain⟨q,hq⟩:∃q,nx J+1=q:=⟨_,rfl⟩;obtain⟨J1,hσ1⟩:∃J1,J.bump.new (.map 9 [] 0)=J1:=⟨_,rfl⟩;have n1:nx J1=nx J+2:=gr;have g1:∀b,b<nx J->J1.get b=J.get b:=gr
 have m1:B8 iV J1 q []:=by rw[←hσ1,←hq,←Bm];exact B8.fresh (m:=[]) (enc:=iV)
 have hI1:I J1:=hC.ext _ _ q hI Om Om fun b hb _=>g1 b hb
 refine A3u ?_
 iterate  2 refine G ?_
 refine O1 (Cd (n:=q) Arn ((Bm J).trans hq)) ?_
 iterate  2 refine G ?_
 rw[hσ1]
 iterate  8 refine G ?_
 refine Hz (fun i:Nat=>[(0,.yl L.aY),(1,.pv [Af vars]),(2,.pv [.pr a 0]),(4,.mp q),(9,Af vars),(10,nV vars.length),(11,nV i)]) (fun i U=>i<=vars.length/\B8 iV U q (Ayy (vars.take i))/\I U/\nx U=nx J+2) (fun i=>vars.length-i) 0 SL ⟨aq_ _,m1,hI1,n1⟩ ?_
 rintro i0 U ⟨hi0,hm0,hI0,n0⟩
 iterate  5 refine G ?_
 refine A0 rfl ?_ ?_<;>intro h1
 ·have bc:i0<vars.length:=Int.ofNat_lt.1 (of_decide_eq_true h1);obtain⟨s,hs⟩:=Ar bc;obtain⟨ver,hmv⟩:=hm0
  iterate  12 refine G ?_
  refine O1 (Gh (enc:=iV) (v:=0) st9 Arn rfl hmv rfl rfl (fun te k1 k2=>I2 k1 k2)) ?_
  iterate  5 refine G ?_
  refine⟨i0+1,gr,SL,gr,?_,?_,gr⟩
  ·rw[A21 hs];exact dz_
  ·exact hC.ext _ _ q hI0 Om gr gr
 ·have bj:vars.length<=i0:=bm_.1 (Int.not_lt.1 (fun q=>of_decide_eq_false h1 q))
  rw[at_ bj]at hm0
  iterate  2 refine G ?_
  refine Dy fun df=>Aud ?_
  refine G ?_
  refine Hz (fun _:SM Int=>[(0,.yl L.aY),(1,.pv [Af vars]),(2,.pv [.pr a 0]),(4,.mp q)]) (fun m U=>B8 iV U q m/\VR n m/\I U/\nx J+2<=nx U/\∀o,Run n vars.reverse bad m o->Run n vars.reverse bad (Ayy vars) o) (fun m=>(n ^ vars.length-Ay7 n vars.reverse m).toNat) (Ayy vars) SL ⟨hm0,A0q hn vars,hI0,by omega,fun _ h=>h⟩ ?_
  rintro m U2 ⟨hm2,hr2,hI2,n2,bq⟩;have hvb:=A10 hn (r:=vars.reverse) hr2;rw[List.length_reverse]at hvb;refine Cf ?_;refine Cf ?_;refine Er ?_;refine Gm 2 fun df=>?_
  iterate  3 refine G ?_
  refine Lg hL (fun _ _=>rfl) rfl rfl rfl rfl (hC.y m q U2 Om hm2 hr2 hI2) fun x U3 hp hn3=>?_
  refine G ?_;cases hb:bad m with
  |true=>
   rw[if_pos hb]at hp;obtain⟨hx,hJ⟩:=hp
   have hgo:Iu x=false:=by cases x<;>first|exact absurd rfl hx|rfl
   rw[hgo];refine A0 rfl gr (fun h2=>?_)
   refine Gi fun hw9=>?_
   refine G ?_
   exact⟨[],rfl,.tup [],_,a_ hw9 nl (fun _ _=>rfl),by omega,.same rfl,some m,bq _ (.hit hb),by omega,x,hx,hJ⟩
  |false=>
   rw[if_neg gr]at hp;obtain⟨rfl,hI3,hm3⟩:=hp
   refine A0 rfl (fun h2=>?_) (fun h2=>by cases h2)
   iterate  7 refine G ?_
   refine O1 (Agz (p:=Int.ofNat vars.length) (q:=1) okC rfl rfl gr gr) ?_
   iterate  3 refine G ?_
   refine Hz (fun x:Nat×SM Int=>[(0,.yl L.aY),(1,.pv [Af vars]),(2,.pv [.pr a 0]),(4,.mp q),(7,iV (Int.ofNat vars.length-1-Int.ofNat x.1))]) (fun x U=>x.1<=vars.length/\B8 iV U q x.2/\VR n x.2/\I U/\nx J+2<=nx U/\A0a n (vars.reverse.drop x.1) x.2=A0a n vars.reverse m) (fun x=>vars.length-x.1) (0,m) ⟨rfl,rfl,rfl,rfl,congrArg (fun z=>some (iV z)) gr,trivial⟩ ⟨aq_ _,hm3,hr2,hI3,by omega,rfl⟩ ?_
   rintro⟨p,m4⟩ U4 ⟨hp4,hm4,hr4,hI4,n4,hadv⟩;have hm4:B8 iV U4 q m4:=hm4;have hr4:VR n m4:=hr4;have hadv:A0a n (vars.reverse.drop p) m4=A0a n vars.reverse m:=hadv
   iterate  6 refine G ?_
   refine A0 rfl ?_ ?_<;>intro h3
   ·have h3:(0:Int)<=Int.ofNat vars.length-1-Int.ofNat p:=of_decide_eq_true h3;have hplt:p<vars.length:=gr;have hj:Int.ofNat vars.length-1-Int.ofNat p=Int.ofNat (vars.length-1-p):=gr;obtain⟨s,hs,hdr⟩:=A44 hplt;rw[hdr,A0a]at hadv;have hvs:=hr4 s;obtain⟨ver,hmv⟩:=hm4;obtain⟨U5,hτ5⟩:∃U5,U4.set q (.map 9 (Cn iV (m4.put s (byM m4 s+1))) (ver+1))=U5:=⟨_,rfl⟩;have n5:nx U5=nx U4:=gr;have m5:U5.get q=some (.map 9 (Cn iV (m4.put s (byM m4 s+1))) (ver+1)):=gr;have hI5:I U5:=hC.ext _ _ q hI4 Om Om gr
    have hby:byM (m4.put s (byM m4 s+1)) s=byM m4 s+1:=by rw[Ayn,if_pos rfl]
    obtain⟨bs,hbl,hbc,_⟩:=(hC.w _ hI5).cl;rw[hj]
    iterate  11 refine G ?_
    refine O1 (Ahh (u:=iV (byM m4 s)) st9 Arn rfl ⟨ver,hmv⟩ rfl A1z) (O1 (A0y (p:=byM m4 s) (q:=1) okC rfl rfl Om Om) ?_);refine O1 (Gh (enc:=iV) (v:=byM m4 s+1) st9 Arn rfl hmv rfl rfl (fun te k1 k2=>I2 k1 k2)) ?_
    refine G ?_;rw[hτ5];refine G ?_;refine Dy fun df=>X0 ?_
    iterate  5 refine G ?_
    refine DF (Ahh (u:=iV (byM m4 s+1)) st9 Arn rfl ⟨ver+1,m5⟩ rfl (A1z.trans (congrArg iV hby))) ?_
    iterate  3 refine G ?_
    refine DF (E8 hbc ldC rfl Aze) ?_
    iterate  2 refine G ?_
    refine⟨rfl,rfl,?_⟩;refine A0 rfl ?_ ?_<;>intro h4
    ·have h4:byM m4 s+1<n:=of_decide_eq_true h4;rw[if_pos h4]at hadv;obtain⟨k1,k2⟩:=A0p (List.pairwise_reverse.2 (hnd.imp gx_)) hr2 hadv.symm;refine G ?_
     refine⟨m4.put s (byM m4 s+1),?_,SL,⟨_,m5⟩,k1,hI5,by omega,fun o ho=>bq o (.step hb hadv.symm ho)⟩
     grind
    ·have h4:¬(byM m4 s+1<n):=of_decide_eq_false h4;rw[if_neg h4]at hadv
     iterate  7 refine G ?_
     refine O1 (Gh (enc:=iV) (v:=0) st9 Arn rfl m5 rfl rfl (fun te k1 k2=>I2 k1 k2)) ?_
     iterate  3 refine G ?_
     refine O1 (Agz (p:=Int.ofNat (vars.length-1-p)) (q:=1) okC rfl rfl gr gr) ?_
     iterate  2 refine G ?_
     refine⟨(p+1,(m4.put s (byM m4 s+1)).put s 0),gr,⟨rfl,rfl,rfl,rfl,congrArg (fun z=>some (iV z)) gr,trivial⟩,gr,dz_,?_,?_,gr,hadv⟩
     ·intro t;rw[Ayn];split
      ·omega
      ·rename_i ht;rw[Ayn,if_neg ht];exact hr4 t
     ·exact hC.ext _ _ q hI5 Om gr gr
   ·have h3:¬((0:Int)<=Int.ofNat vars.length-1-Int.ofNat p):=of_decide_eq_false h3;have hpe:vars.reverse.drop p=[]:=ah_ gr;rw[hpe]at hadv;refine G ?_;refine Gi fun hw9=>?_
    refine G ?_
    exact⟨[],rfl,.tup [],_,a_ hw9 nl (fun _ _=>rfl),by omega,.same rfl,none,bq _ (.done hb hadv.symm),by omega,hI4⟩
def gdB(gd:List Int)(v:Int):Bool:=gd.any fun x=>decide (x=v)
def Ay9(gd:List Int)(n:Int)(tm:SM (List Int))(m:SM Int)(t:Ax):Bool:= !gdB gd (evT tm n (byM m) t)
theorem A2h{d g n gd r k}(hk:k<5):Cz 1 false ((Aym d g n (gdC gd) r).drop (6+k*1))=some (.bool (gdB gd (Int.ofNat k))):=by
 match k,hk with
 |0,_=>rfl
 |1,_=>rfl
 |2,_=>rfl
 |3,_=>rfl
 |4,_=>rfl
theorem f132{d g n gd tm vm N a r q J}(hS:Ayj d g n gd tm N a r J)(hv:B8 iV J q vm)(ht:A0w g.rules tm n)(h5:n<=5)(hf:VR n vm){t}(ho:okT g.rules t=true)(hb:M6 t<=100000):
  Al Ew 132 ([.agg (eT t)]++[.pv [.pr a 0],.pv [.mp q]]) J fun v J'=>v=.bool (Ay9 gd n tm vm t)/\J'=J:=by
 obtain⟨bs,hbl,hbc,hbe⟩:=hS.cl;obtain⟨k1,k2⟩:=Azb ht hf t ho;obtain⟨k,hk⟩:=Int.eq_ofNat_of_zero_le k1
 have hk5:k<5:=by omega
 have h76:=f76 d g n gd tm vm N a r q J hS hv ht h5 hf t ho hb;rw[hk]at h76
 obtain⟨lr,kr,hrt⟩:∃lr kr,t=.node lr kr:=by cases t;grind
 have heT:eT t=[sV lr,slV eT 2 kr]:=by rw[hrt,Cl]
 have htv:En t=.agg [sV lr,slV eT 2 kr]:=by rw[hrt,Cg]
 rw[htv]at h76;rw[heT];refine Aj Tryz.func132 rfl rfl fun hw hu0=>?_
 refine G6 ?_;refine XI (l:=[(76,[.pr a 0,.agg [sV lr,slV eT 2 kr],.mp q],J,iV (.ofNat k),J)]) ⟨h76,trivial⟩ ?_;refine G7 ?_
 refine DF (Bp (v:=.pr a (6+k*1)) A3v rfl rfl hk5 rfl) (DF (E8 (v:=.bool (gdB gd (Int.ofNat k))) hbc ldC rfl (by rw[hbe];exact A2h hk5)) ?_)
 refine G3 ?_
 refine⟨rfl,by simp,?_⟩
 refine G ?_
 exact⟨_,rfl,_,_,a_ hw nl (fun _ _=>rfl),nl,.same rfl,by unfold Ay9;rw[hk];rfl,rfl⟩
structure Ax7 where
 silent:Bool
 vars:List Str
 prem:List Ax
 form:Ax
 code:Int
def eCm(c:Ax7):List AV:=[.bool c.silent,Af c.vars,slV eT 2 c.prem]++eT c.form++[iV c.code]
theorem A09(c):(eCm c).length=6:=by unfold eCm;simp[Dh]
def A12(gd:List Int)(n:Int)(tm:SM (List Int))(c:Ax7)(m:SM Int):Bool:= !(c.prem.any (Ay9 gd n tm m))&&Ay9 gd n tm m c.form
def Ayo(gd:List Int)(n:Int)(tm:SM (List Int))(c:Ax7)(fuel:Int)(R:Bool×List Ayb×Int):Prop:=
 if c.silent=true then R=(true,[],0)else if c.code≠0 then R=(false,[],c.code)else if fuel<Ayi n fuel c.vars.length 1 then R=(false,[],10)
 else ∃o,Run n c.vars.reverse (A12 gd n tm c) (Ayy c.vars) o/\R=match o with|none=>(true,[],0)|some m=>(false,Aye c.vars m,0)
structure A07 (g:Gr)(c:Ax7):Prop where
 v:c.vars.length<1000000
 p:c.prem.length<1000000
 nd:c.silent=false->c.code=0->c.vars.Nodup
 o:c.silent=false->c.code=0->(∀t∈c.prem,okT g.rules t=true/\M6 t<=100000)/\okT g.rules c.form=true/\M6 c.form<=100000
theorem f79{d g n gd tm N a r J}(hS:Ayj d g n gd tm N a r J)(ht:A0w g.rules tm n)(hn1:1<=n)(h5:n<=5){c}(hc:A07 g c){fuel}(hf1:1<=fuel)(hf9:fuel<=100000):
  Al Ew 79 [.pr a 0,.agg (eCm c),iV fuel] J fun v J'=>∃R,v=.tup [.bool R.1,slV eVl 2 R.2.1,iV R.2.2]/\Ayo gd n tm c fuel R/\J'=J:=by
 obtain⟨lf,kf,hform⟩:∃l k,c.form=.node l k:=by cases c.form;grind
 have hE:eCm c=[.bool c.silent,Af c.vars,slV eT 2 c.prem,sV lf,slV eT 2 kf,iV c.code]:=by unfold eCm;rw[hform,Cl];rfl
 have hcv:=hc.v;rw[hE];refine gm_ ?_;refine Mo Tryz.func79 (Ke _ _ Tryz.func79) rfl rfl fun hw hu0=>?_
 have hA:a<nx J:=by obtain⟨_,_,h,_⟩:=hS.cl;exact(hw _ _ h).1
 have fin:∀{ρ:Ad} {U:Sto} {ok:Bool} {v2:AV} {l:List Ayb} {e:Int},Ad.at ρ 6=some (.pr (nx J+1) 0)->Ad.at ρ 7=some (.pr (nx J+2) 0)->Ad.at ρ 8=some (.pr (nx J+3) 0)->U.get (nx J+1)=some (.cells [.bool ok])->U.get (nx J+2)=some (.cells [v2])->U.get (nx J+3)=some (.cells [iV e])->(v2=nS/\l=[]∨v2=slV eVl 2 l)->nx J<=nx U->(∀b,b<nx J->U.get b=J.get b)->Ayo gd n tm c fuel (ok,l,e)->Agw Ew Tryz.f79 (nx J) (fun v J'=>∃R,v=.tup [.bool R.1,slV eVl 2 R.2.1,iV R.2.2]/\Ayo gd n tm c fuel R/\J'=J) ρ U:=by
  intro ρ U ok v2 l e p6 p7 p8 q6 q7 q8 h2 hn hg hR
  refine⟨[.bool ok,v2,iV e],Am (vs:=[.bool ok]) (ldC (t:=4)) p6 (by simp only[Sto.cells];rw[q6]) rfl (Am (vs:=[v2]) (ldC (t:=64)) p7 (by simp only[Sto.cells];rw[q7]) rfl (Am (vs:=[iV e]) (ldC (t:=32)) p8 (by simp only[Sto.cells];rw[q8]) rfl rfl)),.tup [.bool ok,slV eVl 2 l,iV e],J,am_ hw ⟨hn,hg⟩,nl,?_,(ok,l,e),rfl,hR,rfl⟩
  rcases h2 with⟨rfl,rfl⟩|rfl
  ·exact .tup (.cons (.same rfl) (.cons (.nils gr) (.cons (.same rfl) .nil)))
  ·exact .tup (.cons (.same rfl) (.cons (.same (A2 (fun _=>rfl) _)) (.cons (.same rfl) .nil)))
 obtain⟨J1,hσ1⟩:∃J1,((J.bump.new (.cells [.bool false])).new (.cells [nS])).new (.cells [.int .i64 0])=J1:=⟨_,rfl⟩;have n1:nx J1=nx J+4:=gr;have g1:∀b,b<nx J->J1.get b=J.get b:=gr;have c6:J1.get (nx J+1)=some (.cells [.bool false]):=gr;have c7:J1.get (nx J+2)=some (.cells [nS]):=gr;have c8:J1.get (nx J+3)=some (.cells [.int .i64 0]):=gr;have hS1:Ayj d g n gd tm N a r J1:=hS.of_get hw g1
 iterate  4 refine G ?_
 refine O1 (Bj (n:=nx J+1) ziC (Bm J)) (O1 (Bj (n:=nx J+2) ziC gr) ?_);refine O1 (Bj (n:=nx J+3) ziC gr) ?_;refine G ?_;rw[hσ1]

 have st3:∀(U:Sto) (x y z:AV),∃U',((U.set (nx J+1) (.cells [x])).set (nx J+2) (.cells [y])).set (nx J+3) (.cells [z])=U'/\nx U'=nx U/\U'.get (nx J+1)=some (.cells [x])/\U'.get (nx J+2)=some (.cells [y])/\U'.get (nx J+3)=some (.cells [z])/\∀b,(b<nx J+1∨nx J+4<=b)->U'.get b=U.get b:=fun U x y z=>
  ⟨_,rfl,gr,gr,gr,gr,fun b hb=>by rw[aa_,if_neg Om,aa_,if_neg Om,aa_,if_neg Om]⟩
 iterate  8 refine G ?_
 refine A0 rfl ?_ ?_<;>intro h1
 ·obtain⟨U,hτ,k0,k6,k7,k8,kg⟩:=st3 J1 (.bool true) nS (iV 0)
  iterate  2 refine G ?_
  refine O1 (sO (cs':=[.bool true]) c6) (O1 (G1 (cs:=[nS]) (cs':=[nS]) gr ldC rfl rfl rfl rfl) ?_);refine O1 (G1 (cs:=[.int .i64 0]) (cs':=[iV 0]) gr ldC rfl rfl rfl rfl) ?_;refine G ?_;rw[hτ];refine G ?_
  exact fin rfl rfl rfl k6 k7 k8 (.inl ⟨rfl,rfl⟩) Om (fun b hb=>(kg b Om).trans (g1 b hb)) (by unfold Ayo;rw[if_pos h1])
 ·iterate  7 refine G ?_
  refine A0 rfl ?_ ?_<;>intro h2
  ·have h2:c.code≠0:=gr;obtain⟨U,hτ,k0,k6,k7,k8,kg⟩:=st3 J1 (.bool false) nS (iV c.code);refine G ?_;refine Dy fun df=>L4 (Rr:=Dk []) (anns:=[⟨.pure,0,2⟩,⟨.read,0,2⟩,⟨.eff,0,1⟩,⟨.eff,1,2⟩,⟨.eff,2,3⟩]) Di (Bw (l:=[]) trivial) Kr ?_
   iterate  2 refine G ?_
   refine DT (sO (cs':=[.bool false]) c6) (DT (G1 (cs:=[nS]) (cs':=[nS]) gr ldC rfl rfl rfl rfl) ?_);refine DT (G1 (cs:=[.int .i64 0]) (cs':=[iV c.code]) gr ldC rfl rfl rfl rfl) ?_;refine G ?_;refine⟨⟨trivial,(fun s hs=>⟨_,Ac (ldC (t:=32)) rfl rfl rfl⟩),trivial,trivial,trivial,trivial⟩,?_⟩
   rw[hτ];refine G ?_
   exact fin rfl rfl rfl k6 k7 k8 (.inl ⟨rfl,rfl⟩) Om (fun b hb=>(kg b Om).trans (g1 b hb)) (by unfold Ayo;grind)
  ·have h2:c.code=0:=gr;obtain⟨hop,hof,hofb⟩:=hc.o h1 h2;have hnd:=hc.nd h1 h2;obtain⟨bs,hbl,hbc,_⟩:=hS1.cl;refine G ?_;refine Dy fun df=>XS (l:=[(94,[iV n,nV c.vars.length,iV fuel],J1,iV (Ayi n fuel c.vars.length 1),J1)]) ⟨f94g fuel n c.vars.length J1 hf1 hf9 hn1 h5 hcv,trivial⟩ ?_
   iterate  3 refine G ?_
   refine DF (E8 hbc ldC rfl Aze) ?_
   iterate  9 refine G ?_
   refine A0 rfl ?_ ?_<;>intro h3
   ·have h3:fuel<Ayi n fuel c.vars.length 1:=of_decide_eq_true h3;obtain⟨U,hτ,k0,k6,k7,k8,kg⟩:=st3 J1 (.bool false) nS (iV 10)
    iterate  2 refine G ?_
    refine O1 (sO (cs':=[.bool false]) c6) (O1 (G1 (cs:=[nS]) (cs':=[nS]) gr ldC rfl rfl rfl rfl) ?_);refine O1 (G1 (cs:=[.int .i64 0]) (cs':=[iV 10]) gr ldC rfl rfl rfl rfl) ?_;refine G ?_;rw[hτ];refine G ?_
    exact fin rfl rfl rfl k6 k7 k8 (.inl ⟨rfl,rfl⟩) Om (fun b hb=>(kg b Om).trans (g1 b hb)) (by unfold Ayo;grind)
   ·have h3:¬(fuel<Ayi n fuel c.vars.length 1):=of_decide_eq_false h3
    have hRn:∀R o,Run n c.vars.reverse (A12 gd n tm c) (Ayy c.vars) o->(R=match o with|none=>(true,[],0)|some m=>(false,Aye c.vars m,0))->Ayo gd n tm c fuel R:=fun R o h q=>by
     unfold Ayo;grind
    obtain⟨aY,haY⟩:∃aY,nx J1+1=aY:=⟨_,rfl⟩;obtain⟨J7,hσ7⟩:∃J7,J1.bump.new (.loop .ready)=J7:=⟨_,rfl⟩;have n7:nx J7=nx J1+2:=gr;have g7:∀b,b<nx J1->J7.get b=J1.get b:=gr;have y7:J7.get aY=some (.loop .ready):=gr
    iterate  7 refine G ?_
    refine Ca (f131 (vars:=c.vars) (J:=J1) (show a<nx J1 by omega)) ?_
    iterate  2 refine G ?_
    refine L6 rfl (fun tm9 htm=>?_)
    rw[hσ7,haY]
    refine et_ (f165 (L:=⟨aY,tm9,Tryz.f79.ntmps,_,_,_⟩) (d:=d) (g:=g) (gd:=gd) (tm:=tm) (N0:=N) (r:=r) (I:=fun U=>U.get aY=some (.loop .ready)/\U.get (nx J+1)=some (.cells [.bool false])/\U.get (nx J+2)=some (.cells [nS])/\U.get (nx J+3)=some (.cells [.int .i64 0])/\aY<nx U/\∀b,b<nx J->U.get b=J.get b) (aA:=fun m x U=>x=.ret/\U.get aY=some (.loop (H2 .ret))/\U.get (nx J+1)=some (.cells [.bool false])/\U.get (nx J+2)=some (.cells [slV eVl 2 (Aye c.vars m)])/\U.get (nx J+3)=some (.cells [iV 0])/\nx J<=nx U/\∀b,b<nx J->U.get b=J.get b) (bad:=A12 gd n tm c) (ap_ ..) hn1 h5 hnd hcv J7 ⟨?w,?ext,?y⟩ ⟨y7,gr,gr,gr,by omega,fun b hb=>(g7 b Om).trans (g1 b hb)⟩) ?pos
    case w=>
     rintro U ⟨_,_,_,_,_,h⟩;exact hS.of_get hw h
    case ext=>
     rintro U U' q ⟨h1,h2,h3,h4,h5,h6⟩ hq hn hg
     exact⟨gr,gr,gr,gr,by omega,gr⟩
    case y=>
     rintro vm q U hq hmv hvr ⟨hyt,q6,q7,q8,hyl,hgt⟩;obtain⟨U1,hτ1⟩:∃U1,U.set aY (.loop .busy)=U1:=⟨_,rfl⟩;have nt1:nx U1=nx U:=gr;have gt1:∀b,b≠aY->U1.get b=U.get b:=gr;have yt1:U1.get aY=some (.loop .busy):=gr;have hmv1:B8 iV U1 q vm:=hmv.of_get (gt1 _ Om);have hSt:Ayj d g n gd tm N a r U1:=hS.of_get hw fun b hb=>(gt1 b Om).trans (hgt b hb)
     have h18:=f18 (Ay9 gd n tm vm) c.prem 132 [.pv [.pr a 0],.pv [.mp q]] U1 (by have:=hc.p;omega) (fun t htm=>f132 hSt hmv1 ht h5 hvr (hop t htm).1 (hop t htm).2)
     have h132:=f132 hSt hmv1 ht h5 hvr hof hofb
     rw[show eT c.form=[sV lf,slV eT 2 kf] by rw[hform,Cl]]at h132
     refine Tk htm rfl Kr Kr Kr hyt gr ?_
     iterate  3 refine G ?_
     refine⟨hyt,?_⟩;rw[show U.set aY (.loop .busy)=U1 from hτ1]
     iterate  11 refine G ?_
     refine Ca h18 ?_
     iterate  2 refine G ?_
     refine Hq 4 _ (Ay9 gd n tm vm c.form) rfl rfl rfl rfl rfl (Eh rfl) (fun hg=>?_) (fun hg=>?_) ?_
     ·iterate  3 refine Gn hg ?_
      refine Bh rfl rfl rfl (by rw[hg];rfl) rfl rfl rfl rfl h132 ?_
      refine G ?_;refine⟨rfl,?_,?_⟩
      ·exact sb
      ·exact rfl
     ·iterate 4 refine Of hg ?_
      refine G ?_;exact⟨rfl,sb⟩
     refine G ?_;refine A0 rfl ?_ ?_<;>intro h9
     ·have hb:A12 gd n tm c vm=true:=h9;obtain⟨U2,hτ2,k0,k6,k7,k8,kg⟩:=st3 U1 (.bool false) (slV eVl 2 (Aye c.vars vm)) (iV 0)
      iterate  5 refine G ?_
      refine Ca (f133 hmv1 hcv) ?_;refine O1 (G1 (cs:=[.bool false]) (cs':=[.bool false]) ((gt1 _ Om).trans q6) ldC rfl rfl rfl rfl) ?_;refine O1 (G1 (cs:=[nS]) (cs':=[slV eVl 2 (Aye c.vars vm)]) gr ldC rfl rfl rfl rfl) ?_;refine O1 (G1 (cs:=[.int .i64 0]) (cs':=[iV 0]) gr ldC rfl rfl rfl rfl) ?_;refine G ?_;rw[hτ2];refine G ?_;refine⟨show U2.get aY=_ from(kg _ Om).trans yt1,?_⟩
      grind
     ·have hb:A12 gd n tm c vm=false:=h9;refine G ?_;refine⟨yt1,?_⟩
      show if A12 gd n tm c vm=true then _ else _
      rw[if_neg gr]
      exact⟨rfl,⟨by rw[aa_,if_pos rfl];rfl,gr,gr,gr,gr,gr⟩,hmv1.of_get gr⟩
    case pos=>
     rintro u J' ⟨o,bq,hn9,bh⟩;cases o with
     |some m=>
      obtain⟨x,_,rfl,hy9,q6,q7,q8,hn8,hg8⟩:=bh;refine⟨.ret,hy9,?_⟩;exact fin rfl rfl rfl gr gr gr (.inr rfl) gr gr (hRn _ _ bq rfl)
     |none=>
      obtain⟨hy9,q6,q7,q8,hl9,hg9⟩:=bh;refine⟨.normal,hy9,?_⟩;obtain⟨U,hτ,k0,k6,k7,k8,kg⟩:=st3 (J'.kill aY) (.bool true) nS (iV 0)
      iterate  2 refine G ?_
      refine O1 (G1 (cs:=[.bool false]) (cs':=[.bool true]) gr ldC rfl rfl rfl rfl) ?_
      refine O1 (G1 (cs:=[nS]) (cs':=[nS]) (by rw[aa_,if_neg Om,bf_,if_neg Om];exact q7) ldC rfl rfl rfl rfl) ?_
      refine O1 (G1 (cs:=[.int .i64 0]) (cs':=[iV 0]) gr ldC rfl rfl rfl rfl) ?_;refine G ?_;rw[hτ];refine G ?_;exact fin rfl rfl rfl k6 k7 k8 (.inl ⟨rfl,rfl⟩) gr gr (hRn _ _ bq rfl)
def A0b(gd:List Int)(n:Int)(tm:SM (List Int))(fuel:Int):List Ax7->Nat->Bool×Int×Int->Prop
 |[],_,R=>R=(true,0,0)
 |c::r,i,R=>∃H,Ayo gd n tm c fuel H/\if(!decide (H.2.2=0)|| !H.1)=true then R=(false,Int.ofNat i,H.2.2)else A0b gd n tm fuel r (i+1) R
theorem f97{d g n gd tm N a r J}(hS:Ayj d g n gd tm N a r J)(ht:A0w g.rules tm n)(hn1:1<=n)(h5:n<=5){l}(hl:∀c∈l,A07 g c)(hll:l.length<1000000){fuel}(hf1:1<=fuel)(hf9:fuel<=100000):
  Al Ew 97 [.pr a 0,slV eCm 6 l,iV fuel] J fun v J'=>∃R,v=.tup [.bool R.1,iV R.2.1,iV R.2.2]/\A0b gd n tm fuel l 0 R/\J'=J:=by
 refine Aj Tryz.func97 rfl rfl fun hw hu0=>?_
 iterate 14 refine G ?_
 refine Ci (fun i:Nat=>[(0,.pr a 0),(2,iV fuel),(14,slV eCm 6 l),(15,nV l.length),(16,nV i)]) (fun i U=>i<=l.length/\Below (nx J) J U/\∀R,A0b gd n tm fuel (l.drop i) i R->A0b gd n tm fuel l 0 R) (fun i=>l.length-i) 0 SL ⟨aq_ _,⟨nl,fun _ _=>rfl⟩,fun R h=>h⟩ ?_
 rintro i0 U ⟨hi0,⟨n0,g0⟩,hM⟩;refine G5 ?_;refine Ab rfl ?_ ?_<;>intro h1
 ·have bc:i0<l.length:=Int.ofNat_lt.1 (of_decide_eq_true h1);obtain⟨c,hc⟩:=Ar bc;have hcm:=hl c (ab_ hc);rw[A4 hc]at hM
  obtain⟨lf,kf,hform⟩:∃l k,c.form=.node l k:=by cases c.form;grind
  have hE:eCm c=[.bool c.silent,Af c.vars,slV eT 2 c.prem,sV lf,slV eT 2 kf,iV c.code]:=by unfold eCm;rw[hform,Cl];rfl
  obtain⟨U1,hτ1⟩:∃U1,(U.new (.cells [.bool false,nS,nS,.str [],nS,.int .i64 0])).set (nx U) (.cells [.bool c.silent,Af c.vars,slV eT 2 c.prem,sV lf,slV eT 2 kf,iV c.code])=U1:=⟨_,rfl⟩;have n1:nx U1=nx U+1:=gr;have g1:∀b,b<nx U->U1.get b=U.get b:=gr;have c1:U1.get (nx U)=some (.cells [.bool c.silent,Af c.vars,slV eT 2 c.prem,sV lf,slV eT 2 kf,iV c.code]):=gr;have hSt:Ayj d g n gd tm N a r U1:=hS.of_get hw fun b hb=>(g1 b Om).trans (g0 b hb)
  have h79:=f79 hSt ht hn1 h5 hcm hf1 hf9;rw[hE]at h79;refine G6 ?_
  refine O1 (A1 elC A09 rfl rfl hc) (O1 (Ac ldC rfl rfl (show Cz 6 true (eCm c++_)=some (.agg [.bool c.silent,Af c.vars,slV eT 2 c.prem,sV lf,slV eT 2 kf,iV c.code])from by rw[←hE];exact A6 (A09 _) _)) ?_)
  refine O1 (Bj (n:=nx U) ziC rfl) ?_;refine G ?_
  refine O1 (sO (cs:=[.bool false,nS,nS,.str [],nS,.int .i64 0]) (cs':=[.bool c.silent,Af c.vars,slV eT 2 c.prem,sV lf,slV eT 2 kf,iV c.code]) (by rw[ag_,if_pos rfl])) ?_
  refine G ?_;rw[hτ1];refine G3 ?_;refine O1 (lO c1) ?_;refine G ?_;refine Az rfl rfl rfl rfl h79 ?_;rintro _ _ ⟨H,rfl,hH,rfl⟩
  iterate 13 refine G ?_
  refine Qh 2 _ (!H.1) rfl rfl rfl rfl rfl (Eh rfl) (fun hg=>?_) (fun hg=>?_) ?_
  ·iterate 2 refine Gn hg ?_
   refine G ?_;refine⟨rfl,?_,?_⟩
   ·exact sb
   ·exact rfl
  ·iterate 2 refine Of hg ?_
   refine G ?_;exact⟨rfl,sb⟩
  refine G ?_;refine Ab rfl ?_ ?_<;>intro h2
  ·refine G9 ?_
   exact⟨_,rfl,_,J,am_ hw ⟨by omega,fun b hb=>(g1 b Om).trans (g0 b hb)⟩,nl,.same rfl,(false,Int.ofNat i0,H.2.2),rfl,hM _ ⟨H,hH,gr⟩,rfl⟩
  ·refine G5 ?_
   exact⟨i0+1,gr,SL,gr,⟨by omega,fun b hb=>(g1 b Om).trans (g0 b hb)⟩,fun R hR=>hM R ⟨H,hH,gr⟩⟩
 ·have bj:l.length<=i0:=bm_.1 (Int.not_lt.1 (fun q=>of_decide_eq_false h1 q))
  rw[ah_ bj]at hM;refine G8 ?_;exact⟨_,rfl,_,J,am_ hw ⟨n0,g0⟩,nl,.same rfl,(true,0,0),rfl,hM _ rfl,rfl⟩
structure Ax8 where
 tree:Ax
 vars:List Str
 code:Int
def eGl(x:Ax8):List AV:=eT x.tree++[Af x.vars,iV x.code]
def A1r:Ax:=.node [] []
def Ayr(d:Db)(g:Gr)(l:List Str):Ax8:=if Nv l=true then(if(B1 d l).2≠0 then⟨A1r,[],(B1 d l).2⟩else⟨(B1 d l).1,Ayh g.rules (B1 d l).1 [],0⟩)else⟨A1r,[],11⟩
theorem A2i{d g n b r}:Cz 3 true ((Aym d g n b r).drop 0)=some (dbV d):=rfl
theorem f83{d g n gd tm N a r J}(hS:Ayj d g n gd tm N a r J)(hD:DbB d)(hvf:d.vars.length+d.frames.length<1000000)(hgl:g.rules.length<1000000){l}(hl:l.length<1000000):
  Cv 83 [.pr a 0,Af l] J (.agg (eGl (Ayr d g l))):=by
 obtain⟨bs,hbl,hbc,_⟩:=hS.cl;obtain⟨T,e,hTe⟩:∃T e,B1 d l=(T,e):=⟨_,_,rfl⟩
 obtain⟨lk,kk,hT⟩:∃lk kk,T=.node lk kk:=by cases T;grind
 refine Aj Tryz.func83 rfl rfl fun hw hu0=>?_
 have hA:a<nx J:=(hw _ _ hbc).1;obtain⟨J1,hσ1⟩:∃J1,J.new (.cells [.str [],nS,nS,.int .i64 0])=J1:=⟨_,rfl⟩;have n1:nx J1=nx J+1:=gr;have g1:∀b,b<nx J->J1.get b=J.get b:=gr;have r1:J1.get (nx J)=some (.cells [.str [],nS,nS,.int .i64 0]):=gr;have b1:J1.get a=some (.cells (Aym d g n bs r)):=(g1 _ hA).trans hbc
 have fin0:∀{ρ:Ad} {e:Int},Ad.at ρ 4=some (.pr (nx J) 0)->Ayr d g l=⟨A1r,[],e⟩->Agw Ew Tryz.f83 (nx J) (fun v J'=>v=.agg (eGl (Ayr d g l))/\J'=J) ρ (J1.set (nx J) (.cells [.str [],nS,nS,iV e])):=by
  intro ρ e p4 hg
  refine⟨[.agg [.str [],nS,nS,iV e]],Am (vs:=[.str [],nS,nS,iV e]) (ldC (t:=177)) p4 (by simp only[Sto.cells];grind) rfl rfl,.agg [sV [],.sv [] 2 0 none,.sv [] 1 0 none,iV e],J,am_ hw ⟨gr,gr⟩,nl,.agg (.cons (.same rfl) (.cons (.nils gr) (.cons (.nils gr) (.cons (.same rfl) .nil)))),?_,rfl⟩
  rw[hg];rfl
 refine G2 ?_;refine O1 (Bj (n:=nx J) ziC rfl) ?_;refine G ?_;rw[hσ1];refine G4 ?_;refine Ca (f134 l J1) ?_;refine G2 ?_;refine Ab rfl ?_ ?_<;>intro h1
 ·have h1:Nv l=false:=gr;refine G3 ?_;refine O1 (sO (cs':=[.str [],nS,nS,iV 11]) r1) ?_;refine G2 ?_
  exact fin0 rfl (by unfold Ayr;grind)
 ·have h1:Nv l=true:=gr;have h26:=f26 d l J1 hD hvf hl;rw[hTe,hT]at h26;rw[show En (.node lk kk)=.agg [sV lk,slV eT 2 kk]from Cg lk kk]at h26
  refine G6 ?_;refine O1 (E8 b1 ldC rfl A2i) ?_;refine G ?_;refine Ca h26 ?_;refine G12 ?_;refine Ab rfl ?_ ?_<;>intro h2
  ·have h2:e≠0:=gr;refine G4 ?_;refine O1 (sO (cs':=[.str [],nS,nS,iV e]) r1) ?_;refine G2 ?_
   exact fin0 rfl (by unfold Ayr;grind)
  ·have h2:e=0:=gr;subst h2;obtain⟨_,hK,hC⟩:=Q3 hTe;have h73:=f73 g (.node lk kk) J1 hgl gr;rw[Cg]at h73;refine G2 ?_;refine XX 1 (l:=[(73,[grV g,.agg [sV lk,slV eT 2 kk]],J1,Af (Ayh g.rules (.node lk kk) []),J1)]) ⟨h73,trivial⟩ ?_;refine G4 ?_;refine DF (E8 b1 ldC rfl A2f) ?_;refine G3 ?_;refine DT (sO (cs':=[sV lk,slV eT 2 kk,Af (Ayh g.rules (.node lk kk) []),iV 0]) r1) ?_;refine G ?_
   refine⟨(by intro e he;simp at he;rcases he with rfl|rfl<;>exact .refl),?_⟩
   refine G ?_
   refine⟨[.agg [sV lk,slV eT 2 kk,Af (Ayh g.rules (.node lk kk) []),iV 0]],Am (vs:=[sV lk,slV eT 2 kk,Af (Ayh g.rules (.node lk kk) []),iV 0]) (ldC (t:=177)) rfl (by simp only[Sto.cells];grind) rfl rfl,_,J,am_ hw ⟨gr,gr⟩,nl,.same ?_,?_,rfl⟩
   ·have h1:AV.unds (nx J) [sV lk,slV eT 2 kk]=true:=by rw[←Cl];exact Es _
    have h3:AV.und (nx J) (Af (Ayh g.rules (.node lk kk) []))=true:=A2 D9 _
    show AV.unds _ [sV lk,slV eT 2 kk,Af (Ayh g.rules (.node lk kk) []),iV 0]=true
    simp only[AV.unds,h3]at h1⊢
    simp at h1⊢;exact⟨h1.1,h1.2,rfl⟩
   ·unfold Ayr;rw[if_pos h1,hTe,if_neg (fun q=>q rfl),hT]
    unfold eGl;rw[Cl];rfl
def trC(d:Db)(code:Int)(l:List Str):Ax×Int:=if code=0 then B1 d l else(A1r,code)
def A0r(J:Sto)(a6:Nat)(x0 x1 x2 x3 x4:AV)(T:Ax)(code e:Int):Sto:=if code=0 then(((J.new (.cells [.str [],nS])).set (nx J) (.cells (eT T))).set a6 (.cells [x0,x1,x2,x3,x4,iV e])).set (nx J) (.cells (eT T))else(J.new (.cells [.str [],nS])).set (nx J) (.cells [.str [],nS])
theorem A2j{J a6 x0 x1 x2 x3 x4 T code e}(h6:J.get a6=some (.cells [x0,x1,x2,x3,x4,iV code]))(hA6:a6<nx J)(he:code≠0->e=code):nx (A0r J a6 x0 x1 x2 x3 x4 T code e)=nx J+1/\(A0r J a6 x0 x1 x2 x3 x4 T code e).get a6=some (.cells [x0,x1,x2,x3,x4,iV e])/\∀b,b<nx J->b≠a6->(A0r J a6 x0 x1 x2 x3 x4 T code e).get b=J.get b:=by
 unfold A0r
 grind
theorem f135{d g n gd tm N a r a6 J}(hS:Ayj d g n gd tm N a r J)(hD:DbB d)(hvf:d.vars.length+d.frames.length<1000000){x0 x1 x2 x3 x4 code}(h6:J.get a6=some (.cells [x0,x1,x2,x3,x4,iV code])){l}(hl:l.length<1000000):
  Al Ew 135 [Af l,.pr a6 0,.pv [.pr a 0]] J fun v J'=>v=En (trC d code l).1/\J'=A0r J a6 x0 x1 x2 x3 x4 (trC d code l).1 code (trC d code l).2:=by
 obtain⟨bs,hbl,hbc,_⟩:=hS.cl;refine Aj Tryz.func135 rfl rfl fun hw hu0=>?_
 have hA:a<nx J:=(hw _ _ hbc).1;have hA6:a6<nx J:=(hw _ _ h6).1;obtain⟨J1,hσ1⟩:∃J1,J.new (.cells [.str [],nS])=J1:=⟨_,rfl⟩;have n1:nx J1=nx J+1:=gr;have g1:∀b,b<nx J->J1.get b=J.get b:=gr;have r1:J1.get (nx J)=some (.cells [.str [],nS]):=gr;have b1:J1.get a=some (.cells (Aym d g n bs r)):=(g1 _ hA).trans hbc;have c1:J1.get a6=some (.cells [x0,x1,x2,x3,x4,iV code]):=(g1 _ hA6).trans h6;refine G2 ?_;refine O1 (Bj (n:=nx J) ziC rfl) ?_;refine G ?_;rw[hσ1];refine G4 ?_;refine O1 (lO c1) ?_;refine G2 ?_;refine Ab rfl ?_ ?_<;>intro h1
 ·have h1:code=0:=of_decide_eq_true h1;obtain⟨T,e,hTe⟩:∃T e,B1 d l=(T,e):=⟨_,_,rfl⟩
  obtain⟨lk,kk,hT⟩:∃lk kk,T=.node lk kk:=by cases T;grind
  have h26:=f26 d l J1 hD hvf hl;rw[hTe,hT]at h26;rw[show En (.node lk kk)=.agg [sV lk,slV eT 2 kk]from Cg lk kk]at h26
  obtain⟨J2,hσ2⟩:∃J2,J1.set (nx J) (.cells [sV lk,slV eT 2 kk])=J2:=⟨_,rfl⟩;have n2:nx J2=nx J1:=gr;have g2:∀b,b≠nx J->J2.get b=J1.get b:=gr;have r2:J2.get (nx J)=some (.cells [sV lk,slV eT 2 kk]):=gr;obtain⟨J3,hσ3⟩:∃J3,J2.set a6 (.cells [x0,x1,x2,x3,x4,iV e])=J3:=⟨_,rfl⟩;have n3:nx J3=nx J2:=gr;have g3:∀b,b≠a6->J3.get b=J2.get b:=gr;have r3:J3.get (nx J)=some (.cells [sV lk,slV eT 2 kk]):=(g3 _ Om).trans r2;refine G4 ?_;refine O1 (E8 b1 ldC rfl A2i) ?_;refine G ?_;refine Ca h26 ?_;refine G3 ?_;refine O1 (sO (cs':=[sV lk,slV eT 2 kk]) r1) ?_;refine G ?_;refine O1 (G1 (cs:=[x0,x1,x2,x3,x4,iV code]) (cs':=[x0,x1,x2,x3,x4,iV e]) gr ldC rfl rfl rfl rfl) ?_;refine G ?_;rw[hσ2,hσ3];refine G2 ?_;refine O1 (lO r3) (O1 (sO (cs':=[sV lk,slV eT 2 kk]) r3) ?_);refine G ?_;refine Bo fun hw9=>?_
  refine G ?_
  refine⟨[.agg [sV lk,slV eT 2 kk]],Am (vs:=[sV lk,slV eT 2 kk]) (ldC (t:=39)) rfl (by simp only[Sto.cells];grind) rfl rfl,.agg [sV lk,slV eT 2 kk],_,a_ hw9 nl (fun _ _=>rfl),gr,.same (by show AV.unds _ [sV lk,slV eT 2 kk]=true;rw[←Cl];exact Es _),?_,?_⟩
  ·unfold trC;rw[if_pos h1,hTe,hT];exact(Cg lk kk).symm
  ·unfold trC A0r;rw[if_pos h1,if_pos h1,hTe,hT,←hσ3,←hσ2,←hσ1];simp only[Cl]
 ·have h1:code≠0:=of_decide_eq_false h1;refine G3 ?_;refine O1 (lO r1) (O1 (sO (cs':=[.str [],nS]) r1) ?_);refine G ?_;refine Bo fun hw9=>?_
  refine G ?_
  refine⟨[.agg [.str [],nS]],Am (vs:=[.str [],nS]) (ldC (t:=39)) rfl (by simp only[Sto.cells];grind) rfl rfl,.agg [sV [],.sv [] 2 0 none],_,a_ hw9 nl (fun _ _=>rfl),gr,.agg (.cons (.same rfl) (.cons (.nils gr) .nil)),?_,?_⟩
  ·unfold trC;rw[if_neg h1];exact(Cg [] []).symm
  ·unfold A0r;grind
structure ClS where
 vars:List Str
 prem:List Ax
 code:Int
def Ayz(d:Db)(s:ClS)(h:Hp):ClS:=if h.floating=true then⟨s.vars++[h.label],s.prem,s.code⟩else if Nv h.text=true then⟨s.vars,s.prem++[(trC d s.code h.text).1],(trC d s.code h.text).2⟩else s
def Ayk(d:Db)(l:List Hp):ClS:=l.foldl (Ayz d) ⟨[],[],0⟩
def Ayc(d:Db)(f:Fr):Ax7:=if Nv f.text=true then⟨false,(Ayk d f.hyps).vars,(Ayk d f.hyps).prem,(trC d (Ayk d f.hyps).code f.text).1,(trC d (Ayk d f.hyps).code f.text).2⟩else⟨true,[],[],A1r,0⟩
theorem A22{d}{l:List Hp}{i h}(hh:l[i]? =some h):Ayk d (l.take (i+1))=Ayz d (Ayk d (l.take i)) h:=by
 unfold Ayk;rw[Fw hh,List.foldl_append];rfl
theorem A01{d}:∀(l:List Hp) (s:ClS),(l.foldl (Ayz d) s).vars.length<=s.vars.length+l.length/\(l.foldl (Ayz d) s).prem.length<=s.prem.length+l.length
 |[],_=>⟨nl,nl⟩
 |h::l,s=>by
  obtain⟨h1,h2⟩:=A01 (d:=d) l (Ayz d s h);rw[ct_,as_]
  have h3:(Ayz d s h).vars.length<=s.vars.length+1/\(Ayz d s h).prem.length<=s.prem.length+1:=by
   unfold Ayz
   grind
  grind
theorem Own.appZ{α enc sz by' N}{l:List α}{v J}(he:∀a,(enc a).length=sz){z}(hz:z.length=sz)(hN:N<=nx J)(h:Own J N enc sz l v)(bn:(l.length+1)*(by'+1)<=sizeLim):
  ∃J',B6 J sz by' v 1 z=some (.sr (nx J) 0 sz (l.length+1) none,J')/\J'.get (nx J)=some (.cells (l.flatMap enc++z))/\nx J'=nx J+1/\∀a,a<nx J->adr v≠some a->J'.get a=J.get a:=by
 obtain⟨enc',hen⟩:∃enc':Option α->List AV,enc'=fun o=>match o with|none=>z|some a=>enc a:=⟨_,rfl⟩
 have hf:∀l:List α,(l.map some).flatMap enc'=l.flatMap enc:=fun l=>by
  induction l with
  |nil=>rfl
  |cons a l ih=>rw[cn_,bs_,bs_,ih,hen]
 have h':Own J N enc' sz (l.map some) v:=by
  rcases h with⟨h1,h2⟩|⟨a,tl,h1,h2,h3,h4⟩
  ·exact .inl ⟨by rw[h1];rfl,h2⟩
  ·exact .inr ⟨a,tl,h1,h2,gr,gr⟩
 obtain⟨J',k1,k2,k3,_,k5⟩:=h'.app1 (by':=by') gr hN none gr
 rw[cx_]at k1 k5;rw[da_,hf]at k2
 refine⟨J',?_,?_,k3,fun a ha hne=>k5 a ha fun c hc hac=>hne (by rw[hc,hac];rfl)⟩
 ·grind
 grind
theorem A3l{α enc sz N}{l:List α}{v J}(h:Own J N enc sz l v):AV.beq v v=true:=by
 rcases h with⟨_,rfl|rfl⟩|⟨a,tl,_,_,rfl,_⟩
 ·rfl
 ·show(AV.beqs [] []&&Nat.beq sz sz&&Nat.beq 0 0&&Af8 (some 0) (some 0))=true
  simp[AV.beqs,Af8]
 ·exact Asw
theorem A2k{α enc sz N}{l:List α}{v J}(h:Own J N enc sz l v):lenA v=some l.length/\Ad9 v=true:=by
 rcases h with⟨rfl,rfl|rfl⟩|⟨a,tl,_,_,rfl,_⟩<;>exact⟨rfl,rfl⟩
theorem A2l(l):AV.beq (Af l) (Af l)=true:=Ahm (fun x=>beqs1 (Axr x)) l
theorem f80{d:Db}{g:Gr}{n:Int}{gd:List Int}{tm:SM (List Int)}{N a r:Nat}{J:Sto}(hS:Ayj d g n gd tm N a r J)(hD:DbB d)(hvf:d.vars.length+d.frames.length<1000000){i:Nat}{f:Fr}(hf:d.frames[i]? =some f)(hfh:f.hyps.length<=1000000)(hft:f.text.length<1000000)(hht:∀h∈f.hyps,h.text.length<1000000):
  Cv 80 [.pr a 0,nV i] J (.agg (eCm (Ayc d f))):=by
 obtain⟨bs,hbl,hbc,_⟩:=hS.cl;have hno:∀b:Bool,b=true->b=false->False:=gr;refine Aj Tryz.func80 rfl rfl fun hw hu0=>?_
 have hA:a<nx J:=(hw _ _ hbc).1;obtain⟨a4,ha4⟩:∃a4,nx J=a4:=⟨_,rfl⟩;obtain⟨J1,hσ1⟩:∃J1,J.new (.cells [.bool false,nS,nS,.str [],nS,.int .i64 0])=J1:=⟨_,rfl⟩;have n1:nx J1=a4+1:=gr;have g1:∀b,b<a4->J1.get b=J.get b:=gr;have r1:J1.get a4=some (.cells [.bool false,nS,nS,.str [],nS,.int .i64 0]):=gr;have b1:J1.get a=some (.cells (Aym d g n bs r)):=(g1 _ Om).trans hbc;refine G3 ?_;refine O1 (Bj (n:=a4) ziC ha4) ?_;refine G ?_;rw[hσ1];refine G6 ?_;refine O1 (E8 (v:=slV eF 8 d.frames) b1 ldC rfl rfl) ?_;refine G5 ?_;obtain⟨a6,ha6⟩:∃a6,nx J1=a6:=⟨_,rfl⟩;obtain⟨J2,hσ2⟩:∃J2,(J1.new (.cells [.bool false,nS,nS,.str [],nS,.int .i64 0])).set a6 (.cells [.bool (!Nv f.text),nS,nS,.str [],nS,iV 0])=J2:=⟨_,rfl⟩;have n2:nx J2=a4+2:=gr;have g2:∀b,b<a6->J2.get b=J1.get b:=gr;have c2:J2.get a6=some (.cells [.bool (!Nv f.text),nS,nS,.str [],nS,iV 0]):=gr;refine G4 ?_;refine Ca (f134 f.text J1) ?_;refine G2 ?_
 refine O1 (Bj (n:=a6) ziC ha6) (O1 (sO (cs:=[.bool false,nS,nS,.str [],nS,.int .i64 0]) (cs':=[.bool (!Nv f.text),nS,nS,.str [],nS,iV 0]) (by rw[ag_,if_pos ha6.symm])) ?_)
 refine G ?_;rw[hσ2];refine G4 ?_;refine O1 (lO c2) ?_;refine G ?_;refine Ab rfl ?_ ?_<;>intro h1
 ·have h1:Nv f.text=false:=gr;refine G2 ?_;refine O1 (lO c2) (O1 (G1 (cs:=[.bool false,nS,nS,.str [],nS,.int .i64 0]) (cs':=[.bool (!Nv f.text),nS,nS,.str [],nS,iV 0]) ((g2 _ Om).trans r1) ldC rfl rfl rfl rfl) ?_);refine G2 ?_
  refine⟨[.agg [.bool (!Nv f.text),nS,nS,.str [],nS,iV 0]],Am (vs:=[.bool (!Nv f.text),nS,nS,.str [],nS,iV 0]) (ldC (t:=170)) rfl (by simp only[Sto.cells];grind) rfl rfl,.agg [.bool (!Nv f.text),.sv [] 1 0 none,.sv [] 2 0 none,sV [],.sv [] 2 0 none,iV 0],J,am_ hw ⟨gr,gr⟩,by omega,.agg (.cons (.same rfl) (.cons (.nils gr) (.cons (.nils gr) (.cons (.same rfl) (.cons (.nils gr) (.cons (.same rfl) .nil)))))),?_,rfl⟩
  unfold Ayc;rw[if_neg gr,h1];rfl
 ·have h1:Nv f.text=true:=gr;rw[h1]at c2;have hc2:J2.get a6=some (.cells [.bool false,nS,nS,.str [],nS,iV 0]):=c2
  iterate 15 refine G ?_
  refine Ci (fun x:Nat×AV×AV=>[(4,.pr a4 0),(5,.pv (eF f)),(6,.pr a6 0),(7,.fn (.func 135) [] [.pr a6 0,.pv [.pr a 0]]),(28,slV eH 3 f.hyps),(29,nV f.hyps.length),(30,nV x.1)]) (fun x U=>x.1<=f.hyps.length/\Below a4 J U/\a6<nx U/\U.get a4=some (.cells [.bool false,nS,nS,.str [],nS,.int .i64 0])/\U.get a6=some (.cells [.bool false,x.2.1,x.2.2,.str [],nS,iV (Ayk d (f.hyps.take x.1)).code])/\Own U (a6+1) e1 1 (Ayk d (f.hyps.take x.1)).vars x.2.1/\Own U (a6+1) eT 2 (Ayk d (f.hyps.take x.1)).prem x.2.2/\∀b,adr x.2.1=some b->adr x.2.2≠some b) (fun x=>f.hyps.length-x.1) (0,nS,nS) SL ⟨aq_ _,⟨by omega,fun b hb=>(g2 b Om).trans (g1 b Om)⟩,by omega,(g2 _ Om).trans r1,hc2,.nil,.nil,fun b h=>by cases h⟩ ?_
  rintro⟨i0,v1,v2⟩ U ⟨hi0,⟨n0,g0⟩,hx6,hr4,hc6,hov,hop,hne⟩;obtain⟨s,hs⟩:∃s,Ayk d (f.hyps.take i0)=s:=⟨_,rfl⟩;have hsl:=A01 (d:=d) (f.hyps.take i0) ⟨[],[],0⟩
  have hsl:s.vars.length<=i0/\s.prem.length<=i0:=by
   rw[←hs];unfold Ayk
   grind
  have hc6:U.get a6=some (.cells [.bool false,v1,v2,.str [],nS,iV s.code]):=gr;have hov:Own U (a6+1) e1 1 s.vars v1:=gr;have hop:Own U (a6+1) eT 2 s.prem v2:=gr;have hne:∀b,adr v1=some b->adr v2≠some b:=hne;refine G5 ?_;refine Ab rfl ?_ ?_<;>intro h2
  ·have bc:i0<f.hyps.length:=Int.ofNat_lt.1 (of_decide_eq_true h2);obtain⟨h,hh⟩:=Ar bc;have htk:=A22 (d:=d) hh;rw[hs]at htk
   iterate 16 refine G ?_
   refine Ab rfl ?_ ?_<;>intro h3
   ·have hst:Ayk d (f.hyps.take (i0+1))=⟨s.vars++[h.label],s.prem,s.code⟩:=by rw[htk];unfold Ayz;rw[if_pos h3]
    obtain⟨U1,hap,n1',cn,g1'⟩:=dn_ (enc:=e1) (sz:=1) (by':=16) (fun _=>rfl) (show a6+1<=nx U by omega) hov h.label (by simp only[sizeLim];omega)
    have c61:U1.get a6=some (.cells [.bool false,v1,v2,.str [],nS,iV s.code]):=(g1' _ hx6 (fun e=>by have:=(hov.adr_lt e).1;omega)).trans hc6
    refine G2 ?_;refine O1 (lO hc6) ?_;refine G2 ?_;refine Cx (Ai elC byW rfl rfl rfl) (Dv (len:=1)) rfl rfl (O1 (Av elC rfl slC rfl rfl rfl (new:=e1 h.label) rfl hap) ?_);refine G ?_;refine O1 (sO (cs':=[.bool false,.sr (nx U) 0 1 (s.vars.length+1) none,v2,.str [],nS,iV s.code]) c61) ?_;refine G5 ?_
    refine⟨(i0+1,.sr (nx U) 0 1 (s.vars.length+1) none,v2),gr,SL,gr,⟨gr,fun b hb=>by rw[aa_,if_neg Om,g1' b Om (fun e=>by have:=(hov.adr_lt e).1;omega)];exact g0 b hb⟩,gr,?_,?_,?_,?_,?_⟩
    ·rw[aa_,if_neg Om,g1' _ Om (fun e=>by have:=(hov.adr_lt e).1;omega)];exact hr4
    ·grind
    ·show Own _ _ _ _ (Ayk d (f.hyps.take (i0+1))).vars _
     rw[hst];exact cn.of_get gr (fun b q=>by have:=(cn.adr_lt q).1;grind)
    ·show Own _ _ _ _ (Ayk d (f.hyps.take (i0+1))).prem _
     rw[hst];exact hop.of_get gr (fun b q=>by have hq:=hop.adr_lt q;grind)
    ·intro b hb;have hb:some (nx U)=some b:=hb;cases hb
     exact fun e=>by have:=(hop.adr_lt e).2;omega
   ·have h3:h.floating=false:=h3;refine G4 ?_;refine Ca (f134 h.text U) ?_;refine G2 ?_;refine Ab rfl ?_ ?_<;>intro h4
    ·have hst:Ayk d (f.hyps.take (i0+1))=⟨s.vars,s.prem++[(trC d s.code h.text).1],(trC d s.code h.text).2⟩:=by rw[htk];unfold Ayz;grind
     have hWt:Ayj d g n gd tm N a r U:=hS.of_get hw fun b hb=>g0 b Om
     obtain⟨T,e,hTe⟩:∃T e,trC d s.code h.text=(T,e):=⟨_,_,rfl⟩
     obtain⟨lk,kk,hT⟩:∃lk kk,T=.node lk kk:=by cases T;grind
     have h135:=f135 hWt hD hvf hc6 (hht h (ab_ hh));rw[hTe,hT,show En (.node lk kk)=.agg [sV lk,slV eT 2 kk]from Cg lk kk]at h135
     rw[hTe,hT]at hst;obtain⟨U1,hτ1⟩:∃U1,A0r U a6 (.bool false) v1 v2 (.str []) nS (.node lk kk) s.code e=U1:=⟨_,rfl⟩
     have hso:=A2j (T:=.node lk kk) (e:=e) hc6 hx6 (fun q=>by have:=congrArg Prod.snd hTe;unfold trC at this;grind)
     rw[hτ1]at h135 hso;obtain⟨m1,c61,k1⟩:=hso
     have hop1:Own U1 (a6+1) eT 2 s.prem v2:=hop.of_get Om (fun b q=>by have hq:=hop.adr_lt q;grind)
     have hov1:Own U1 (a6+1) e1 1 s.vars v1:=hov.of_get Om (fun b q=>by have hq:=hov.adr_lt q;grind)
     obtain⟨aN,haN⟩:∃aN,nx U1=aN:=⟨_,rfl⟩
     obtain⟨U2,hap,et2,m2,k2⟩:=Own.appZ (enc:=eT) (sz:=2) (by':=40) Dh (z:=[.str [],nS]) rfl (show a6+1<=nx U1 by omega) hop1 (by simp only[sizeLim];omega)
     rw[haN]at hap et2 m2 k2
     have c62:U2.get a6=some (.cells [.bool false,v1,v2,.str [],nS,iV e]):=(k2 _ Om (fun q=>by have:=(hop1.adr_lt q).1;omega)).trans c61
     have cd:Et (s.prem.flatMap eT++[.str [],nS]) (s.prem.length*2) [sV lk,slV eT 2 kk]=some (s.prem.flatMap eT++[sV lk,slV eT 2 kk]):=by
      have:=Ro (p:=s.prem.flatMap eT) (q:=[.str [],nS]) (u:=[sV lk,slV eT 2 kk]) (v:=[]) rfl
      rwa[bh_,bh_,Dl Dh]at this
     have hbt:AV.beq (.agg [sV lk,slV eT 2 kk]) (.agg [sV lk,slV eT 2 kk])=true:=by
      have:=Z8 T;rw[hT,Cl]at this;exact this
     obtain⟨U5,hτ5⟩:∃U5,(U2.set aN (.cells (s.prem.flatMap eT++[sV lk,slV eT 2 kk]))).set a6 (.cells [.bool false,v1,.sr aN 0 2 (s.prem.length+1) none,.str [],nS,iV e])=U5:=⟨_,rfl⟩;have m5:nx U5=aN+1:=gr;have k5:∀b,b<nx U->b≠a6->adr v2≠some b->U5.get b=U.get b:=gr;have c65:U5.get a6=some (.cells [.bool false,v1,.sr aN 0 2 (s.prem.length+1) none,.str [],nS,iV e]):=gr
     have e5:U5.get aN=some (.cells ((s.prem++[Ax.node lk kk]).flatMap eT++[])):=by rw[←hτ5,aa_,if_neg Om,aa_,if_pos rfl,da_,bh_];simp only[bs_,fk_,Cl,bh_]
     refine Avd (Rr:=Dk [(135,[Af h.text,.pr a6 0,.pv [.pr a 0]],U,.agg [sV lk,slV eT 2 kk],U1)]) (a:=aN) (b:=a6) (p:=s.prem.length*2) (q:=2) [.pr a6 2,v2,.fn (.func 135) [] [.pr a6 0,.pv [.pr a 0]],.pv [Af h.text],Af h.text,.agg [sV lk,slV eT 2 kk],nV s.prem.length,.sv [.str [],nS] 2 1 (some 1),.sr aN 0 2 (s.prem.length+1) none,.pr aN (s.prem.length*2),An,.pr a6 2,An] 5 8 10 12 Di (Bw ⟨h135,trivial⟩) rfl rfl Kr Kr rfl rfl rfl rfl Kr Kr Kr rfl rfl rfl rfl rfl rfl rfl Om (by decide) (by decide) (by decide) (by decide) (Bq rfl rfl Bv) (Av elC rfl slC rfl rfl rfl (new:=[.str [],nS]) rfl hap) (G1 (cs':=s.prem.flatMap eT++[sV lk,slV eT 2 kk]) et2 ldC rfl rfl rfl cd) (G1 (cs':=[.bool false,v1,.sr aN 0 2 (s.prem.length+1) none,.str [],nS,iV e]) c62 ldC rfl rfl rfl rfl) (G1 (cs:=[.bool false,v1,v2,.str [],nS,iV e]) (cs':=[.bool false,v1,.sr aN 0 2 (s.prem.length+1) none,.str [],nS,iV e]) gr ldC rfl rfl rfl rfl) rfl rfl rfl hbt rfl Asw rfl rfl ?_ (fun _ _ _ _ _ _=>by kernel_rfl) (fun _ _ _ _ _=>by kernel_rfl) ?_
     ·intro k hk hc υ hυ
      match k,hk,hc with
      |0,_,_=>exact⟨_,_,_,rfl,rfl,Ae (fdC (t:=170) (i:=2)) rfl rfl,rfl,Axv⟩
      |1,_,_=>
       rcases hυ with rfl|rfl|hb
       ·exact⟨_,_,_,rfl,rfl,E8 hc6 (ldC (t:=37)) rfl rfl,rfl,A3l hop⟩
       ·exact⟨_,_,_,rfl,rfl,E8 c61 (ldC (t:=37)) rfl rfl,rfl,A3l hop⟩
       ·exact(hno _ Kr hb).elim
      |2,_,_=>exact⟨_,_,_,rfl,rfl,Ag rfl,rfl,by simp[AV.beq,AV.beqs,Aql]⟩
      |3,_,_=>exact⟨_,_,_,rfl,rfl,Ae (fdC (t:=74) (i:=2)) rfl rfl,rfl,beqs1 (A2l _)⟩
      |4,_,_=>exact⟨_,_,_,rfl,rfl,Ac (ldC (t:=22)) rfl rfl rfl,rfl,A2l _⟩
      |5,_,h=>cases h
      |6,_,_=>exact⟨_,_,_,rfl,rfl,Bf (slC (t:=37)) rfl (A2k hop).1 (A2k hop).2,rfl,Acw _⟩
      |7,_,_=>exact⟨_,_,_,rfl,rfl,Ai (elC (t:=37)) byW rfl rfl rfl,rfl,rfl⟩
      |8,_,h=>cases h
      |9,_,_=>exact⟨_,_,_,rfl,rfl,Br (elC (t:=37)) rfl rfl Om,rfl,Axv⟩
      |10,_,h=>cases h
      |11,_,_=>exact⟨_,_,_,rfl,rfl,Ae (fdC (t:=170) (i:=2)) rfl rfl,rfl,Axv⟩
      |12,_,h=>cases h
      |k+13,hk,_=>exact absurd hk (by simp)
     rw[hτ5];refine G4 ?_
     refine⟨(i0+1,v1,.sr aN 0 2 (s.prem.length+1) none),gr,SL,gr,⟨by omega,fun b hb=>by rw[k5 b Om Om (fun q=>by have:=(hop.adr_lt q).1;omega)];exact g0 b hb⟩,by omega,?_,?_,?_,?_,?_⟩
     ·rw[k5 a4 Om Om (fun q=>by have:=(hop.adr_lt q).1;omega)];exact hr4
     ·grind
     ·show Own _ _ _ _ (Ayk d (f.hyps.take (i0+1))).vars _
      rw[hst];exact hov.of_get Om (fun b q=>by have hq:=hov.adr_lt q;grind)
     ·show Own _ _ _ _ (Ayk d (f.hyps.take (i0+1))).prem _
      rw[hst];exact .inr ⟨aN,[],by omega,by omega,gr,e5⟩
     ·intro b hb e;have e:some aN=some b:=e;cases e;have:=(hov.adr_lt hb).2;omega
    ·have hst:Ayk d (f.hyps.take (i0+1))=s:=by rw[htk];unfold Ayz;grind
     refine G5 ?_;exact⟨(i0+1,v1,v2),gr,SL,gr,⟨n0,g0⟩,hx6,hr4,gr,gr,gr,hne⟩
  ·have bj:f.hyps.length<=i0:=bm_.1 (Int.not_lt.1 (fun q=>of_decide_eq_false h2 q))
   rw[at_ bj]at hs;have hWt:Ayj d g n gd tm N a r U:=hS.of_get hw fun b hb=>g0 b Om
   obtain⟨T,e,hTe⟩:∃T e,trC d s.code f.text=(T,e):=⟨_,_,rfl⟩
   obtain⟨lk,kk,hT⟩:∃lk kk,T=.node lk kk:=by cases T;grind
   have h135:=f135 hWt hD hvf hc6 hft;rw[hTe,hT,show En (.node lk kk)=.agg [sV lk,slV eT 2 kk]from Cg lk kk]at h135
   obtain⟨U1,hτ1⟩:∃U1,A0r U a6 (.bool false) v1 v2 (.str []) nS (.node lk kk) s.code e=U1:=⟨_,rfl⟩
   have hso:=A2j (T:=.node lk kk) (e:=e) hc6 hx6 (fun q=>by have:=congrArg Prod.snd hTe;unfold trC at this;grind)
   rw[hτ1]at h135 hso;obtain⟨m1,c61,k1⟩:=hso;have r41:U1.get a4=some (.cells [.bool false,nS,nS,.str [],nS,.int .i64 0]):=(k1 _ Om Om).trans hr4;obtain⟨U3,hτ3⟩:∃U3,(U1.set a6 (.cells [.bool false,v1,v2,sV lk,slV eT 2 kk,iV e])).set a4 (.cells [.bool false,v1,v2,sV lk,slV eT 2 kk,iV e])=U3:=⟨_,rfl⟩;have m3:nx U3=nx U1:=gr;have k3:∀b,b≠a6->b≠a4->U3.get b=U1.get b:=gr;have c3:U3.get a4=some (.cells [.bool false,v1,v2,sV lk,slV eT 2 kk,iV e]):=gr
   have hov3:Own U3 (a6+1) e1 1 s.vars v1:=hov.of_get Om (fun b q=>by have hq:=hov.adr_lt q;grind)
   have hop3:Own U3 (a6+1) eT 2 s.prem v2:=hop.of_get Om (fun b q=>by have hq:=hop.adr_lt q;grind)
   refine G6 ?_;refine Ca h135 ?_;refine G ?_;refine O1 (sO (cs':=[.bool false,v1,v2,sV lk,slV eT 2 kk,iV e]) c61) ?_;refine G3 ?_;refine O1 (E8 (cs:=[.bool false,v1,v2,sV lk,slV eT 2 kk,iV e]) gr ldC rfl rfl) ?_;refine O1 (G1 (cs:=[.bool false,nS,nS,.str [],nS,.int .i64 0]) (cs':=[.bool false,v1,v2,sV lk,slV eT 2 kk,iV e]) gr ldC rfl rfl rfl rfl) ?_;refine G ?_;rw[hτ3];refine G ?_
   have hut:AV.unds (nx J) [sV lk,slV eT 2 kk]=true:=by rw[←Cl];exact Es _
   have huk:AV.und (nx J) (slV eT 2 kk)=true:=by
    simp only[AV.unds,ad_]at hut;exact hut.2.1
   refine⟨[.agg [.bool false,v1,v2,sV lk,slV eT 2 kk,iV e]],Am (vs:=[.bool false,v1,v2,sV lk,slV eT 2 kk,iV e]) (ldC (t:=170)) rfl (by simp only[Sto.cells];rw[c3]) rfl rfl,.agg [.bool false,Af s.vars,slV eT 2 s.prem,sV lk,slV eT 2 kk,iV e],J,am_ hw ⟨by omega,gr⟩,by omega,.agg (.cons (.same rfl) (.cons (hov3.fz (fun _=>rfl) (fun a ha=>hw.none Om) (A2 D9 _)) (.cons (hop3.fz Dh (fun a ha=>hw.none Om) (by rw[←No];exact Jq _)) (.cons (.same rfl) (.cons (.same huk) (.cons (.same rfl) .nil)))))),?_,rfl⟩
   unfold Ayc;rw[if_pos h1,hs,hTe];unfold eCm;rw[hT,Cl];rfl
end Go.AM
