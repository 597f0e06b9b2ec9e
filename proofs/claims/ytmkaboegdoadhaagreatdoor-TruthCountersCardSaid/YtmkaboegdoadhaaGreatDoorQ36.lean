/- A part of the proof; shortened by program. -/
import Derived.Test.YtmkaboegdoadhaaGreatDoorQ35
set_option maxRecDepth 100000
set_option maxHeartbeats 4000000
set_option linter.unusedSimpArgs false
set_option linter.unusedVariables false
namespace Go.AM
open Go Go.Proofs
theorem f113(a b J):Cv 113 [sV a,sV b] J (.agg [sV a,.bool true,.sv [.str [119,102,102],sV b] 1 2 none]):=by
 refine Aj Tryz.func113 rfl rfl fun hw hu0=>?_
 refine G2 ?_;refine O1 (Bj (n:=nx J) ziC rfl) ?_;refine G ?_;obtain⟨J1,hσ1⟩:∃J1,J.new (.cells [.str [],.bool false,nS])=J1:=⟨_,rfl⟩;rw[hσ1];have n1:nx J1=nx J+1:=gr;have g1:∀b,b<nx J->J1.get b=J.get b:=gr;have r1:J1.get (nx J)=some (.cells [.str [],.bool false,nS]):=gr;refine G4 ?_;refine Cx (Ai elC byW rfl rfl rfl) (Dv (len:=2)) rfl rfl ?_;refine G ?_;refine O1 (sO (cs':=[sV a,.bool true,.sv [.str [119,102,102],sV b] 1 2 none]) r1) ?_;refine G2 ?_
 exact⟨[.agg [sV a,.bool true,.sv [.str [119,102,102],sV b] 1 2 none]],Am (vs:=[sV a,.bool true,.sv [.str [119,102,102],sV b] 1 2 none]) (ldC (t:=74)) rfl (by simp only[Sto.cells];grind) rfl rfl,_,J,am_ hw ⟨gr,gr⟩,nl,.same rfl,rfl,rfl⟩
theorem f61(J):Cv 61 [] J (dbV dB):=by
 refine Aj Tryz.func61 rfl rfl fun hw hu0=>?_
 refine G2 ?_;refine O1 (Bj (n:=nx J) ziC rfl) ?_;refine G ?_;obtain⟨J1,hσ1⟩:∃J1,J.new (.cells [nS,nS,nS])=J1:=⟨_,rfl⟩;rw[hσ1];have n1:nx J1=nx J+1:=gr;have g1:∀b,b<nx J->J1.get b=J.get b:=gr;have r1:J1.get (nx J)=some (.cells [nS,nS,nS]):=gr;refine G7 ?_;refine Ca (f113 [119,112,104] [112,104] _) ?_;refine G ?_;refine Ca (f113 [119,112,115] [112,115] _) ?_;refine G ?_;refine Ca (f113 [119,99,104] [99,104] _) ?_;refine O1 (Bj (n:=nx J1) ziC rfl) (O1 (Bj (n:=nx J1+1) ziC (Ao _ _)) (O1 (Bj (n:=nx J1+2) ziC gr) ?_));refine O1 (G1 (cs:=[.str [],.bool false,nS]) (cs':=[.str [119,112,104],.bool true,.sv [.str [119,102,102],.str [112,104]] 1 2 none]) gr ldC rfl rfl rfl rfl) ?_;refine O1 (G1 (cs:=[.str [],.bool false,nS]) (cs':=[.str [119,112,115],.bool true,.sv [.str [119,102,102],.str [112,115]] 1 2 none]) gr ldC rfl rfl rfl rfl) ?_;refine O1 (G1 (cs:=[.str [],.bool false,nS]) (cs':=[.str [119,99,104],.bool true,.sv [.str [119,102,102],.str [99,104]] 1 2 none]) gr ldC rfl rfl rfl rfl) ?_;refine G ?_;obtain⟨J2,hσ2⟩:∃J2,(((((J1.new (.cells [.str [],.bool false,nS])).new (.cells [.str [],.bool false,nS])).new (.cells [.str [],.bool false,nS])).set (nx J1) (.cells [.str [119,112,104],.bool true,.sv [.str [119,102,102],.str [112,104]] 1 2 none])).set (nx J1+1) (.cells [.str [119,112,115],.bool true,.sv [.str [119,102,102],.str [112,115]] 1 2 none])).set (nx J1+2) (.cells [.str [119,99,104],.bool true,.sv [.str [119,102,102],.str [99,104]] 1 2 none])=J2:=⟨_,rfl⟩;rw[hσ2]
 have n2:nx J2=nx J1+3:=by rw[←hσ2,Aq,Aq,Aq,Ao,Ao,Ao]
 have g2:∀b,b<nx J1->J2.get b=J1.get b:=gr;have p2:J2.get (nx J1)=some (.cells [.str [119,112,104],.bool true,.sv [.str [119,102,102],.str [112,104]] 1 2 none]):=gr;have p3:J2.get (nx J1+1)=some (.cells [.str [119,112,115],.bool true,.sv [.str [119,102,102],.str [112,115]] 1 2 none]):=gr;have p4:J2.get (nx J1+2)=some (.cells [.str [119,99,104],.bool true,.sv [.str [119,102,102],.str [99,104]] 1 2 none]):=gr;refine G2 ?_;refine O1 (Ai elC byW rfl rfl rfl) (O1 (Ai elC byW rfl rfl rfl) (O1 (lO p2) (O1 (lO p3) (O1 (Ai elC byW rfl rfl rfl) (O1 (Ai elC byW rfl rfl rfl) (O1 (lO p4) (O1 (Ai elC byW rfl rfl rfl) ?_)))))));refine G ?_;refine O1 (lO p2) (O1 (Ai elC byW rfl rfl rfl) (O1 (Ai elC byW rfl rfl rfl) (O1 (lO p3) (O1 (lO p4) (O1 (Ai elC byW rfl rfl rfl) ?_)))));refine G ?_;refine O1 (lO p2) (O1 (lO p3) (O1 (Ai elC byW rfl rfl rfl) (O1 (Ai elC byW rfl rfl rfl) (O1 (lO p4) (O1 (Ai elC byW rfl rfl rfl) ?_)))));refine G ?_;refine O1 (Ai elC byW rfl rfl rfl) ?_;refine G ?_;refine O1 (G1 (off:=0) ((g2 _ Om).trans r1) ldC rfl rfl rfl rfl) ?_;refine G2 ?_
 refine⟨_,Am (ldC (t:=25)) rfl (by simp only[Sto.cells];rw[aa_,if_pos rfl]) rfl rfl,dbV dB,J,am_ hw ⟨gr,gr⟩,nl,Ahs 12 _ _ Kr,rfl,rfl⟩
theorem f62(J):Cv 62 [] J (mdV mB):=by
 refine Aj Tryz.func62 rfl rfl fun hw hu0=>?_
 refine G2 ?_;refine O1 (Bj (n:=nx J) ziC rfl) ?_;refine G3 ?_;refine O1 (Ai elC byW rfl rfl rfl) (O1 (Ai elC byW rfl rfl rfl) ?_);refine G ?_;refine O1 (Ai elC byW rfl rfl rfl) ?_;refine G ?_;refine O1 (Ai elC byW rfl rfl rfl) ?_;refine G ?_
 refine O1 (sO (off:=0) (by rw[ag_,if_pos rfl])) ?_
 refine G2 ?_
 refine⟨_,Am (ldC (t:=62)) rfl (by simp only[Sto.cells];rw[aa_,if_pos rfl]) rfl rfl,mdV mB,J,am_ hw ⟨gr,gr⟩,nl,Ahs 12 _ _ Kr,rfl,rfl⟩
theorem f64w(s J):Cv 64 [sV s] J (.agg [sV s,.sv [] 2 0 none]):=by
 refine Aj Tryz.func64 rfl rfl fun hw hu0=>?_
 refine G2 ?_;refine O1 (Bj (n:=nx J) ziC rfl) ?_;refine G5 ?_
 refine O1 (sO (off:=0) (by rw[ag_,if_pos rfl])) ?_
 refine G2 ?_
 refine⟨_,Am (ldC (t:=39)) rfl (by simp only[Sto.cells];rw[aa_,if_pos rfl]) rfl rfl,.agg [sV s,.sv [] 2 0 none],J,am_ hw ⟨gr,gr⟩,nl,.agg (.cons (.same rfl) (.cons (.nils gr) .nil)),rfl,rfl⟩
theorem f63(s ks J):Cv 63 [sV s,slV eT 2 ks] J (.agg [sV s,slV eT 2 ks]):=by
 refine Aj Tryz.func63 rfl rfl fun hw hu0=>?_
 refine G2 ?_;refine O1 (Bj (n:=nx J) ziC rfl) ?_;refine G6 ?_
 refine O1 (sO (off:=0) (by rw[ag_,if_pos rfl])) ?_
 refine G2 ?_
 refine⟨_,Am (ldC (t:=39)) rfl (by simp only[Sto.cells];rw[aa_,if_pos rfl]) rfl rfl,_,J,am_ hw ⟨gr,gr⟩,nl,.same (by show AV.unds _ [sV s,slV eT 2 ks]=true;grind),rfl,rfl⟩
theorem A5m(x):D4 Ew.P 136 (.agg (eVl x))=some (.agg [kS x.var,.int .i64 x.val]):=Kr
theorem A40(x:Ayb):Key.eq (.agg [kS x.var,.int .i64 x.val]) (.agg [kS x.var,.int .i64 x.val])=true:=by
 show cond (Key.eq (kS x.var) (kS x.var)) (cond (Key.eq (.int .i64 x.val) (.int .i64 x.val)) true false) false=true
 rw[Abl,decide_eq_true rfl,show Key.eq (.int .i64 x.val) (.int .i64 x.val)=true by show(Ed .i64 .i64&&Tz x.val x.val)=true;rw[Nn,decide_eq_true rfl];rfl]
 rfl
theorem f65(l J)(hb:l.length<4611686018427387904):Cv 65 [slV eVl 2 l,slV eVl 2 l] J (.bool true):=by
 refine Aj Tryz.func65 rfl rfl fun hw hu0=>?_
 iterate 13 refine G ?_
 refine Ab rfl ?_ ?_<;>intro h1
 ·simp at h1
 ·refine G9 ?_;refine Bz l.length (fun i0=>[(0,slV eVl 2 l),(1,slV eVl 2 l),(12,iV (.ofNat l.length)),(13,iV (.ofNat i0))]) (fun i0 J0=>J0=J) SL rfl ?_
  rintro i0 J0 hi0 rfl;refine G5 ?_;refine Ab rfl ?_ ?_<;>intro h2
  ·have bc:i0<l.length:=gr;obtain⟨a0,ha0⟩:=Ar bc;refine G9 ?_;refine X0 ?_;refine G8 ?_;refine DF (Aw3 okC rfl rfl rfl rfl (A5m a0) (A5m a0)) ?_;refine G ?_;refine⟨rfl,rfl,?_⟩;refine Ab rfl ?_ ?_<;>intro h3
   ·rw[A40]at h3;cases h3
   ·refine G5 ?_;exact⟨bc,SL,rfl⟩
  ·refine G6 ?_;exact⟨_,rfl,_,_,a_ hw nl (fun _ _=>rfl),nl,.same rfl,rfl,rfl⟩
theorem f39{d m}(J)(hD:DbB d)(hvf:d.vars.length+d.frames.length<1000000)(hfr:∀f∈d.frames,f.hyps.length<=1000000/\f.text.length<1000000/\∀h∈f.hyps,h.text.length<1000000)(hM:MdB m)(hC:∀f∈d.frames,Ayd (ofF d) m=0->A07 (ofF d).1 (Ayc d f))(hO:Ayd (ofF d) m=0){fuel}(hf1:1<=fuel)(hf9:fuel<=100000)(hR:∀M,A0b m.des m.n (tmO d m) fuel ((Ayg d d.frames.length).map (·.1)) 0 M->M=(true,0,0)):
  Cv 39 [dbV d,mdV m,iV fuel] J (.tup [.bool true,iV 0,iV 0]):=by
 obtain⟨g1,g5,gT⟩:=Ayu hO;have hcl:=Azf d d.frames.length;have hvf2:=hvf;refine Aj Tryz.func39 rfl rfl fun hw hu0=>?_
 iterate 13 refine G ?_
 refine Az rfl rfl rfl rfl (f78 d m J hD hvf hM (show 0<=fuel by omega) hf9) ?_
 rintro _ U ⟨p,rfl,hu9,hB,hp⟩;obtain⟨rfl,hS⟩:=hp hO;rw[hO];refine G12 ?_;refine Ab rfl gr (fun h1=>?_)
 have hcm:∀c∈(Ayg d d.frames.length).map (·.1),A07 (ofF d).1 c:=fun c hc=>by
  obtain⟨x,hx,rfl⟩:=bt_.1 hc;obtain⟨i,_,hi⟩:=List.mem_filterMap.1 hx;unfold A13 at hi
  grind
 refine G4 ?_;refine Ca (f81 hS.g hD hvf hfr) ?_;refine G11 ?_;refine Az rfl rfl rfl rfl (f97 hS.g gT g1 g5 hcm gr hf1 hf9) ?_;rintro _ _ ⟨M,rfl,hMr,rfl⟩;rw[hR M hMr]
 iterate 13 refine G ?_
 refine Qh 2 _ false rfl rfl rfl rfl rfl (Eh rfl) gr (fun hg=>?_) ?_
 ·refine Co rfl rfl rfl rfl rfl rfl (Co rfl rfl rfl rfl rfl rfl ?_);refine G ?_;exact⟨rfl,sb⟩
 refine G ?_;refine Ab rfl (fun h2=>?_) gr
 refine G9 ?_;exact⟨_,rfl,_,J,am_ hw hB,nl,.same rfl,rfl,rfl⟩
theorem A3c{v cs sz len c}(h:v=.sv cs sz len none):Wk (.sv cs sz len (some c)) v:=by rw[h];exact Dv
def xV:AV:=.sv [.str [124,45],.str [40],.str [112,104],.str [45,62],.str [112,115],.str [41]] 1 6 (some 6)
def kV:AV:=.sv [sV lph,.sv [] 2 0 none] 2 1 (some 1)
def lVl:AV:=.sv [sV lph,iV 1] 2 1 (some 1)
theorem f23(J):Cv 23 [] J (.bool true):=by
 obtain⟨hD,hvf,hsm⟩:=Ac1 A5v
 have hM:MdB mB:=⟨by decide,by decide,by decide⟩
 have hfr:∀f∈dB.frames,f.hyps.length<=1000000/\f.text.length<1000000/\∀h∈f.hyps,h.text.length<1000000:=fun f hf=>⟨by have:=(hD.f f hf).h;omega,gr,gr⟩
 have hCm:∀f∈dB.frames,Ayd (ofF dB) mB=0->A07 (ofF dB).1 (Ayc dB f):=fun f hf hO=>A3s hO hf (hD.f f hf).h
 have h39:Cv 39 [dbV dB,mdV mB,iV 100] J (.tup [.bool true,iV 0,iV 0]):=f39 J hD hvf hfr hM hCm A4x (by decide) (by decide) fun M h=>A4z h
 have h30:Cv 30 [dbV dB,mdV mB,xV,iV 100] J (.tup [slV eVl 2 lB,iV 0]):=by
  have h:=f30 dB mB J hD hvf hfr hM hCm (l:=xB) (by decide) (fun _=>Ay4 dB xB) (fuel:=100) (by decide) (by decide)
  refine Al.wk (h.mono fun v J' hq=>?_) (.cons .rfl' (.cons .rfl' (.cons (A3c rfl) (.cons .rfl' .nil))))
  obtain⟨R',e1,e2,e3⟩:=hq;rw[A5d e2]at e1
  grind
 have h63:Cv 63 [sV [119,110],kV] J (.agg [sV [119,110],slV eT 2 [vph]]):=
  Al.wk (f63 [119,110] [vph] J) (.cons .rfl' (.cons (A3c (by unfold slV;simp only[bs_,fk_,vph,Cl];rfl)) .nil))
 have h27:Cv 27 [dbV dB,mdV mB,.agg [sV [119,110],slV eT 2 [vph]],lVl] J (.tup [iV 0,iV 0]):=by
  have h:=f27 dB mB tN [⟨lph,1⟩] J hD hvf hM (by decide) (by decide) (by decide)
  rw[A5l.1,A5l.2,show En tN=.agg [sV [119,110],slV eT 2 [vph]]from Cg _ _]at h
  exact Al.wk h (.cons .rfl' (.cons .rfl' (.cons .rfl' (.cons (A3c rfl) .nil))))
 have h65:∀J,Cv 65 [slV eVl 2 lB,slV eVl 2 lB] J (.bool true):=fun J=>f65 lB J (by decide)
 refine Aj Tryz.func23 rfl rfl fun hw hu0=>?_
 refine G6 ?_;refine Ca (f61 J) ?_;refine G3 ?_;refine XX 1 (l:=[(62,[],J,mdV mB,J),(39,[dbV dB,mdV mB,iV 100],J,.tup [.bool true,iV 0,iV 0],J)]) ⟨f62 J,h39,trivial⟩ ?_;refine G2 ?_
 refine DT (Bq rfl rfl (Dw (by decide) Bv)) ?_
 refine G8 ?_
 refine⟨(by intro e he;simp at he;rcases he with rfl|rfl|rfl<;>exact .refl),?_⟩
 refine G ?_;refine XX 1 (l:=[(62,[],J,mdV mB,J),(30,[dbV dB,mdV mB,xV,iV 100],J,.tup [slV eVl 2 lB,iV 0],J)]) ⟨f62 J,h30,trivial⟩ ?_;refine G2 ?_
 refine DF (Ai elC byW rfl rfl rfl) (DT (Bq rfl rfl (Dw (by decide) Bv)) ?_)
 refine G6 ?_
 refine⟨(by intro e he;simp at he;rcases he with rfl|rfl|rfl<;>exact .refl),?_⟩
 refine G ?_;refine XX 3 (l:=[(62,[],J,mdV mB,J),(64,[sV lph],J,.agg [sV lph,.sv [] 2 0 none],J),(63,[sV [119,110],kV],J,.agg [sV [119,110],slV eT 2 [vph]],J),(27,[dbV dB,mdV mB,.agg [sV [119,110],slV eT 2 [vph]],lVl],J,.tup [iV 0,iV 0],J)]) ⟨f62 J,f64w lph J,h63,h27,trivial⟩ ?_;refine G ?_
 refine DT (Bq rfl rfl (Bv)) (DT (Bq rfl rfl (Dw (by decide) Bv)) ?_)
 refine DF (Ai elC byW rfl rfl rfl) (DT (Bq rfl rfl (Dw (by decide) (Dw (by decide) Bv))) ?_)
 refine G ?_
 refine DF (Ai elC byW rfl rfl rfl) (DT (Bq rfl rfl (Dw (by decide) (Dw (by decide) (Dw (by decide) Bv)))) ?_)
 refine G6 ?_
 refine⟨(by intro e he;simp at he;rcases he with rfl|rfl|rfl|rfl|rfl<;>exact .refl),?_⟩
 refine G4 ?_;refine Bi rfl rfl rfl rfl rfl noR rfl rfl (Ag rfl) (Bi rfl rfl rfl rfl rfl noR rfl rfl (H4 (q:=0) okC rfl rfl) (O1 (A3 rfl rfl rfl) ?_));refine G ?_;refine Bi rfl rfl rfl rfl rfl noR rfl rfl (Ag rfl) (Bi rfl rfl rfl rfl rfl noR rfl rfl (H4 (q:=0) okC rfl rfl) (O1 (A3 rfl rfl rfl) ?_));refine G ?_;refine Bi rfl rfl rfl rfl rfl noR rfl rfl (Ag rfl) (Bi rfl rfl rfl rfl rfl noR rfl rfl (H4 (q:=0) okC rfl rfl) (O1 (A3 rfl rfl rfl) ?_));refine G ?_;refine Bi rfl rfl rfl rfl rfl noR rfl rfl (Ag rfl) (Bi rfl rfl rfl rfl rfl noR rfl rfl (H4 (q:=0) okC rfl rfl) (O1 (A3 rfl rfl rfl) ?_));refine G ?_;refine Bi rfl rfl rfl rfl rfl noR rfl rfl (Ag rfl) (Bi rfl rfl rfl rfl rfl noR rfl rfl (Ut bdC rfl rfl) (Bi rfl rfl rfl rfl rfl noR rfl rfl (Ut bdC rfl rfl) (Ato (Ai elC byW rfl rfl rfl) (Dv (len:=2)) (Bh rfl rfl rfl rfl rfl rfl rfl rfl (h65 _) (O1 (A3 rfl rfl rfl) ?_)))));refine G3 ?_;exact⟨_,rfl,_,_,a_ hw nl (fun _ _=>rfl),nl,.same rfl,rfl,rfl⟩
theorem law5(d m k)(hk:k<256)(text J):Cv 5 [dbV d,mdV m,.int .u8 (.ofNat k),Af text] J (.bool true):=f5L d m k hk text f23 J
end Go.AM
