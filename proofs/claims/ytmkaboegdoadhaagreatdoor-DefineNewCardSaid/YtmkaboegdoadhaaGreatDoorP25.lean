/- A part of the proof; shortened by program. -/
import Derived.Test.YtmkaboegdoadhaaGreatDoorP24
set_option maxRecDepth 100000
set_option maxHeartbeats 4000000
set_option linter.unusedSimpArgs false
set_option linter.unusedVariables false
namespace Go.AM
open Go Go.Proofs
theorem Tv:∀l:List Nat,Fm l l=true
 |[]=>rfl
 |x::r=>by simp only[Fm,aw_,cond_true,Tv r]
theorem Acw(n:Nat):AV.beq (nV n) (nV n)=true:=by
 show(Ed .i64 .i64&&Nat.beq n n)=true
 rw[aw_];rfl
theorem Axr(s:Str):AV.beq (sV s) (sV s)=true:=Tv _
theorem Vq:∀{a b:List AV},AV.beqs a a=true->AV.beqs b b=true->AV.beqs (a++b) (a++b)=true
 |[],b,_,h=>h
 |x::a,b,h,k=>by
  simp only[ay_,AV.beqs,ad_]at h⊢;exact⟨h.1,Vq h.2 k⟩
theorem Afq{α:Type}{enc:α->List AV}(h:∀x,AV.beqs (enc x) (enc x)=true):∀l:List α,AV.beqs (l.flatMap enc) (l.flatMap enc)=true
 |[]=>rfl
 |x::l=>by rw[bs_];exact Vq (h x) (Afq h l)
theorem Ahm{α:Type}{enc:α->List AV}{sz:Nat}(h:∀x,AV.beqs (enc x) (enc x)=true)(l:List α):AV.beq (slV enc sz l) (slV enc sz l)=true:=by
 show(AV.beqs (l.flatMap enc) (l.flatMap enc)&&Nat.beq sz sz&&Nat.beq l.length l.length&&true)=true
 rw[Afq h,aw_,aw_];rfl
theorem beqs1{x:AV}(h:AV.beq x x=true):AV.beqs [x] [x]=true:=by simp only[AV.beqs,h,be_]
theorem Asu(w:Wy):AV.beqs (eWy w) (eWy w)=true:=by
 have:=Ahm (enc:=eN) (sz:=1) (fun n=>beqs1 (Acw n)) w.kids
 simp only[eWy,AV.beqs,Acw,this,be_]
theorem Asv(x:Nde):AV.beqs (eNd x) (eNd x)=true:=by
 have:=Ahm (sz:=2) Asu x.ways;simp only[eNd,AV.beqs,Acw,Axr,this,be_]
theorem Asw{a s n:Nat}{c:Option Nat}:AV.beq (.sr a 0 s n c) (.sr a 0 s n c)=true:=by
 have hc:Af8 c c=true:=by
  cases c with
  |none=>rfl
  |some x=>exact aw_ x
 show(Nat.beq a a&&Nat.beq 0 0&&Nat.beq s s&&Nat.beq n n&&Af8 c c)=true
 rw[hc,aw_,aw_,aw_,aw_];rfl
def Lb:List Oper->List AV->Ad->Nat->Ad
 |_,_,ρ,0=>ρ
 |o::r,v::vs,ρ,k+1=>Lb r vs (Dt o.dst v ρ) k
 |_,_,ρ,_=>ρ
theorem Vr {nt : Nat} : ∀ {ops : List Oper} {vl : List AV} {ρ : Ad} {tm : Tr AV},Has tm ρ -> ops.length = vl.length -> ops.all (fun o => B0 nt o.dst) = true -> ∃ tl,Adi nt ops vl tm = some tl /\ ∀ k,k <= ops.length -> Has (tl.getD k .e) (Lb ops vl ρ k)
  | [],[],ρ,tm,h,_,_ => ⟨[tm],rfl,fun k hk => by cases (show k = 0 by simpa using hk); exact h⟩
  | o :: r,v :: vs,ρ,tm,h,hl,hd => by
    simp only [cs_,ad_] at hd;obtain ⟨tm',h1,h2⟩ := C6 (dst := o.dst) hd.1 h v
    obtain ⟨tl,h3,h4⟩ := Vr (vl := vs) h2 (by simpa using hl) hd.2
    refine ⟨tm :: tl,by simp only [Adi,h1,h3],fun k hk => ?_⟩
    cases k with
    | zero => exact h
    | succ k => exact h4 k (by simpa using hk)
  | [],_ :: _,_,_,_,h,_ => by simp at h
  | _ :: _,[],_,_,_,h,_ => by simp at h
def Vs(n:Nat)(b es:List Nat)(x:Nd×List Nat):Bool:=
 (es.all fun e=>x.1.D.contains e|| !Sz b es x.1.D e||x.2.contains e)&&
 (List.range n).all fun k=>x.1.D.contains k|| !Sz b es x.1.D k||Aeb b x.1.U k
theorem Ajx{E:Env}{ops:List Oper}{R:Rec}{T:Nat->Tr AV}{V:Nat->AV}{b es:List Nat}{x:Nd×List Nat}(h:Vs ops.length b es x=true)(hc:∀k,k<ops.length->es.contains k=false->Lp E ops R T V x.1.σ k=true):Hm E ops R T V b es x=true:=by
 unfold Vs at h;unfold Hm;rw[ad_]at h⊢;refine⟨h.1,?_⟩;rw[b_];intro k hk;have h2:=(b_.1 h.2) k hk;have hk':k<ops.length:=cw_.1 hk;cases he:es.contains k with
 |true=>simpa using h2
 |false=>rw[hc k hk' he];simpa using h2
theorem Axs{E:Env}{nt B:Nat}{df:List (Nat×List AV)}{Q:Cc}{ρ:Ad}{σ σ':Sto}{id:Nat}{ops:Array Oper}(vl:List AV)(hm:E.P.follows .mixedOrders=true)(hl:ops.toList.length=vl.length)(hd:ops.toList.all (fun o=>B0 nt o.dst)=true)(hcl:(Eu ops (Region.before ops).toList&&Fo ops)=true)
  (hc:∀(tl:List (Tr AV)),(∀k,k<=ops.toList.length->Has (tl.getD k .e) (Lb ops.toList vl ρ k))->∃nl nf,Ne E ops.toList (fun _ _ _=>none) (fun k=>tl.getD k .e) (fun k=>vl.getD k .any) (Region.before ops).toList (A8 E ops.toList 0) [] σ=some (nl,nf)/\nf.σ=σ'/\(∀k τ,k<ops.toList.length->(A8 E ops.toList 0).contains k=false->Lp E ops.toList (fun _ _ _=>none) (fun k=>tl.getD k .e) (fun k=>vl.getD k .any) τ k=true)/\(nl++[(nf,[])]).all (Vs ops.toList.length (Region.before ops).toList (A8 E ops.toList 0))=true/\(nl.all fun x=>(A8 E ops.toList 0).any fun e=> !x.1.D.contains e)=true)
  (k:Q .normal (Lb ops.toList vl ρ ops.toList.length) σ'):T E nt df B (.region id ops true) Q ρ σ:=by
 intro ro n hro C w tm a ht st hB;obtain⟨tl,h1,h2⟩:=Vr (nt:=nt) ht hl hd;obtain⟨nl,nf,h3,h4,h5,h6,h7⟩:=hc tl h2
 have hp:Rd E ops (fun _ _ _=>none) ⟨tm,nt,df,σ⟩ vl=some ⟨tl.getD ops.size .e,nt,df,nf.σ⟩:=by
  unfold Rd;simp only[h1,hcl,h3];rw[h7]
  have:(nl++[(nf,[])]).all (Hm E ops.toList (fun _ _ _=>none) (fun k=>tl.getD k .e) (fun k=>vl.getD k .any) (Region.before ops).toList (A8 E ops.toList 0))=true:=by
   rw[b_]at h6⊢;exact fun x hx=>Ajx (h6 x hx) fun k hk he=>h5 k _ hk he
  rw[this];rfl
 refine wpIn_mono (Ss hm di_ st hp) fun e a' w' he=>?_
 obtain⟨y,hy,C',g1,g2,g3⟩:=he;rw[ao_]at hy;subst hy
 have hsz:ops.size=ops.toList.length:=by simp
 refine⟨.normal,_,_,nf.σ,C',g1,h2 _ (ef_ hsz),?_,g2,ai_ hB g3.next,g3.base hB⟩;rw[hsz,h4];exact k
theorem Ahn{E:Env}{ops:List Oper}{R:Rec}{T:Nat->Tr AV}{V:Nat->AV}{σ τ:Sto}{k:Nat}{o:Oper}{ρ:Ad}{v:AV}(ho:ops[k]? =some o)(hg:o.guard=none)(ht:Has (T k) ρ)(hv:V k=v)(hb:AV.beq v v=true)(h:As E R o.op ρ σ v τ):Lp E ops R T V σ k=true:=by
 unfold Lp
 have hgd:Bn ops o (T k)=some true:=by unfold Bn;rw[hg]
 simp only[ho,hgd,h (T k) ht,hv,hb]
theorem O5{E:Env}{ops:List Oper}{R:Rec}{o:Oper}{ρ:Ad}{tm:Tr AV}{σ τ:Sto}{v:AV}(hg:o.guard=none)(ht:Has tm ρ)(h:As E R o.op ρ σ v τ):Ahv E ops R o tm σ=some (v,τ):=by
 unfold Ahv
 have hgd:Bn ops o tm=some true:=by unfold Bn;rw[hg]
 simp only[hgd,h tm ht]
theorem Au4{E:Env}{nt B:Nat}{df:List (Nat×List AV)}{Q:Cc}{ρ:Ad}{σ σi σj σf:Sto}{id:Nat}{ops:Array Oper}(vl:List AV)(i j e:Nat){oi oj oe:Oper}{t x y t' x' y'}{s1 l1 s2 l2:Nat}{c1 c2:Option Nat}{A A':List AV}{ve:AV}(hm:E.P.follows .mixedOrders=true)(hl:ops.toList.length=vl.length)(hd:ops.toList.all (fun o=>B0 nt o.dst)=true)(hcl:(Eu ops (Region.before ops).toList&&Fo ops)=true)
  (hes:A8 E ops.toList 0=[i,j,e])(hoi:ops.toList[i]? =some oi)(hoj:ops.toList[j]? =some oj)(hoe:ops.toList[e]? =some oe)(hb:((Region.before ops).toList.getD j 0).testBit i=false)
  (hmi:oi.op=.makeSlice t x y)(hmj:oj.op=.makeSlice t' x' y')(hgi:oi.guard=none)(hgj:oj.guard=none)(hge:oe.guard=none)(hij:Nat.beq i j=false)(hil:i<=ops.toList.length)(hjl:j<=ops.toList.length)(hel:e<=ops.toList.length)
  (h1:As E (fun _ _ _=>none) oi.op (Lb ops.toList vl ρ i) σ (.sr (nx σ) 0 s1 l1 c1) σi)(h2:As E (fun _ _ _=>none) oj.op (Lb ops.toList vl ρ j) σ (.sr (nx σ) 0 s2 l2 c2) σj)(gi:σi.get (nx σ)=some (.cells A))(gj:σj.get (nx σ)=some (.cells A'))
  (hvi:vl.getD i .any=.sr (nx σ+2) 0 s1 l1 c1)(hvj:vl.getD j .any=.sr (nx σ+3) 0 s2 l2 c2)
  (h3:As E (fun _ _ _=>none) oe.op (Lb ops.toList vl ρ e) (((((σi.new (.cells A')).kill (nx σ)).kill (nx σ+1)).new (.cells A)).new (.cells A')) ve σf)(hve:vl.getD e .any=ve)(hbe:AV.beq ve ve=true)
  (cy:∀k,k<ops.toList.length->([i,j,e]:List Nat).contains k=false->∀τ:Sto,∃o v τ',ops.toList[k]? =some o/\o.guard=none/\As E (fun _ _ _=>none) o.op (Lb ops.toList vl ρ k) τ v τ'/\vl.getD k .any=v/\AV.beq v v=true)
  (dc:∀(v1 v2:AV) (s1 s2 s3 s4 s5:Sto),([((⟨[],s1,[]⟩:Nd),[i,j]),(⟨[i],s2,[(i,v1)]⟩,[j]),(⟨[j],s3,[(j,v2)]⟩,[i]),(⟨[j,i],s4,[]⟩,[e]),(⟨[e,j,i],s5,[]⟩,[])]:NL).all (Vs ops.toList.length (Region.before ops).toList [i,j,e])=true)
  (cw:∀(v1 v2:AV) (s1 s2 s3 s4:Sto),(([((⟨[],s1,[]⟩:Nd),[i,j]),(⟨[i],s2,[(i,v1)]⟩,[j]),(⟨[j],s3,[(j,v2)]⟩,[i]),(⟨[j,i],s4,[]⟩,[e])]:NL).all fun x=>([i,j,e]:List Nat).any fun e=> !x.1.D.contains e)=true)
  (k:Q .normal (Lb ops.toList vl ρ ops.toList.length) σf):T E nt df B (.region id ops true) Q ρ σ:=by
 refine Axs vl hm hl hd hcl (fun tl hT=>?_) k
 rw[hes];have e1:=O5 (ops:=ops.toList) hgi (hT i hil) h1;have e2:=O5 (ops:=ops.toList) hgj (hT j hjl) h2;have e3:=O5 (ops:=ops.toList) hge (hT e hel) h3
 have ip:N2 E ops.toList (fun _ _ _=>none) (fun k=>tl.getD k .e) (fun k=>vl.getD k .any) i j [] σ=some ([(⟨[],σ,[]⟩,[i,j]),(⟨[i],σi,[(i,.sr (nx σ) 0 s1 l1 c1)]⟩,[j]),(⟨[j],σj,[(j,.sr (nx σ) 0 s2 l2 c2)]⟩,[i])],((((σi.new (.cells A')).kill (nx σ)).kill (nx σ+1)).new (.cells A)).new (.cells A')):=by
  unfold N2;simp only[hoi,hoj,e1,e2,hmi,hmj,gi,gj,hvi,hvj,hij,Asw,fc_,be_,cond_true]
 have hch:Ps E ops.toList (fun _ _ _=>none) (fun k=>tl.getD k .e) (fun k=>vl.getD k .any) e (((((σi.new (.cells A')).kill (nx σ)).kill (nx σ+1)).new (.cells A)).new (.cells A'))=some σf:=by
  unfold Ps;simp only[hoe,e3,hve,hbe,cond_true]
 refine⟨[(⟨[],σ,[]⟩,[i,j]),(⟨[i],σi,[(i,.sr (nx σ) 0 s1 l1 c1)]⟩,[j]),(⟨[j],σj,[(j,.sr (nx σ) 0 s2 l2 c2)]⟩,[i]),(⟨[j,i],((((σi.new (.cells A')).kill (nx σ)).kill (nx σ+1)).new (.cells A)).new (.cells A'),[]⟩,[e])],⟨[e,j,i],σf,[]⟩,?_,rfl,fun k τ hk hc=>?_,dc _ _ _ _ _ _ _,cw _ _ _ _ _ _⟩
 ·simp only[Ne,hb,ip,hch]
  rfl
 ·obtain⟨o,v,τ',q1,q2,q3,q4,q5⟩:=cy k hk hc τ;exact Ahn q1 q2 (hT k (gb_ hk)) q4 q5 q3
def ctV(F:List Nde)(c:Cs):AV:=.pv [slV eNd 4 F,slV eN 1 c.1,slV eN 1 c.2]
theorem Asx(n:Nat):rep [.int .i64 0] n=(List.replicate n 0).flatMap eN:=by
 induction n with
 |zero=>rfl
 |succ n ih=>rw[List.replicate_succ,bs_,←ih];rfl
theorem Anu{σ τ:Sto}{a n:Nat}{cap:Option Nat}{l:List Nat}(h:σ.get a=some (.cells (l.flatMap eN)))(hl:l.length=n)(hτ:τ.get a=none):Fz σ τ (.sr a 0 1 n cap) (slV eN 1 l):=by
 subst hl
 have b9:Dr (l.length*1) ((l.flatMap eN).drop 0)=some (l.flatMap eN):=by
  have:=D0 (l:=l.flatMap eN) (r:=[]);rw[Dl Ep,bh_]at this;exact this
 exact .sr h hτ b9 (dj_ (A2 Ajp _))
theorem Ajy{F:List Nde}:CI F (List.replicate F.length 0,List.replicate F.length 0) []:=by
 have h0:∀n,(List.replicate F.length 0).getD n 0=0:=gr
 refine⟨by simp,by simp,by simp,gr,fun n=>?_,gr⟩
 grind
theorem Aho{g:Gr}{F:List Nde}(hF:FOk g F.length F)(h0:0<F.length){c:Cs}(h:Yx F=some c):∃E,CI F c E/\0∈E:=by
 obtain⟨E,h1,h2⟩:=Z5 hF _ 0 _ [] c Ajy h0 h;exact⟨E,h1.ci,h2⟩
theorem Ajz{g:Gr}{F:List Nde}(hF:FOk g F.length F)(h0:0<F.length){c:Cs}(h:Yx F=some c):c.1.length=F.length/\c.2.length=F.length:=by
 obtain⟨E,h1,_⟩:=Aho hF h0 h;exact⟨h1.l1,h1.l2⟩
def cntV(F:List Nde):AV:=match Yx F with
 |some c=>.tup [ctV F c,iV 0]
 |none=>.tup [.nil (.pointer none),iV 161]
theorem f122{g:Gr}{F:List Nde}(hF:FOk g F.length F)(hFB:FB F)(h0:0<F.length)(σ:Sto):Cv 122 [fV F] σ (cntV F):=by
 unfold cntV;refine Aj Tryz.func122 rfl rfl fun hw hu0=>?_
 iterate 14 refine G ?_
 refine Ab rfl ?_ ?_<;>intro h1
 ·grind
 ·skip
  refine G10 ?_;refine Bz F.length (fun i0=>[(1,.pv [slV eNd 4 F]),(16,slV eNd 4 F),(17,nV F.length),(18,nV i0)]) (fun i0 σ0=>σ0=σ) SL rfl ?_
  rintro i0 σ0 hi0 hq0;subst hq0;refine G5 ?_;refine Ab rfl ?_ ?_<;>intro h2
  ·have bc:i0<F.length:=Int.ofNat_lt.1 (of_decide_eq_true h2);have hFB1:=hFB.1;obtain⟨x,hx⟩:=Ar bc;have hxF:=ab_ hx;have hxb:=hFB.2 x hxF;refine G5 ?_;refine O1 (A1 elC Mw rfl rfl hx) (O1 (Ac ldC rfl rfl (A6 (Mw x) _)) (Ho ziC ldC rfl (fun _=>rfl) rfl (A7 (Mw x)) rfl rfl ?_))
   refine G9 ?_;refine Bz x.ways.length (fun i2=>[(1,.pv [slV eNd 4 F]),(16,slV eNd 4 F),(17,nV F.length),(18,nV i0),(23,slV eWy 2 x.ways),(24,nV x.ways.length),(25,nV i2)]) (fun i2 σ2=>σ2=σ0) SL rfl ?_
   rintro i2 σ2 hi2 hq2;subst hq2;refine G5 ?_;refine Ab rfl ?_ ?_<;>intro h3
   ·have bv:i2<x.ways.length:=Int.ofNat_lt.1 (of_decide_eq_true h3);obtain⟨w,hwy⟩:=Ar bv;have hwx:=ab_ hwy;have hkl:=hxb.2 w hwx;refine G5 ?_;refine O1 (A1 elC Gq rfl rfl hwy) (O1 (Ac ldC rfl rfl (A6 (Gq w) _)) (Ho ziC ldC rfl (fun _=>rfl) rfl (A7 (Gq w)) rfl rfl ?_))
    refine G9 ?_;refine Bz w.kids.length (fun i4=>[(1,.pv [slV eNd 4 F]),(16,slV eNd 4 F),(17,nV F.length),(18,nV i0),(23,slV eWy 2 x.ways),(24,nV x.ways.length),(25,nV i2),(30,slV eN 1 w.kids),(31,nV w.kids.length),(32,nV i4)]) (fun i4 σ4=>σ4=σ2) SL rfl ?_
    rintro i4 σ4 hi4 hq4;subst hq4;refine G5 ?_;refine Ab rfl ?_ ?_<;>intro h4
    ·have dy:i4<w.kids.length:=Int.ofNat_lt.1 (of_decide_eq_true h4);obtain⟨k,hk⟩:=Ar dy;have hkn:=(hF x hxF w hwx).kid k (ab_ hk);refine G5 ?_;refine O1 (A1 elC Ep rfl rfl hk) ?_;refine G8 ?_;refine TOr 5 ?_ (fun hg=>?_) ?_
     rotate_left
     ·iterate 5 refine Gn hg ?_
      exact Ez
     refine G ?_;refine Ab rfl ?_ ?_<;>intro h5
     ·grind
     ·skip
      refine G5 ?_;refine⟨dy,SL,rfl⟩
    ·skip
     refine G5 ?_;refine⟨bv,SL,rfl⟩
   ·skip
    refine G5 ?_;refine⟨bc,SL,rfl⟩
  ·skip
   refine G2 ?_;obtain⟨vl,hvl⟩:∃vl:List AV,[fV F,.pv [slV eNd 4 F],slV eNd 4 F,nV F.length,.sr (nx σ0+2) 0 1 F.length (some F.length),.pv [slV eNd 4 F],slV eNd 4 F,nV F.length,.sr (nx σ0+3) 0 1 F.length (some F.length),.agg [slV eNd 4 F,.sr (nx σ0+2) 0 1 F.length (some F.length),.sr (nx σ0+3) 0 1 F.length (some F.length)],.pr (nx σ0+4) 0,.pr (nx σ0+4) 0]=vl:=⟨_,rfl⟩;have hbF:AV.beq (slV eNd 4 F) (slV eNd 4 F)=true:=Ahm Asv F
   have hbp:AV.beq (.pr (nx σ0+4) 0) (.pr (nx σ0+4) 0)=true:=by
    show(Nat.beq _ _&&Nat.beq 0 0)=true
    rw[aw_];rfl
   have bn:F.length*(8+1)<=sizeLim:=by simp only[sizeLim];have:=hFB.1;omega
   refine Au4 [fV F,.pv [slV eNd 4 F],slV eNd 4 F,nV F.length,.sr (nx σ0+2) 0 1 F.length (some F.length),.pv [slV eNd 4 F],slV eNd 4 F,nV F.length,.sr (nx σ0+3) 0 1 F.length (some F.length),.agg [slV eNd 4 F,.sr (nx σ0+2) 0 1 F.length (some F.length),.sr (nx σ0+3) 0 1 F.length (some F.length)],.pr (nx σ0+4) 0,.pr (nx σ0+4) 0] 4 8 10 Di rfl rfl Kr Kr rfl rfl rfl Kr rfl rfl rfl rfl rfl rfl (by decide) (by decide) (by decide) (O3 (n:=F.length) elC rfl rfl bn) (O3 (n:=F.length) elC rfl rfl bn) (by rw[ag_,if_pos rfl]) (by rw[ag_,if_pos rfl]) rfl rfl (Q0 (n:=nx σ0+4) (cs:=[slV eNd 4 F,.sr (nx σ0+2) 0 1 F.length (some F.length),.sr (nx σ0+3) 0 1 F.length (some F.length)]) ldC rfl rfl (by rw[Ao,Ao,B3,B3,Ao,Ao])) rfl hbp ?_ (fun _ _ _ _ _ _ _=>by kernel_rfl) (fun _ _ _ _ _ _=>by kernel_rfl) ?_
   ·intro k hk hc τ
    match k,hk,hc with
    |0,_,_=>exact⟨_,_,_,rfl,rfl,Ac (ldC (t:=147)) rfl rfl rfl,rfl,by simp only[AV.beq,AV.beqs,hbF,be_]⟩
    |1,_,_=>exact⟨_,_,_,rfl,rfl,Ae (fdC (t:=147) (i:=0)) rfl rfl,rfl,by simp only[AV.beq,AV.beqs,db_,hbF,be_]⟩
    |2,_,_=>exact⟨_,_,_,rfl,rfl,Ac (ldC (t:=145)) rfl rfl rfl,rfl,hbF⟩
    |3,_,_=>exact⟨_,_,_,rfl,rfl,Jl (slC (t:=145)) rfl,rfl,Acw _⟩
    |4,_,h=>cases h
    |5,_,_=>exact⟨_,_,_,rfl,rfl,Ae (fdC (t:=147) (i:=0)) rfl rfl,rfl,by simp only[AV.beq,AV.beqs,db_,hbF,be_]⟩
    |6,_,_=>exact⟨_,_,_,rfl,rfl,Ac (ldC (t:=145)) rfl rfl rfl,rfl,hbF⟩
    |7,_,_=>exact⟨_,_,_,rfl,rfl,Jl (slC (t:=145)) rfl,rfl,Acw _⟩
    |8,_,h=>cases h
    |9,_,_=>exact⟨_,_,_,rfl,rfl,Ut (bdC (t:=250)) rfl rfl,rfl,by simp only[AV.beq,AV.beqs,hbF,aw_,Af8,be_]⟩
    |10,_,h=>cases h
    |11,_,_=>exact⟨_,_,_,rfl,rfl,Gd rfl,rfl,hbp⟩
    |k+12,hk,_=>exact absurd hk (by simp)
   obtain⟨σ5,hσ5⟩:∃σ5,((((((σ0.new (.cells (rep [.int .i64 0] F.length))).new (.cells (rep [.int .i64 0] F.length))).kill (nx σ0)).kill (nx σ0+1)).new (.cells (rep [.int .i64 0] F.length))).new (.cells (rep [.int .i64 0] F.length))).new (.cells [slV eNd 4 F,.sr (nx σ0+2) 0 1 F.length (some F.length),.sr (nx σ0+3) 0 1 F.length (some F.length)])=σ5:=⟨_,rfl⟩;rw[hσ5]
   have n5:nx σ5=nx σ0+5:=by rw[←hσ5];simp only[Ao,B3]
   have hC5:CtS F (nx σ0+4) (nx σ0+2) (nx σ0+3) (List.replicate F.length 0,List.replicate F.length 0) σ5:=by
    refine⟨?_,?_,?_,by omega,by omega,fun m=>?_⟩
    ·grind
    ·rw[←hσ5,ag_,if_neg gr,ag_,if_neg gr,ag_,if_pos gr,Asx]
    ·rw[←hσ5,ag_,if_neg gr,ag_,if_pos gr,Asx]
    grind
   have g5:∀b,b<nx σ0->σ5.get b=σ0.get b:=gr;refine G4 ?_;refine Az rfl rfl rfl rfl (f157 hF hFB (F.length+1) 0 (List.replicate F.length 0,List.replicate F.length 0) [] σ5 Ajy gr h0 hC5) ?_;intro u6 σ6 hR6;obtain⟨b6,rfl⟩:=Alt.bool hR6;obtain⟨n6,g6,hR6⟩:=hR6
   have hBe:Below (nx σ0) σ0 σ6:=⟨by omega,gr⟩
   refine G2 ?_;have hcf:Yx F=La F (F.length+1) 0 (List.replicate F.length 0,List.replicate F.length 0):=rfl;rw[←hcf]at hR6;cases hcn:Yx F with
   |none=>
    rw[hcn]at hR6;obtain rfl:=AV.bool.inj hR6;refine Ab rfl (fun h5=>?_) gr
    refine G6 ?_;exact⟨_,rfl,_,σ0,am_ hw hBe,nl,.same rfl,rfl,rfl⟩
   |some c=>
    rw[hcn]at hR6;obtain⟨hb6,hC6⟩:=hR6;obtain rfl:=AV.bool.inj hb6;obtain⟨hl1,hl2⟩:=Ajz hF h0 hcn;refine Ab rfl gr (fun h5=>?_)
    refine G8 ?_;refine⟨_,rfl,.tup [ctV F c,iV 0],σ0,am_ hw hBe,nl,.tup (.cons (.pr hC6.ob (hw.none Om) (.cons (.same (Fv Vp F)) (.cons (Anu hC6.s hl1 (hw.none Om)) (.cons (Anu hC6.t hl2 (hw.none Om)) .nil)))) (.cons (.same rfl) .nil)),rfl,rfl⟩
def Ad4(F:List Nde):Nat×Int:=match Yx F with
 |none=>(0,161)
 |some c=>if 1000000000<c.2.getD 0 0 then(0,15)else(c.2.getD 0 0,0)
theorem f69{g:Gr}{F:List Nde}(hF:FOk g F.length F)(hFB:FB F)(h0:0<F.length)(σ:Sto):Cv 69 [fV F] σ (.tup [nV (Ad4 F).1,iV (Ad4 F).2]):=by
 refine Aj Tryz.func69 rfl rfl fun hw hu0=>?_
 refine G9 ?_;refine Ca (f122 hF hFB h0 σ) ?_;unfold cntV;cases hc:Yx F with
 |none=>
  iterate 14 refine G ?_
  refine Ab rfl (fun h1=>?_) gr
  refine G7 ?_
  exact⟨_,rfl,_,σ,a_ hw nl (fun _ _=>rfl),nl,.same rfl,by unfold Ad4;rw[hc];rfl,rfl⟩
 |some c=>
  have hat:=O4 (l:=c.2) (i:=0) (by rw[(Ajz hF h0 hc).2];exact h0)
  iterate 14 refine G ?_
  refine Ab rfl gr (fun h1=>?_)
  refine G6 ?_;refine O1 (A1 elC Ep rfl rfl hat) ?_;refine G4 ?_;refine Ab rfl ?_ ?_<;>intro h2
  ·have hgt:1000000000<c.2.getD 0 0:=Int.ofNat_lt.1 (of_decide_eq_true h2);refine G6 ?_
   exact⟨_,rfl,_,σ,a_ hw nl (fun _ _=>rfl),nl,.same rfl,by unfold Ad4;rw[hc];simp only[if_pos hgt];rfl,rfl⟩
  ·have hgt:¬1000000000<c.2.getD 0 0:=fun q=>of_decide_eq_false h2 (Int.ofNat_lt.2 q)
   refine G7 ?_;refine O1 (A1 elC Ep rfl rfl hat) ?_;refine G5 ?_
   exact⟨_,rfl,_,σ,a_ hw nl (fun _ _=>rfl),nl,.same rfl,by unfold Ad4;rw[hc];simp only[if_neg hgt];rfl,rfl⟩
def lV(g:Gr)(F:List Nde)(c:Cs):AV:=.pv [ctV F c,Af g.sorts,slV eR 4 g.rules]
theorem f158{g:Gr}{F:List Nde}{c:Cs}{w:Wy}(hl:w.kids.length<=1000000)(hk:∀k∈w.kids,k<c.2.length/\c.2.getD k 0<=mxT)(σ:Sto):Cv 158 [lV g F c,.agg (eWy w)] σ (nV (Gp c.2 w)):=by
 refine Aj Tryz.func158 rfl rfl fun hw hu0=>?_
 iterate 18 refine G ?_
 refine Ci (fun q:Nat×Nat=>[(0,lV g F c),(5,nV q.2),(9,slV eN 1 w.kids),(10,nV w.kids.length),(11,nV q.1)]) (fun q σ0=>σ0=σ/\q.1<=w.kids.length/\q.2<=mxT/\(w.kids.drop q.1).foldl (fun n k=>min (n*c.2.getD k 0) mxT) q.2=Gp c.2 w) (fun q=>w.kids.length-q.1) (0,1) SL ⟨rfl,aq_ _,by show 1<=mxT;decide,rfl⟩ ?_
 rintro⟨i0,p0⟩ σ0 ⟨rfl,hi0,hp0,hq0⟩;have hi0:i0<=w.kids.length:=hi0;have hp0:p0<=mxT:=hp0;have hq0:(w.kids.drop i0).foldl (fun n k=>min (n*c.2.getD k 0) mxT) p0=Gp c.2 w:=hq0
 refine G5 ?_;refine Ab rfl ?_ ?_<;>intro h1
 ·have bc:i0<w.kids.length:=Int.ofNat_lt.1 (of_decide_eq_true h1);obtain⟨k,hkk⟩:=Ar bc;obtain⟨hk1,hk2⟩:=hk k (ab_ hkk);have hml:=Ast hp0 hk2;rw[A4 hkk,ct_]at hq0;refine G5 ?_;refine O1 (A1 elC Ep rfl rfl hkk) ?_
  iterate 13 refine G ?_
  refine O1 (A1 elC Ep rfl rfl (O4 hk1)) ?_;refine G ?_;refine O1 (Ant okC rfl rfl hml) (O1 (Ahl okC rfl) ?_);refine G6 ?_;refine⟨(i0+1,min (p0*c.2.getD k 0) mxT),gr,SL,rfl,gr,Nat.min_le_right _ _,hq0⟩
 ·have bj:w.kids.length<=i0:=bm_.1 (Int.not_lt.1 (fun q=>of_decide_eq_false h1 q))
  rw[ah_ bj,List.foldl_nil]at hq0;refine G7 ?_;exact⟨_,rfl,_,_,a_ hw nl (fun _ _=>rfl),nl,.same rfl,congrArg nV hq0,rfl⟩
inductive KB:Ax->Prop
 |node {l:Str} {ks:List Ax}:ks.length<=100000->(∀k∈ks,KB k)->KB (.node l ks)
theorem f125{t:Ax}(h:KB t):∀σ:Sto,Cv 125 [En t] σ (En t):=by
 induction h with
 |@node l ks hl hk ih=>
  intro σ;rw[En,Cl];refine Aj Tryz.func125 rfl rfl fun hw hu0=>?_
  refine G3 ?_;refine O1 (Bu ziC) ?_;refine G6 ?_
  refine O1 (Bj (n:=nx σ+1) ziC (by rw[Ao])) ?_
  refine O1 (sO (a:=nx σ+1) (off:=0) (cs:=[.str [],nS]) (cs':=[sV l,nS]) gr) ?_;refine G ?_;obtain⟨σ1,hσ1⟩:∃σ1,((σ.new (.cells [.str [],nS])).new (.cells [.str [],nS])).set (nx σ+1) (.cells [sV l,nS])=σ1:=⟨_,rfl⟩;rw[hσ1];have n1:nx σ1=nx σ+2:=gr;have g1:∀b,b<nx σ->σ1.get b=σ.get b:=gr;have r1:σ1.get (nx σ)=some (.cells [.str [],nS]):=gr;have o1:σ1.get (nx σ+1)=some (.cells [sV l,nS]):=gr;refine G9 ?_
  refine Bz ks.length (fun i0=>[(2,.pr (nx σ) 0),(3,.pr (nx σ+1) 0),(10,slV eT 2 ks),(11,nV ks.length),(12,nV i0)]) (fun i0 σ0=>∃v,σ0.get (nx σ)=some (.cells [.str [],nS])/\σ0.get (nx σ+1)=some (.cells [sV l,v])/\Own σ0 (nx σ+2) eT 2 (ks.take i0) v/\nx σ+2<=nx σ0/\∀b,b<nx σ->σ0.get b=σ.get b) SL ⟨_,r1,o1,.nil,by omega,g1⟩ ?_
  rintro i0 σ0 hi0 ⟨v,hr0,ho0,bf,n0,g0⟩;refine G5 ?_;refine Ab rfl ?_ ?_<;>intro h1
  ·have bc:i0<ks.length:=Int.ofNat_lt.1 (of_decide_eq_true h1);obtain⟨k,hkk⟩:=Ar bc
   obtain⟨lk,kk,rfl⟩:∃lk kk,k=.node lk kk:=by cases k;grind
   have hek:eT (.node lk kk)=[sV lk,slV eT 2 kk]:=Cl lk kk;have ht1:=List.take_add_one (l:=ks) (i:=i0);rw[hkk]at ht1
   obtain⟨σ2,hap,n2,bw,g2⟩:=dn_ (by':=40) Dh Om bf (.node lk kk) (by simp only[sizeLim,cb_];omega)
   rw[cb_,du_ Om,hek]at hap;rw[cb_,du_ Om]at bw;have hc2:=ih _ (ab_ hkk) σ0;rw[En,hek]at hc2;obtain⟨σ3,hσ3⟩:∃σ3,σ2.set (nx σ+1) (.cells [sV l,.sr (nx σ0) 0 2 (i0+1) none])=σ3:=⟨_,rfl⟩
   have ho2:σ2.get (nx σ+1)=some (.cells [sV l,v]):=(g2 _ Om (fun e=>by have:=(bf.adr_lt e).1;omega)).trans ho0
   have hr2:σ2.get (nx σ)=some (.cells [.str [],nS]):=(g2 _ Om (fun e=>by have:=(bf.adr_lt e).1;omega)).trans hr0
   refine G5 ?_
   refine O1 (A1 elC Dh rfl rfl hkk) (O1 (Ac ldC rfl rfl (show Cz 2 true (eT (Ax.node lk kk)++_)=some (.agg [sV lk,slV eT 2 kk])from by rw[←hek];exact A6 (Dh _) _)) ?_)
   refine G2 ?_;refine XX 1 (l:=[(125,[.agg [sV lk,slV eT 2 kk]],σ0,.agg [sV lk,slV eT 2 kk],σ0)]) ⟨hc2,trivial⟩ ?_;refine G ?_;refine DF (lO ho0) ?_;refine G2 ?_;refine DF (Ai elC byW rfl rfl rfl) (DT (Av elC rfl slC rfl rfl rfl (new:=[sV lk,slV eT 2 kk]) rfl hap) ?_);refine G ?_;refine DT (sO (cs':=[sV l,.sr (nx σ0) 0 2 (i0+1) none]) ho2) ?_;refine G ?_;rw[hσ3]
   refine⟨(by intro e he;simp at he;rcases he with rfl|rfl<;>exact .refl),?_⟩
   refine G4 ?_
   refine⟨bc,SL,_,gr,by rw[←hσ3,aa_,if_pos rfl],by rw[ht1];exact bw.of_get gr (fun b q=>by rw[←hσ3,aa_,if_neg (by have:=(bw.adr_lt q).1;omega)]),gr,fun b hb=>by rw[←hσ3,aa_,if_neg Om,g2 _ Om (fun e=>by have:=(bf.adr_lt e).1;omega)];exact g0 b hb⟩
  ·have bj:ks.length<=i0:=bm_.1 (Int.not_lt.1 (fun q=>of_decide_eq_false h1 q))
   rw[at_ bj]at bf;refine G3 ?_;refine O1 (lO ho0) (O1 (sO (cs':=[sV l,v]) hr0) ?_);refine G ?_;refine Bo fun hw9=>?_
   refine G ?_
   exact⟨[.agg [sV l,v]],Am (vs:=[sV l,v]) (ldC (t:=39)) rfl (by simp only[Sto.cells];grind) rfl rfl,_,σ,am_ hw ⟨gr,gr⟩,nl,.agg (.cons (.same rfl) (.cons (Own.fz Dh (bf.of_get gr (fun b q=>by rw[aa_,if_neg (by have:=(bf.adr_lt q).1;omega)])) (fun a ha=>hw.none Om) (by rw[←No];exact Jq _)) .nil)),rfl,rfl⟩
section
mutual
theorem Alu:∀(t:Ax) (lv:Nat),dpT t (lv+1)=dpT t lv+1
 |.node _ ks,lv=>by unfold dpT;exact Asy ks (lv+1) lv
theorem Asy:∀(l:List Ax) (lv d:Nat),dpL l (lv+1) (d+1)=dpL l lv d+1
 |[],_,_=>rfl
 |t::r,lv,d=>by
  unfold dpL
  rw[Alu t lv,show max (d+1) (dpT t lv+1)=max d (dpT t lv)+1 by omega,Asy r lv]
end
theorem Anv:∀(l:List Ax) (lv a b:Nat),dpL l lv (max a b)=max (dpL l lv a) b
 |[],_,_,_=>rfl
 |t::r,lv,a,b=>by
  unfold dpL
  rw[show max (max a b) (dpT t lv)=max (max a (dpT t lv)) b by omega,Anv r lv]
def msN(t:Ax):Nat:=min (M6 t) 4001
def msD(t:Ax):Nat:=dpT t 1
def msC(t:Ax):List AV:=[nV (msN t),nV (msD t),.bool true]
def msV(t:Ax):AV:=.agg (msC t)
theorem Asz{l:Str}:msN (.node l [])=1/\msD (.node l [])=1:=⟨by unfold msN M6 Ach;rfl,by unfold msD dpT dpL;rfl⟩
theorem As0{l:Str}{k:Ax}{r:List Ax}:msN (.node l (k::r))=min (msN (.node l r)+msN k) 4001:=by
 unfold msN;rw[M6,Ach,M6];omega
theorem As1{l:Str}{k:Ax}{r:List Ax}:msD (.node l (k::r))=max (msD (.node l r)) (msD k+1):=by
 unfold msD;rw[dpT,dpL,dpT,Anv,Alu]
theorem As2(t:Ax):msN t<=4001:=Nat.min_le_right _ _
theorem Au5{tr:List Nat}{ws:List Wy}:App tr ws<=mxT:=by
 have:∀(l:List Wy) (t:Nat),t<=mxT->l.foldl (fun t w=>min (t+Gp tr w) mxT) t<=mxT:=by
  intro l
  induction l with
  |nil=>exact fun t h=>h
  |cons w l ih=>exact fun t _=>ih _ (Nat.min_le_right _ _)
 exact this ws 0 (aq_ _)
structure Lst (g:Gr)(F:List Nde)(c:Cs)(E:List Nat):Prop where
 ok:FOk g F.length F
 fb:FB F
 ci:CI F c E
 gr:g.rules.length<=1000000
section
variable {g:Gr}{F:List Nde}{c:Cs}{E:List Nat}{i n:Nat}{x:Nde}
theorem Lst.tr(h:Lst g F c E)(hi:E[i]? =some n):n<c.2.length/\c.2.getD n 0<=mxT:=by
 obtain⟨x,hx,h1,_⟩:=h.ci.ord i n hi
 refine⟨?_,by rw[h1];exact Au5⟩
 rw[h.ci.l2]
 grind
theorem Lst.way(h:Lst g F c E)(hi:E[i]? =some n)(hx:F[n]? =some x){w:Wy}(hw:w∈x.ways):w.kids.length<=200/\w.rule<g.rules.length/\∀k∈w.kids,(∃j,j<i/\E[j]? =some k)/\k<F.length/\k<c.2.length/\c.2.getD k 0<=mxT:=by
 obtain⟨x',hx',_,h2⟩:=h.ci.ord i n hi;rw[hx]at hx';cases hx';have hxF:=ab_ hx;refine⟨(h.fb.2 x hxF).2 w hw,(h.ok x hxF w hw).rule,fun k hk=>?_⟩
 obtain⟨j,hj,hj'⟩:=h2 w hw k hk;exact⟨⟨j,hj,hj'⟩,(h.ok x hxF w hw).kid k hk,(h.tr hj').1,(h.tr hj').2⟩
theorem As3:∀(l:List Ax) (lv d m:Nat),d<=m->(∀t∈l,dpT t lv<=m)->dpL l lv d<=m
 |[],_,_,_,h,_=>h
 |t::r,lv,d,m,h,hl=>by
  unfold dpL;exact As3 r lv _ m gr fun u hu=>hl u (aj_ _ hu)
theorem Lst.dep(h:Lst g F c E):∀(i n:Nat),E[i]? =some n->c.2.getD n 0≠0->msD (fT g F c n)<=i+1:=by
 intro i
 induction i using Nat.strongRecOn with
 |_ i ih=>
  intro n hi hn;obtain⟨x,w,hx,hf,hw,hp,hk⟩:=h.ci.first hi hn;rw[Ajn h.ci hi hn hx hf];unfold msD dpT;refine As3 _ _ _ _ Om fun t ht=>?_
  obtain⟨k,hk',rfl⟩:=bt_.1 ht;obtain⟨⟨j,hj,hj'⟩,hn'⟩:=hk k hk';have:=ih j hj k hj' hn';unfold msD at this;rw[Alu];omega
theorem Lst.len(h:Lst g F c E)(hi:E[i]? =some n):i<4000:=by
 have h1:=h.ci.len;have h2:=h.fb.1
 grind
theorem Lst.kb(h:Lst g F c E):∀(i n:Nat),E[i]? =some n->c.2.getD n 0≠0->KB (fT g F c n):=by
 intro i
 induction i using Nat.strongRecOn with
 |_ i ih=>
  intro n hi hn;obtain⟨x,w,hx,hf,hw,hp,hk⟩:=h.ci.first hi hn;rw[Ajn h.ci hi hn hx hf];have hwy:=h.way hi hx hw;refine .node (by grind) fun t ht=>?_
  obtain⟨k,hk',rfl⟩:=bt_.1 ht;obtain⟨⟨j,hj,hj'⟩,hn'⟩:=hk k hk';exact ih j hj k hj' hn'
end
abbrev K2:=Int×Int
instance:KE K2 where
 k p:=.agg [.int .i64 p.1,.int .i64 p.2]
 eq a b:=by
  obtain⟨s,x⟩:=a;obtain⟨t,u⟩:=b;simp only[Key.eq,Key.eqs,Nn,Ed]
  grind
def k2(n:Nat):K2:=(.ofNat n,.ofNat 0)
theorem Axt{n m:Nat}:k2 n=k2 m↔n=m:=by
 simp only[k2,ba_]
 grind
theorem k2ey(n:Nat):D4 Ew.P 289 (.agg [nV n,nV 0])=some (KE.k (k2 n)):=Kr
def MsS(g:Gr)(F:List Nde)(c:Cs)(σ:Sto)(a:Nat):Prop:=∃M:GM K2 Ax,GAt 289 msV σ a M/\∀n t,M.get (k2 n)=some t->t=fT g F c n
theorem MsS.of_get{g:Gr}{F:List Nde}{c:Cs}{σ τ:Sto}{a:Nat}(h:MsS g F c σ a)(hg:τ.get a=σ.get a):MsS g F c τ a:=by
 obtain⟨M,h1,h2⟩:=h;exact⟨M,h1.of_get hg,h2⟩
theorem MsS.put{g:Gr}{F:List Nde}{c:Cs}{σ:Sto}{a n ver:Nat}{M:GM K2 Ax}{t:Ax}(h:∀n t,M.get (k2 n)=some t->t=fT g F c n)(ht:t=fT g F c n):MsS g F c (σ.set a (.map 289 (Hi msV (M.put (k2 n) t)) ver)) a:=by
 refine⟨_,GAt.put,fun n' t' h'=>?_⟩
 rw[fp_]at h'
 split at h'
 ·rename_i e
  obtain rfl:=Axt.1 e
  grind
 grind
theorem Au6{ρ:Ad}{σ:Sto}{Rr:Rec}{t ty:Nat}{x y:Operand}{q:Nat}(hi:okI Ew.P t=true)(hx:Ah Ew ρ x=some (nV 0))(hy:Ah Ew ρ y=some (nV q))(h:q≠0):As Ew Rr (.binOp .rem t x y ty) ρ σ (nV 0) σ:=by
 obtain⟨q,rfl⟩:∃k,q=k+1:=⟨q-1,by omega⟩
 exact L0 (p:=0) (q:=.ofNat (q+1)) hi hx hy (by show(C7 (0%(q+1)) fun m=>some (AV.int .i64 (.ofNat m)))=_;rw[Nat.zero_mod];rfl)
theorem Au7{ρ:Ad}{σ:Sto}{Rr:Rec}{t ty:Nat}{x y:Operand}{q:Nat}(hi:okI Ew.P t=true)(hx:Ah Ew ρ x=some (nV 0))(hy:Ah Ew ρ y=some (nV q))(h:q≠0):As Ew Rr (.binOp .quo t x y ty) ρ σ (nV 0) σ:=by
 obtain⟨q,rfl⟩:∃k,q=k+1:=⟨q-1,by omega⟩
 exact L0 (p:=0) (q:=.ofNat (q+1)) hi hx hy (by show some (Me .i64 (.ofNat (0 / (q+1))))=_;rw[Nat.zero_div];rfl)
end
theorem Au8{ρ:Ad}{σ:Sto}{Rr:Rec}{t ty:Nat}{x y:Operand}{q:Nat}(hi:okI Ew.P t=true)(hx:Ah Ew ρ x=some (nV 0))(hy:Ah Ew ρ y=some (nV q))(h:q=0):As Ew Rr (.binOp .sub t x y ty) ρ σ (nV 0) σ:=by
 subst h;exact W2 (p:=0) (q:=0) hi hx hy nl Om
theorem zt289:(match Ay Ew.P 289 with|some ti=>ti.zero|none=>none)=some [.int .i64 0,.int .i64 0]:=Kr
theorem f123n{g:Gr}{F:List Nde}{c:Cs}{E:List Nat}(hL:Lst g F c E){i:Nat}(ih:∀j,j<i->∀n,E[j]? =some n->c.2.getD n 0≠0->∀(aM:Nat) (σ:Sto),MsS g F c σ aM->aM<nx σ->Al Ew 123 [lV g F c,nV n,nV 0,.mp aM] σ fun v σ'=>v=msV (fT g F c n)/\MsS g F c σ' aM/\nx σ<=nx σ'/\∀b,b<nx σ->b≠aM->σ'.get b=σ.get b)
  (n:Nat)(hi:E[i]? =some n)(hn:c.2.getD n 0≠0)(aM:Nat)(σ:Sto)(hMM:MsS g F c σ aM)(haM:aM<nx σ):Al Ew 123 [lV g F c,nV n,nV 0,.mp aM] σ fun v σ'=>v=msV (fT g F c n)/\MsS g F c σ' aM/\nx σ<=nx σ'/\∀b,b<nx σ->b≠aM->σ'.get b=σ.get b:=by
 obtain⟨M,⟨ver,hM⟩,hMs⟩:=hMM;refine Aj Tryz.func123 rfl rfl fun hw hu0=>?_
 refine G2 ?_;refine O1 (Bu ziC) ?_;refine G ?_;obtain⟨σ1,hσ1⟩:∃σ1,σ.new (.cells [.int .i64 0,.int .i64 0,.bool false])=σ1:=⟨_,rfl⟩;rw[hσ1];have n1:nx σ1=nx σ+1:=gr;have g1:∀b,b<nx σ->σ1.get b=σ.get b:=gr;have r1:σ1.get (nx σ)=some (.cells [.int .i64 0,.int .i64 0,.bool false]):=gr;have hM1:σ1.get aM=some (.map 289 (Hi msV M) ver):=(g1 aM haM).trans hM;refine G4 ?_;refine O1 (G0 zt289 ar289 rfl rfl) ?_;refine G2 ?_;cases ho:M.get (k2 n)with
 |some t=>
  have ht:=hMs n t ho;refine G5 ?_;refine O1 (Nu (o:=some t) Am2 rfl ⟨ver,hM1⟩ rfl (k2ey n) ho) ?_;refine G10 ?_;refine Ab rfl (fun h1=>?_) gr
  refine G3 ?_;refine O1 (sO (cs':=msC t) r1) ?_;refine G ?_;refine Bo fun hw9=>?_
  refine G ?_
  exact⟨[msV (fT g F c n)],Am (vs:=msC (fT g F c n)) (ldC (t:=256)) rfl (by simp only[Sto.cells];grind) rfl rfl,_,_,a_ hw9 nl (fun _ _=>rfl),gr,.same rfl,rfl,MsS.of_get ⟨M,⟨ver,hM⟩,hMs⟩ gr,gr,gr⟩
 |none=>
  refine G5 ?_;refine O1 (Nu (o:=none) Am2 rfl ⟨ver,hM1⟩ rfl (k2ey n) ho) ?_;refine G10 ?_;refine Ab rfl gr (fun h1=>?_)
  refine G4 ?_;refine O1 (Bj (n:=nx σ+1) ziC n1) (O1 (sO (a:=nx σ+1) (off:=0) (cs:=[.int .i64 0,.int .i64 0,.bool false]) (cs':=[nV 1,nV 1,.bool false]) gr) ?_);refine G ?_;obtain⟨σ2,hσ2⟩:∃σ2,(σ1.new (.cells [.int .i64 0,.int .i64 0,.bool false])).set (nx σ+1) (.cells [nV 1,nV 1,.bool false])=σ2:=⟨_,rfl⟩;rw[hσ2];have n2:nx σ2=nx σ+2:=gr;have g2:∀b,b<nx σ1->σ2.get b=σ1.get b:=gr;have o2:σ2.get (nx σ+1)=some (.cells [nV 1,nV 1,.bool false]):=gr;have r2:σ2.get (nx σ)=some (.cells [.int .i64 0,.int .i64 0,.bool false]):=(g2 _ Om).trans r1;have hM2:σ2.get aM=some (.map 289 (Hi msV M) ver):=(g2 aM Om).trans hM1;obtain⟨x,w,hx,hf,hw',hp,hks⟩:=hL.ci.first hi hn;have hfT:=Ajn (g:=g) hL.ci hi hn hx hf;refine G12 ?_;refine O1 (A1 elC Mw rfl rfl hx) ?_;refine G6 ?_;refine Bz x.ways.length (fun i0=>[(0,lV g F c),(2,nV 0),(3,.mp aM),(8,.pr (nx σ) 0),(9,.pv [nV n,nV 0]),(12,.pr (nx σ+1) 0),(42,slV eWy 2 x.ways),(43,nV x.ways.length),(44,nV i0)]) (fun i0 σ0=>σ0=σ2/\∀v∈x.ways.take i0,Gp c.2 v=0) SL ⟨rfl,gr⟩ ?_
  rintro i0 σ0 hi0 ⟨rfl,hz0⟩;refine G5 ?_;refine Ab rfl ?_ ?_<;>intro h2
  ·have bc:i0<x.ways.length:=Int.ofNat_lt.1 (of_decide_eq_true h2);obtain⟨v,hv⟩:=Ar bc;have hvm:=ab_ hv;obtain⟨hvl,hvr,hvk⟩:=hL.way hi hx hvm;have hwl:=(hL.fb.2 x (ab_ hx)).1;have htk:=List.take_add_one (l:=x.ways) (i:=i0);rw[hv]at htk;refine G5 ?_;refine O1 (A1 elC Gq rfl rfl hv) (O1 (Ac ldC rfl rfl (A6 (Gq v) _)) (Ho ziC ldC rfl (fun _=>rfl) rfl (A7 (Gq v)) rfl rfl ?_))
   refine G5 ?_;refine Ca (f158 Om (fun k hk=>(hvk k hk).2.2) σ0) ?_
   refine G9 ?_;refine Ab rfl ?_ ?_<;>intro h3
   ·have hz:Gp c.2 v=0:=gr;refine G4 ?_;refine O1 (Au8 okC rfl rfl hz) ?_;refine G7 ?_;refine⟨bc,SL,rfl,fun u hu=>?_⟩
    grind
   ·have hpv:Gp c.2 v≠0:=fun q=>of_decide_eq_false h3 (bm_.2 (ef_ q))
    have hvw:v=w:=by
     rw[←cc_ i0 x.ways,List.find?_append,List.find?_eq_none.2 gr,A4 hv,List.find?_cons_of_pos (by simp[hpv])]at hf
     grind
    subst hvw;have hok:decide (Int.ofNat v.rule<Int.ofNat g.rules.length)=true:=decide_eq_true (Int.ofNat_lt.2 hvr);obtain⟨ks,ru⟩:∃ks,v.kids.map (fT g F c)=ks:=⟨_,rfl⟩;have hkl:ks.length=v.kids.length:=gr;rw[ru]at hfT;obtain⟨σ3,hσ3⟩:∃σ3,σ0.set (nx σ+1) (.cells [nV 1,nV 1,.bool (decide (Int.ofNat v.rule<Int.ofNat g.rules.length))])=σ3:=⟨_,rfl⟩;have n3:nx σ3=nx σ+2:=gr;have g3:∀b,b≠nx σ+1->σ3.get b=σ0.get b:=gr
    have o3:σ3.get (nx σ+1)=some (.cells (msC (.node (Md g v.rule) (ks.drop ks.length)))):=by
     rw[←hσ3,aa_,if_pos rfl,hok,ep_,msC,Asz.1,Asz.2]
    refine G2 ?_;refine XS (l:=[]) trivial ?_;refine G4 ?_;refine Bg rfl rfl rfl rfl rfl rfl rfl (Ae fdC rfl rfl) (Bg rfl rfl rfl rfl rfl rfl rfl (Ac ldC rfl rfl rfl) (Bg rfl rfl rfl rfl rfl rfl rfl (Ag rfl) (Bg rfl rfl rfl rfl rfl rfl rfl (Eq rfl) (Bg rfl rfl rfl rfl rfl rfl rfl (Ae fdC rfl rfl) (Bg rfl rfl rfl rfl rfl rfl rfl (Ae fdC rfl rfl) (Bg rfl rfl rfl rfl rfl rfl rfl (Ac ldC rfl rfl rfl) (Bg rfl rfl rfl rfl rfl rfl rfl (Jl slC rfl) ?_)))))));refine Bg rfl rfl rfl rfl rfl rfl rfl (Qe okC rfl rfl) (DF (A3 rfl rfl rfl) ?_);refine G ?_;refine DT (sO (cs':=[nV 1,nV 1,.bool (decide (Int.ofNat v.rule<Int.ofNat g.rules.length))]) o2) ?_;refine G ?_;rw[hσ3];refine G6 ?_;refine O1 (Agz (p:=.ofNat v.kids.length) (q:=1) okC rfl rfl gr gr) ?_;refine G3 ?_
    refine Ci (fun q:Nat=>[(0,lV g F c),(2,nV 0),(3,.mp aM),(8,.pr (nx σ) 0),(9,.pv [nV n,nV 0]),(12,.pr (nx σ+1) 0),(14,.pv (eWy v)),(16,iV (Int.ofNat q-1))]) (fun q σ'=>q<=v.kids.length/\σ'.get (nx σ)=some (.cells [.int .i64 0,.int .i64 0,.bool false])/\σ'.get (nx σ+1)=some (.cells (msC (.node (Md g v.rule) (ks.drop q))))/\MsS g F c σ' aM/\nx σ+2<=nx σ'/\∀b,b<nx σ->b≠aM->σ'.get b=σ.get b) (fun q=>q) v.kids.length SL ⟨nl,(g3 _ Om).trans r2,hkl▸o3,⟨M,⟨ver,(g3 aM Om).trans hM2⟩,hMs⟩,by omega,gr⟩ ?_
    rintro q σ4 ⟨hq4,hr4,ho4,hM4,n4,g4⟩;refine G6 ?_;refine TAn 2 ?_ (fun hg=>?_) ?_
    rotate_left
    ·refine Gn hg ?_;refine On hg (lO ho4) ?_;exact Ez
    refine G ?_;refine Ab rfl ?_ ?_<;>intro h4
    ·have h40:0<q:=gr
     obtain⟨q,rfl⟩:∃k,q=k+1:=⟨q-1,by omega⟩
     obtain⟨k,hk⟩:=Ar (l:=v.kids) (i:=q) Om;have hqs:Int.ofNat (q+1)-1=Int.ofNat q:=gr;rw[hqs];obtain⟨⟨j,hj,hj'⟩,hk1,hk2,hk3⟩:=hvk k (ab_ hk);have hkn:=(hks k (ab_ hk)).2;have hkq:ks[q]? =some (fT g F c k):=gr;have hdp:=hL.dep j k hj' hkn;have hjl:=hL.len hj';have dm:=ho4;refine G8 ?_;refine O1 (A1 elC Ep rfl rfl hk) ?_
     iterate 16 refine G ?_
     refine O1 (A1 elC Ep rfl rfl (O4 hk2)) ?_;refine G ?_;refine O1 (Au6 okC rfl rfl hkn) ?_;refine G ?_;refine Az rfl rfl rfl rfl (ih j hj k hj' hkn aM σ4 hM4 Om) ?_;rintro _ σ5 ⟨rfl,hM5,n5,g5⟩
     iterate 13 refine G ?_
     refine O1 (A1 elC Ep rfl rfl (O4 hk2)) ?_;refine G ?_;refine O1 (Au7 okC rfl rfl hkn) ?_;refine G2 ?_;have ho5:σ5.get (nx σ+1)=some (.cells (msC (.node (Md g v.rule) (ks.drop (q+1))))):=(g5 _ Om Om).trans ho4;obtain⟨T,hT⟩:∃T,Ax.node (Md g v.rule) (ks.drop (q+1))=T:=⟨_,rfl⟩
     have hT':Ax.node (Md g v.rule) (ks.drop q)=.node (Md g v.rule) (fT g F c k::ks.drop (q+1)):=by rw[A4 hkq]
     rw[hT]at ho5;have hn1:=As2 T;have hn2:=As2 (fT g F c k);have e1:min (Int.ofNat (msN T+msN (fT g F c k))) 4001=Int.ofNat (min (msN T+msN (fT g F c k)) 4001):=gr;have e2:max (Int.ofNat (msD T)) (Int.ofNat (msD (fT g F c k)+1))=Int.ofNat (max (msD T) (msD (fT g F c k)+1)):=gr;refine G2 ?_;refine O1 (lO ho5) ?_;refine G2 ?_;refine O1 (D3 okC rfl rfl Om) ?_;refine O1 (Ak7 (q:=4001) okC rfl rfl) ?_;refine G ?_;refine O1 (lO ho5) ?_;refine G3 ?_;refine O1 (Aw4 okC rfl rfl) ?_;refine G3 ?_;refine O1 (sO (cs':=[.int .i64 (min (Int.ofNat (msN T+msN (fT g F c k))) 4001),.int .i64 (max (Int.ofNat (msD T)) (Int.ofNat (msD (fT g F c k)+1))),.bool true]) ho5) ?_;refine G ?_;rw[e1,e2];refine G2 ?_;refine O1 (Agz (p:=.ofNat q) (q:=1) okC rfl rfl gr gr) ?_;refine G2 ?_
     refine⟨q,bl_ q,SL,by omega,gr,by rw[aa_,if_pos rfl,hT',msC,As0,As1,hT];rfl,hM5.of_get gr,gr,gr⟩
    ·have h40:q=0:=gr;subst h40;rw[db_,←hfT]at ho4;obtain⟨M4,⟨ver4,hM4⟩,rh⟩:=hM4;refine G6 ?_;refine O1 (lO ho4) (O1 (K7 (v:=fT g F c n) Am2 rfl hM4 rfl (k2ey n) rfl (fun _ h1 h2=>H6 h1 h2 rfl)) ?_)
     refine G3 ?_
     refine O1 (E8 (by rw[aa_,if_neg Om];exact ho4) ldC rfl rfl) ?_
     refine O1 (G1 (cs':=msC (fT g F c n)) (by rw[aa_,if_neg Om];exact hr4) ldC rfl rfl rfl rfl) ?_
     refine G ?_;refine Bo fun hw9=>?_
     refine G ?_
     exact⟨[msV (fT g F c n)],Am (vs:=msC (fT g F c n)) (ldC (t:=256)) rfl (by simp only[Sto.cells];grind) rfl rfl,_,_,a_ hw9 nl (fun _ _=>rfl),gr,.same rfl,rfl,MsS.of_get (MsS.put rh rfl) (by rw[aa_,if_neg Om]),gr,gr⟩
  ·grind
theorem f123{g:Gr}{F:List Nde}{c:Cs}{E:List Nat}(hL:Lst g F c E):∀(i n:Nat),E[i]? =some n->c.2.getD n 0≠0->∀(aM:Nat) (σ:Sto),MsS g F c σ aM->aM<nx σ->Al Ew 123 [lV g F c,nV n,nV 0,.mp aM] σ fun v σ'=>v=msV (fT g F c n)/\MsS g F c σ' aM/\nx σ<=nx σ'/\∀b,b<nx σ->b≠aM->σ'.get b=σ.get b:=by
 intro i
 induction i using Nat.strongRecOn with
 |_ i ih=>exact f123n hL ih
theorem YX.up{E:Env}{Ls:List RF}{L L':RF}{args:List AV}{σ:Sto}{Post:XE->Sto->Prop}(h:YX E Ls L args σ Post):YX E (L'::Ls) L args σ Post:=fun C w vs hl=>h C w vs fun M hM=>hl M (aj_ _ hM)
structure TC (Ls:List RF)(L:RF)(B:Nat)(t:Ax)(S:Sto->Prop)(J:XE->Sto->Prop):Prop where
 lt:L.aY<B
 s:∀τ τ',S τ->(∀b,b<B->τ'.get b=τ.get b)->S τ'
 j:∀x τ τ',J x τ->(∀b,b<B->τ'.get b=τ.get b)->J x τ'
 y:∀τ,S τ->B<=nx τ->YX Ew Ls L [En t] τ fun x τ'=>x≠.normal/\J x τ'/\nx τ<=nx τ'/\∀b,B<=b->b<nx τ->τ'.get b=τ.get b
theorem TC.up{Ls:List RF}{L L':RF}{B:Nat}{t:Ax}{S:Sto->Prop}{J:XE->Sto->Prop}(h:TC Ls L B t S J):TC (L'::Ls) L B t S J:=⟨h.lt,h.s,h.j,fun τ h1 h2=>(h.y τ h1 h2).up⟩
def PY(B:Nat)(σ:Sto)(J:XE->Sto->Prop)(σ':Sto):Prop:=(∃x,x≠.normal/\J x σ')/\nx σ<=nx σ'/\∀b,B<=b->b<nx σ->σ'.get b=σ.get b
def KdV(σ:Sto)(B:Nat)(K:List Ax)(v:AV):Prop:=(K=[]/\v=nS)∨∃a,B<=a/\a<nx σ/\v=.sr a 0 2 K.length none/\σ.get a=some (.cells (K.flatMap eT))
theorem KdV.lenA{σ:Sto}{B:Nat}{K:List Ax}{v:AV}(h:KdV σ B K v):lenA v=some K.length/\Ad9 v=true:=by
 rcases h with⟨rfl,rfl⟩|⟨a,_,_,rfl,_⟩<;>exact⟨rfl,rfl⟩
theorem KdV.of{σ σ':Sto}{B:Nat}{K:List Ax}{v:AV}(h:KdV σ B K v)(hn:nx σ<=nx σ')(hg:∀b,B<=b->b<nx σ->σ'.get b=σ.get b):KdV σ' B K v:=by
 rcases h with h|⟨a,h1,h2,h3,h4⟩
 ·exact .inl h
 ·exact .inr ⟨a,h1,by omega,h3,(hg a h1 h2).trans h4⟩
theorem KdV.cellsN{σ:Sto}{B:Nat}{K:List Ax}{v:AV}(h:KdV σ B K v):v.cellsN 1=some [v]:=by
 rcases h with⟨rfl,rfl⟩|⟨a,_,_,rfl,_⟩<;>rfl
theorem KdV.ld{σ:Sto}{B:Nat}{K:List Ax}{v:AV}(h:KdV σ B K v):Cz 1 false ([v].drop 0)=some v:=by
 rcases h with⟨rfl,rfl⟩|⟨a,_,_,rfl,_⟩<;>rfl
theorem KdV.fill{σ:Sto}{B:Nat}{K:List Ax}{v:AV}{l:Str}(h:KdV σ B K v):Si [.str [],nS] [(0,1,sV l),(1,1,v)]=some [sV l,v]:=by
 rcases h with⟨rfl,rfl⟩|⟨a,_,_,rfl,_⟩<;>rfl
theorem KdV.src{σ:Sto}{B:Nat}{K:List Ax}{v:AV}(h:KdV σ B K v):F9 σ 2 v K.length=some (K.flatMap eT):=by
 rcases h with⟨rfl,rfl⟩|⟨a,_,_,rfl,h4⟩
 ·rfl
 ·have:=D0 (l:=K.flatMap eT) (r:=[]);rw[Dl Dh,bh_]at this
  show(match σ.cells a with|some vs=>Dr (K.length*2) (vs.drop 0)|none=>none)=_
  simp only[Sto.cells,h4,db_];exact this
def As4:AV->AV
 |.sr a o s n _=>.sr a o s n (some n)
 |v=>v
theorem Au9{ρ:Ad}{σ:Sto}{Rr:Rec}{B:Nat}{K:List Ax}{v:AV}{x:Operand}{hi mx:Option Operand}(h:KdV σ B K v)(hx:Ah Ew ρ x=some v)(h2:Iz Ew ρ hi=some (some (nV K.length)))(h3:Iz Ew ρ mx=some (some (nV K.length))):
  As Ew Rr (.slice 37 x none hi mx) ρ σ (As4 v) σ:=fun tm ht=>by
 obtain⟨ti,e,te,k1,k2,k3,k4,k5,k6⟩:=Qc (elC (t:=37));have e0:opdO Ew tm none=none:=rfl;have hle:=ar_ (Nat.le_refl K.length)
 rcases h with⟨rfl,rfl⟩|⟨a,_,_,rfl,_⟩
 ·have hb:Do 0 (some 0) none (some (nV 0)) (some (nV 0))=some (0,0,some 0):=rfl;simp only[opA,Aw,k1,k2,k3,ht.opd hx,ht.opdO h2,ht.opdO h3,e0,Lj,cu_,hb]
  rfl
 ·have hb:Do K.length none none (some (nV K.length)) (some (nV K.length))=some (0,K.length,some K.length):=by
   show cond (Nat.ble 0 K.length&&Nat.ble K.length K.length&&Li K.length none K.length) _ _=_
   simp only[Li,hle,be_,cond_true];rw[show Nat.ble 0 K.length=true from ar_ (aq_ _)]
   rfl
  simp only[opA,Aw,k1,k2,k3,ht.opd hx,ht.opdO h2,ht.opdO h3,e0,Lj,hb,k4,aw_,Ak,dw_,es_,fd_]
  rfl
theorem As5{ρ:Ad}{σ:Sto}{Rr:Rec}{B n:Nat}{K:List Ax}{v:AV}{x:Operand}{hi mx:Option Operand}(h:KdV σ B K v)(hn:K.length=n)(hx:Ah Ew ρ x=some v)(h2:Iz Ew ρ hi=some (some (nV n)))(h3:Iz Ew ρ mx=some (some (nV n))):
  As Ew Rr (.slice 37 x none hi mx) ρ σ (As4 v) σ:=by subst hn;exact Au9 h hx h2 h3
theorem KdV.app1{σ:Sto}{B:Nat}{K:List Ax}{v:AV}(h:KdV σ B K v)(t:Ax)(hl:K.length<=1000):B6 σ 2 40 (As4 v) 1 (eT t)=some (.sr (nx σ) 0 2 (K.length+1) none,σ.new (.cells ((K++[t]).flatMap eT))):=by
 have hb:Nat.ble ((K.length+1)*(40+1)) sizeLim=true:=ar_ (by simp only[sizeLim];omega)
 rcases h with⟨rfl,rfl⟩|⟨a,_,_,rfl,h4⟩
 ·simp only[As4,B6,Ja,cu_]at hb⊢;rw[hb];simp only[cond_true,Ak,bd_,bs_,fk_,bh_]
 ·have b9:=D0 (l:=K.flatMap eT) (r:=[]);rw[Dl Dh,bh_]at b9
  have h0:Nat.ble (K.length+1) K.length=false:=by
   cases hh:Nat.ble (K.length+1) K.length with
   |true=>exact absurd (al_ hh) Om
   |false=>rfl
  simp only[As4,B6,aw_,cond_true,Sto.cells,h4,db_,b9,h0,Ja,bn_,hb,Ak,da_,bs_,fk_,bh_]
theorem KdV.snoc{σ:Sto}{B:Nat}{K:List Ax}(hB:B<=nx σ):KdV (σ.new (.cells (K.flatMap eT))) B K (.sr (nx σ) 0 2 K.length none):=.inr ⟨nx σ,hB,gr,rfl,gr⟩
theorem Ava(σ:Sto)(K:List Ax)(hl:K.length<=1000):∃v' σ',B6 σ 2 40 nS K.length (K.flatMap eT)=some (v',σ')/\KdV σ' (nx σ) K v'/\nx σ<=nx σ'/\nx σ'<=nx σ+1/\∀b,b<nx σ->σ'.get b=σ.get b:=by
 cases K with
 |nil=>exact⟨_,σ,rfl,.inl ⟨rfl,rfl⟩,nl,dm_ _,fun _ _=>rfl⟩
 |cons t r=>
  have hb:Nat.ble ((r.length+1)*(40+1)) sizeLim=true:=ar_ (by simp only[sizeLim,as_]at hl⊢;omega)
  refine⟨.sr (nx σ) 0 2 (t::r).length none,σ.new (.cells ((t::r).flatMap eT)),?_,KdV.snoc nl,gr,gr,gr⟩;simp only[as_,B6,Ja,hb,cond_true,Ak,bd_,bn_]
theorem KdV.fz{σ τ:Sto}{B:Nat}{K:List Ax}{v:AV}(h:KdV σ B K v)(hτ:∀a,B<=a->τ.get a=none):Fz σ τ v (slV eT 2 K):=by
 rcases h with⟨rfl,rfl⟩|⟨a,h1,_,rfl,h3⟩
 ·exact .nils gr
 ·have b9:=D0 (l:=K.flatMap eT) (r:=[]);rw[Dl Dh,bh_]at b9
  exact .sr h3 (hτ a h1) b9 (dj_ (by rw[←No];exact Jq _))
theorem Avb{E:Env}{nt B:Nat}{df:List (Nat×List AV)}{K:Ad->Sto->Prop}{ρ:Ad}{σ:Sto}[Se E]{ops r:List Oper}(τ:Sto)(ρ':Ad)(hf:WFS σ->Ds σ τ)(hn:nx τ=nx σ)(hs:WFS σ->Mm σ τ ρ' ρ)(k:TO E nt df B ops r K ρ' τ):TO E nt df B ops r K ρ σ:=
 fun ro n hr C w tm a ht st hB=>Amy τ ρ' (by rw[hn];exact st.dfs.und) (hf st.sim.wfs) gr (hs st.sim.wfs).at k ro n hr C w tm a ht st hB
theorem Ds.kill{σ:Sto}(hw:WFS σ)(a:Nat):Ds σ (σ.kill a):=ft_ (hw.kill a) gr gr
theorem Axu{N:Nat}(g:Gr)(F:List Nde)(c:Cs):AV.und N (lV g F c)=true:=by
 have h1:AV.und N (Af g.sorts)=true:=Fv D9 _;have h2:AV.und N (slV eR 4 g.rules)=true:=Fv Vj _;have h3:AV.und N (slV eNd 4 F)=true:=Fv Vp _;have h4:AV.und N (slV eN 1 c.1)=true:=Fv Ajp _;have h5:AV.und N (slV eN 1 c.2)=true:=Fv Ajp _
 show(((AV.und N (slV eNd 4 F))&&((AV.und N (slV eN 1 c.1))&&((AV.und N (slV eN 1 c.2))&&true)))&&((AV.und N (Af g.sorts))&&((AV.und N (slV eR 4 g.rules))&&true)))=true
 rw[h1,h2,h3,h4,h5];rfl
def As6(g:Gr)(F:List Nde)(c:Cs)(k:Nat):AV:=.fn (.func 159) [] [.pv [lV g F c],.pv [nV k]]
theorem Ap3{N:Nat}{g:Gr}{F:List Nde}{c:Cs}{k:Nat}:AV.und N (As6 g F c k)=true:=by
 show(true&&((AV.und N (lV g F c)&&true)&&((true&&true)&&true)))=true
 rw[Axu];rfl
theorem f124{g:Gr}{F:List Nde}{c:Cs}(k:Nat)(σ:Sto):Cv 124 [lV g F c,nV k] σ (As6 g F c k):=by
 refine Aj Tryz.func124 rfl rfl fun hw hu0=>?_
 refine G12 ?_;exact⟨_,rfl,_,_,a_ hw nl (fun _ _=>rfl),nl,.same Ap3,rfl,rfl⟩
end Go.AM
