/- A part of the proof; shortened by program. -/
import Derived.Test.YtmkaboegdoadhaaGreatDoorP21
set_option maxRecDepth 100000
set_option maxHeartbeats 4000000
set_option linter.unusedSimpArgs false
set_option linter.unusedVariables false
namespace Go.AM
open Go Go.Proofs
theorem zt386:(match Ay Ew.P 386 with|some ti=>ti.zero|none=>none)=some [.int .i64 0,.int .i64 0,.int .i64 0,.int .i64 0]:=Kr
theorem Jy(p:Pt):(ePt p).length=3:=rfl
theorem Z7(r:Rl)(l:List AV):Cz 1 false ((eR r++l).drop 2)=some (slV ePt 3 r.parts):=rfl
theorem Tt(p:Pt):Cz 1 false ((ePt p).drop 1)=some (sV p.sort):=rfl
theorem Awd(p:Pt):Cz 1 false ((ePt p).drop 0)=some (sV p.symbol):=rfl
def Aso(g:Gr)(text:List Str)(D:List Sp)(X:Cp)(P mN mT:Nat)(lv:AV)(r d t:Nat)(ps':List Pt)(e:Nat)(σ σ1:Sto):Prop:=
 Al Ew 192 [.pr P 0,nV r,nV (d+1),nV e,nV t] σ (fun u υ=>u=.bool (ldP D text t ps' e)/\υ=σ1)/\PkB g text D X P mN mT lv σ1/\PkF mT σ σ1
inductive I6 (g:Gr)(text:List Str)(D:List Sp)(X:Cp)(P mN mT:Nat)(lv:AV)(r d a t:Nat)(p:Pt)(ps':List Pt):Nat->Bool->Sto->Sto->Prop where
 |stop' {e:Nat} {b:Bool} {σ:Sto} (h:¬e<=t∨b=true):I6 g text D X P mN mT lv r d a t p ps' e b σ σ
 |miss' {e:Nat} {σ τ:Sto} (h:e<=t) (hin:(p.sort,a,e)∉D) (h2:I6 g text D X P mN mT lv r d a t p ps' (e+1) false σ τ):I6 g text D X P mN mT lv r d a t p ps' e false σ τ
 |hit' {e:Nat} {σ σ1 τ:Sto} (h:e<=t) (hin:(p.sort,a,e)∈D) (h1:Aso g text D X P mN mT lv r d t ps' e σ σ1) (h2:I6 g text D X P mN mT lv r d a t p ps' (e+1) (ldP D text t ps' e) σ1 τ):I6 g text D X P mN mT lv r d a t p ps' e false σ τ
section
variable {g:Gr}{text:List Str}{D:List Sp}{X:Cp}{P mN mT:Nat}{lv:AV}{r d a t:Nat}{p:Pt}{ps':List Pt}{e:Nat}{b:Bool}{σ τ:Sto}
theorem I6.stop(h:I6 g text D X P mN mT lv r d a t p ps' e b σ τ)(hs:¬e<=t∨b=true):σ=τ:=by
 cases h with
 |stop' _=>rfl
 |miss' h _ _=>rcases hs with hs|hs;exact absurd h hs;cases hs
 |hit' h _ _ _=>rcases hs with hs|hs;exact absurd h hs;cases hs
theorem I6.miss(h:I6 g text D X P mN mT lv r d a t p ps' e false σ τ)(hs:e<=t)(hin:(p.sort,a,e)∉D):I6 g text D X P mN mT lv r d a t p ps' (e+1) false σ τ:=by
 cases h with
 |stop' h=>rcases h with h|h;exact absurd hs h;cases h
 |miss' _ _ h=>exact h
 |hit' _ h _ _=>exact absurd h hin
theorem I6.hit(h:I6 g text D X P mN mT lv r d a t p ps' e false σ τ)(hs:e<=t)(hin:(p.sort,a,e)∈D):∃σ1,Al Ew 192 [.pr P 0,nV r,nV (d+1),nV e,nV t] σ (fun u υ=>u=.bool (ldP D text t ps' e)/\υ=σ1)/\PkB g text D X P mN mT lv σ1/\PkF mT σ σ1/\I6 g text D X P mN mT lv r d a t p ps' (e+1) (ldP D text t ps' e) σ1 τ:=by
 cases h with
 |stop' h=>rcases h with h|h;exact absurd hs h;cases h
 |miss' _ h _=>exact absurd hin h
 |hit' _ _ h1 h2=>exact⟨_,h1.1,h1.2.1,h1.2.2,h2⟩
theorem I6.ex(ih:∀(e:Nat) (σ:Sto),e<=t->PkB g text D X P mN mT lv σ->∃σ1,Aso g text D X P mN mT lv r d t ps' e σ σ1):∀(k e:Nat) (b:Bool) (σ:Sto),t+1-e=k->PkB g text D X P mN mT lv σ->∃τ,I6 g text D X P mN mT lv r d a t p ps' e b σ τ/\PkB g text D X P mN mT lv τ/\PkF mT σ τ:=by
 intro k
 induction k with
 |zero=>intro e b σ hk h;exact⟨σ,.stop' (.inl Om),h,.refl⟩
 |succ k ihk=>
  intro e b σ hk h;cases b with
  |true=>exact⟨σ,.stop' (.inr rfl),h,.refl⟩
  |false=>
   by_cases hin:(p.sort,a,e)∈D
   ·obtain⟨σ1,h1⟩:=ih e σ Om h;obtain⟨τ,h2,h3,h4⟩:=ihk (e+1) (ldP D text t ps' e) σ1 Om h1.2.1;exact⟨τ,.hit' Om hin h1 h2,h3,h1.2.2.trans h4⟩
   ·obtain⟨τ,h2,h3,h4⟩:=ihk (e+1) false σ Om h;exact⟨τ,.miss' Om hin h2,h3,h4⟩
end
def Acq(g:Gr)(text:List Str)(D:List Sp)(X:Cp)(P mN mT:Nat)(lv:AV)(r d a t:Nat)(σ σ9:Sto):List Pt->Prop
 |[]=>σ9=σ
 |p::ps'=>if p.sort=[]then(if a<t/\text.getD a []=p.symbol then Al Ew 192 [.pr P 0,nV r,nV (d+1),nV (a+1),nV t] σ (fun u υ=>u=.bool (ldP D text t ps' (a+1))/\υ=σ9)else σ9=σ)else I6 g text D X P mN mT lv r d a t p ps' a false σ σ9
theorem Anq {g : Gr} {text : List Str} {D : List Sp} {X : Cp} {P mN mT : Nat} {lv : AV} {r t : Nat} {rl : Rl} (hrl : g.rules[r]? = some rl) (hR : g.rules.length <= 1000000) (hpl : (rPt g r).length <= 1000000) (htl : text.length <= 1000000) (ht : t <= text.length) (ps : List Pt)
    (d a : Nat) (σ τ : Sto) (hpd : (rPt g r).drop d = ps) (hd : d <= (rPt g r).length) (ha : a <= text.length) (h : PkB g text D X P mN mT lv σ) {M : GM Lk4 Bool} {o : Option Bool} (hG : GAt 386 bE σ mT M) (hMx : ∀ r d a t b,M.get (lk r d a t) = some b -> b = ldP D text t ((rPt g r).drop d) a) (ho : M.get (lk r d a t) = o)
    (hfs : ∀ b,o = some b -> τ = σ) (hfn : o = none -> ∃ σ9 M9 v9,(Acq g text D X P mN mT lv r d a t σ σ9 ps /\ PkB g text D X P mN mT lv σ9 /\ PkF mT σ σ9) /\ σ9.get mT = some (.map 386 (Hi bE M9) v9) /\ τ = σ9.set mT (.map 386 (Hi bE (M9.put (lk r d a t) (ldP D text t ps a))) (v9 + 1))) : Al Ew 192 [.pr P 0,nV r,nV d,nV a,nV t] σ fun u υ => u = .bool (ldP D text t ps a) /\ υ = τ := by
  have hpr : rPt g r = rl.parts := by unfold rPt; rw [hrl]
  refine Aj Tryz.func192 rfl rfl fun hw hu0 => ?_
  refine G10 ?_;refine O1 (G0 zt386 ar386 rfl rfl) ?_;refine G4 ?_;refine X0 ?_;refine G3 ?_;refine DF (lO h.pk) ?_;refine G ?_;refine DF (Nu (o := o) Ab2 rfl hG rfl (Apw r d a t) ho) ?_;refine G6 ?_;refine ⟨rfl,rfl,?_⟩;refine G4 ?_;refine Ab rfl ?_ ?_ <;> intro h1
  · obtain ⟨b,hb⟩ := bg_.1 h1
    subst hb;refine G6 ?_
    exact ⟨_,rfl,_,σ,a_ hw nl (fun _ _ => rfl),nl,.same rfl,by rw [← hpd]; exact congrArg _ (hMx _ _ _ _ _ ho),(hfs b rfl).symm⟩
  · have hon : o = none := by cases ho2 : o with | none => rfl | some _ => rw [ho2] at h1; cases h1
    subst hon;obtain ⟨σ9,M9,v9,⟨bq,qn⟩,hM9,rfl⟩ := hfn rfl;refine G11 ?_;refine O1 (lO h.pk) ?_;refine G3 ?_;refine O1 (lO h.cl) ?_;refine G3 ?_;refine O1 (Ac ldC rfl rfl (Z7 rl _)) ?_;refine G9 ?_;refine Ab rfl ?_ ?_ <;> intro h2
    · have hps : ps = [] := by
        have hdl : d = rl.parts.length := ci_ (of_decide_eq_true h2)
        rw [← hpd]; exact ah_ (by rw [hpr]; omega)
      subst hps;have bq : σ9 = σ := bq;subst bq;have hn9 := Nat.le_refl (nx σ9)
      have hv9 : decide ((Int.ofNat a) = Int.ofNat t) = ldP D text t [] a := by
        show _ = decide (a = t)
        by_cases e : a = t
        · rw [decide_eq_true e,decide_eq_true (congrArg _ e)]
        · rw [decide_eq_false e,decide_eq_false (fun q => e (ci_ q))]
      refine G7 ?_;refine XS (l := []) trivial ?_;refine G3 ?_;refine DF (lO h.pk) ?_;refine G2 ?_
      refine DT (K7 (v := (decide ((Int.ofNat a) = Int.ofNat t))) Ab2 rfl hM9 rfl (Apw r d a t) rfl (fun te k1 k2 => by simp [Je,k1,k2])) ?_
      refine G6 ?_;refine Bo fun hw9 => ?_
      refine G ?_
      exact ⟨_,rfl,_,_,a_ hw9 nl (fun _ _ => rfl),by rw [Aq]; exact hn9,.same rfl,congrArg _ hv9,by rw [← hv9]⟩
    · have hdl : d < rl.parts.length := by
        have : ¬ (Int.ofNat d = Int.ofNat rl.parts.length) := by simpa using h2
        have hne : d ≠ rl.parts.length := fun e => this (congrArg _ e)
        rw [hpr] at hd; omega
      obtain ⟨p,hp⟩ := Ar hdl
      obtain ⟨ps',hps⟩ : ∃ ps',ps = p :: ps' := ⟨rl.parts.drop (d + 1),by rw [← hpd,hpr]; exact A4 hp⟩
      subst hps
      have fp : (rPt g r).drop (d + 1) = ps' := by
        have := A4 hp;rw [← hpr,hpd] at this;exact (List.cons.inj this).2.symm
      have hd1 : d + 1 <= (rPt g r).length := by rw [hpr]; omega
      have hdlim : d < 1000000 := by rw [hpr] at hpl; omega
      refine G5 ?_;refine O1 (Ac ldC rfl rfl (A6 (Jy p) _)) (Ho ziC ldC rfl (fun _ => rfl) rfl (A7 (Jy p)) rfl rfl ?_)
      refine G4 ?_;refine O1 (Ac ldC rfl rfl (Tt p)) ?_;refine G2 ?_;refine Ab rfl ?_ ?_ <;> intro h3
      · have cg : p.sort = [] := of_decide_eq_true h3
        simp only [Acq,if_pos cg] at bq
        have hv0 : ldP D text t (p :: ps') a = (decide (a < t) && decide (text.getD a [] = p.symbol) && ldP D text t ps' (a + 1)) := by
          show (if p.sort = [] then _ else _) = _
          rw [if_pos cg]
        by_cases hat : a < t
        · have hc1 : decide ((Int.ofNat a) < Int.ofNat t) = true := decide_eq_true (Int.ofNat_lt.2 hat)
          obtain ⟨y,htx⟩ := Ar (show a < text.length by omega)
          have hgy : text.getD a [] = y := by rw [List.getD_eq_getElem?_getD,htx]; rfl
          rw [hgy,decide_eq_true hat] at hv0
          by_cases hys : y = p.symbol
          · have hc2 : decide (y = p.symbol) = true := decide_eq_true hys
            rw [if_pos ⟨hat,by rw [hgy]; exact hys⟩] at bq
            refine XS (l := [(192,[.pr P 0,nV r,nV (d + 1),nV (a + 1),nV t],σ,.bool (ldP D text t ps' (a + 1)),σ9)]) ⟨bq,trivial⟩ ?_;refine G3 ?_;rw [hc1];refine G ?_;refine Bg rfl rfl rfl rfl rfl rfl rfl (Ag rfl) (Bg rfl rfl rfl rfl rfl rfl rfl (Ge rfl) (Bg rfl rfl rfl rfl rfl rfl rfl (Ae fdC rfl rfl) (Bg rfl rfl rfl rfl rfl rfl rfl (lO h.pk) (Bg rfl rfl rfl rfl rfl rfl rfl (Ge rfl) (Bg rfl rfl rfl rfl rfl rfl rfl (Ae fdC rfl rfl) (Bg rfl rfl rfl rfl rfl rfl rfl (lO h.cl) (Bg rfl rfl rfl rfl rfl rfl rfl (Ag rfl) ?_)))))));refine Bg rfl rfl rfl rfl rfl rfl rfl (A1 elC (fun _ => rfl) rfl rfl htx) ?_
            refine Bg rfl rfl rfl rfl rfl rfl rfl (Ac ldC rfl rfl rfl) (Bg rfl rfl rfl rfl rfl rfl rfl (Ae fdC rfl rfl) (Bg rfl rfl rfl rfl rfl rfl rfl (Ac ldC rfl rfl (Awd p)) (Bg rfl rfl rfl rfl rfl rfl rfl (H5 okC rfl rfl) ?_)));rw [hc2];refine DF (A3 rfl rfl rfl) ?_;refine G ?_;refine Bg rfl rfl rfl rfl rfl rfl rfl (Ag rfl) (Bg rfl rfl rfl rfl rfl rfl rfl (Ag rfl) (Bg rfl rfl rfl rfl rfl rfl rfl (Ag rfl) (Bg rfl rfl rfl rfl rfl rfl rfl (D3 (q := 1) okC rfl rfl Om) ?_)));refine Bg rfl rfl rfl rfl rfl rfl rfl (Ag rfl) (Bg rfl rfl rfl rfl rfl rfl rfl (D3 (q := 1) okC rfl rfl Om) ?_);refine Bg rfl rfl rfl rfl rfl rfl rfl (Ag rfl) (Ol rfl rfl rfl rfl rfl rfl rfl (Bq rfl rfl Bv) (DF (A3 rfl rfl rfl) ?_));refine G2 ?_;obtain ⟨h9,hF⟩ := qn;have hn9 := hF.n
            have hv9 : ldP D text t ps' (a + 1) = ldP D text t (p :: ps') a := by rw [hv0,decide_eq_true hys]; rfl
            refine G ?_;refine XS (l := []) trivial ?_;refine G3 ?_;refine DF (lO h9.pk) ?_;refine G2 ?_
            refine DT (K7 (v := (ldP D text t ps' (a + 1))) Ab2 rfl hM9 rfl (Apw r d a t) rfl (fun te k1 k2 => by simp [Je,k1,k2])) ?_
            refine G6 ?_;refine Bo fun hw9 => ?_
            refine G ?_
            exact ⟨_,rfl,_,_,a_ hw9 nl (fun _ _ => rfl),by rw [Aq]; exact hn9,.same rfl,congrArg _ hv9,by rw [← hv9]⟩
          · have hc2 : decide (y = p.symbol) = false := decide_eq_false hys
            refine XS (l := []) trivial ?_;refine G3 ?_;rw [hc1];refine G ?_;refine Bg rfl rfl rfl rfl rfl rfl rfl (Ag rfl) (Bg rfl rfl rfl rfl rfl rfl rfl (Ge rfl) (Bg rfl rfl rfl rfl rfl rfl rfl (Ae fdC rfl rfl) (Bg rfl rfl rfl rfl rfl rfl rfl (lO h.pk) (Bg rfl rfl rfl rfl rfl rfl rfl (Ge rfl) (Bg rfl rfl rfl rfl rfl rfl rfl (Ae fdC rfl rfl) (Bg rfl rfl rfl rfl rfl rfl rfl (lO h.cl) (Bg rfl rfl rfl rfl rfl rfl rfl (Ag rfl) ?_)))))));refine Bg rfl rfl rfl rfl rfl rfl rfl (A1 elC (fun _ => rfl) rfl rfl htx) ?_
            refine Bg rfl rfl rfl rfl rfl rfl rfl (Ac ldC rfl rfl rfl) (Bg rfl rfl rfl rfl rfl rfl rfl (Ae fdC rfl rfl) (Bg rfl rfl rfl rfl rfl rfl rfl (Ac ldC rfl rfl (Awd p)) (Bg rfl rfl rfl rfl rfl rfl rfl (H5 okC rfl rfl) ?_)));rw [hc2];refine DF (A3 rfl rfl rfl) ?_;refine G ?_;refine Bx rfl rfl rfl rfl rfl rfl rfl (Bx rfl rfl rfl rfl rfl rfl rfl (Bx rfl rfl rfl rfl rfl rfl rfl (Bx rfl rfl rfl rfl rfl rfl rfl (Bx rfl rfl rfl rfl rfl rfl rfl (Bx rfl rfl rfl rfl rfl rfl rfl (Bx rfl rfl rfl rfl rfl rfl rfl (K5 rfl rfl rfl rfl rfl rfl rfl ?_)))))));refine DF (Au rfl rfl rfl) ?_;refine G2 ?_
            rw [if_neg (fun q => hys (by rw [← hgy]; exact q.2))] at bq
            subst bq;have hn9 := Nat.le_refl (nx σ9)
            have hv9 : false = ldP D text t (p :: ps') a := by rw [hv0,decide_eq_false hys]; rfl
            refine G ?_;refine XS (l := []) trivial ?_;refine G3 ?_;refine DF (lO h.pk) ?_;refine G2 ?_
            refine DT (K7 (v := false) Ab2 rfl hM9 rfl (Apw r d a t) rfl (fun te k1 k2 => by simp [Je,k1,k2])) ?_
            refine G6 ?_;refine Bo fun hw9 => ?_
            refine G ?_
            exact ⟨_,rfl,_,_,a_ hw9 nl (fun _ _ => rfl),by rw [Aq]; exact hn9,.same rfl,congrArg _ hv9,by rw [← hv9]⟩
        · have hc1 : decide ((Int.ofNat a) < Int.ofNat t) = false := decide_eq_false (fun e => hat (Int.ofNat_lt.1 e))
          refine XS (l := []) trivial ?_;refine G3 ?_;rw [hc1];refine G ?_;refine Bx rfl rfl rfl rfl rfl rfl rfl (Bx rfl rfl rfl rfl rfl rfl rfl (Bx rfl rfl rfl rfl rfl rfl rfl (Bx rfl rfl rfl rfl rfl rfl rfl (Bx rfl rfl rfl rfl rfl rfl rfl (Bx rfl rfl rfl rfl rfl rfl rfl (Bx rfl rfl rfl rfl rfl rfl rfl (Bx rfl rfl rfl rfl rfl rfl rfl ?_)))))));refine Bx rfl rfl rfl rfl rfl rfl rfl (Bx rfl rfl rfl rfl rfl rfl rfl (Bx rfl rfl rfl rfl rfl rfl rfl (Bx rfl rfl rfl rfl rfl rfl rfl (Bx rfl rfl rfl rfl rfl rfl rfl (DF (Au rfl rfl rfl) ?_)))));refine G ?_;refine Bx rfl rfl rfl rfl rfl rfl rfl (Bx rfl rfl rfl rfl rfl rfl rfl (Bx rfl rfl rfl rfl rfl rfl rfl (Bx rfl rfl rfl rfl rfl rfl rfl (Bx rfl rfl rfl rfl rfl rfl rfl (Bx rfl rfl rfl rfl rfl rfl rfl (Bx rfl rfl rfl rfl rfl rfl rfl (K5 rfl rfl rfl rfl rfl rfl rfl ?_)))))));refine DF (Au rfl rfl rfl) ?_;refine G2 ?_;rw [if_neg (fun q => hat q.1)] at bq
          subst bq;have hn9 := Nat.le_refl (nx σ9)
          have hv9 : false = ldP D text t (p :: ps') a := by rw [hv0,decide_eq_false hat]; rfl
          refine G ?_;refine XS (l := []) trivial ?_;refine G3 ?_;refine DF (lO h.pk) ?_;refine G2 ?_
          refine DT (K7 (v := false) Ab2 rfl hM9 rfl (Apw r d a t) rfl (fun te k1 k2 => by simp [Je,k1,k2])) ?_
          refine G6 ?_;refine Bo fun hw9 => ?_
          refine G ?_
          exact ⟨_,rfl,_,_,a_ hw9 nl (fun _ _ => rfl),by rw [Aq]; exact hn9,.same rfl,congrArg _ hv9,by rw [← hv9]⟩
      · have cg : p.sort ≠ [] := of_decide_eq_false h3
        simp only [Acq,if_neg cg] at bq;obtain ⟨f,hf⟩ : ∃ f : Nat -> Bool,(fun e => decide ((p.sort,a,e) ∈ D) && ldP D text t ps' e) = f := ⟨_,rfl⟩
        have hv0 : ldP D text t (p :: ps') a = (List.range' a (t + 1 - a)).any f := by
          show (if p.sort = [] then _ else _) = _
          rw [if_neg cg,← hf]
        refine G6 ?_
        refine Ci (fun q : Nat × Bool => [(0,.pr P 0),(1,nV r),(2,nV d),(3,nV a),(4,nV t),(11,.pv [nV r,nV d,nV a,nV t]),(14,.bool q.2),(16,.pv (ePt p)),(17,nV q.1)]) (fun q σ0 => a <= q.1 /\ (q.1 <= t + 1 ∨ q.1 = a) /\ q.2 = (List.range' a (q.1 - a)).any f /\ PkB g text D X P mN mT lv σ0 /\ PkF mT σ σ0 /\ I6 g text D X P mN mT lv r d a t p ps' q.1 q.2 σ0 σ9) (fun q => t + 1 - q.1) (a,false) SL ⟨nl,.inr rfl,by rw [Nat.sub_self]; rfl,h,.refl,bq⟩ ?_
        rintro ⟨e,b⟩ σ0 ⟨hae,het,hbe,hY,hF,hLd⟩;have hae : a <= e := hae;have het : e <= t + 1 ∨ e = a := het;have hbe : b = (List.range' a (e - a)).any f := hbe;have hY : PkB g text D X P mN mT lv σ0 := hY;have hF : PkF mT σ σ0 := hF;have hLd : I6 g text D X P mN mT lv r d a t p ps' e b σ0 σ9 := hLd;refine G5 ?_;refine O1 (Hn okC rfl rfl) ?_;refine G ?_;refine TAn 2 ?_ (fun hg => ?_) ?_
        rotate_left
        · iterate 2 refine Gn hg ?_
          exact Ez
        refine G ?_;refine Ab rfl ?_ ?_ <;> intro h4
        · obtain ⟨hl1,hl2⟩ : e <= t /\ b = false := by
            rw [ad_] at h4
            exact ⟨bm_.1 (of_decide_eq_true h4.1),by simpa using h4.2⟩
          obtain ⟨MD,⟨vD,hMD⟩,dh⟩ := hY.dn
          have nz : (List.range' a (e + 1 - a)).any f = (b || f e) := by
            rw [show e + 1 - a = (e - a) + 1 by omega,Yz,← hbe,show a + (e - a) = e by omega]
          refine G3 ?_;subst hl2
          by_cases hin : (p.sort,a,e) ∈ D
          · have hm := (dh _).1 hin
            obtain ⟨σ1,qr,h9,hF9,qs⟩ := hLd.hit hl1 hin;refine XS (l := [(192,[.pr P 0,nV r,nV (d + 1),nV e,nV t],σ0,.bool (ldP D text t ps' e),σ1)]) ⟨qr,trivial⟩ ?_;refine G3 ?_;refine DF (lO hY.pk) ?_;refine G2 ?_;refine DF (lO hY.cl) ?_;refine G ?_;refine DF (Ac ldC rfl rfl (Tt p)) ?_;refine G3 ?_;refine DF (Ns (o := some true) (z := .bool false) Va rfl ⟨vD,hMD⟩ rfl (Acn (p.sort,a,e)) hm) ?_;refine G ?_;refine Bg rfl rfl rfl rfl rfl rfl rfl (Ag rfl) (Bg rfl rfl rfl rfl rfl rfl rfl (Ag rfl) (Bg rfl rfl rfl rfl rfl rfl rfl (Ag rfl) (Bg rfl rfl rfl rfl rfl rfl rfl (D3 (q := 1) okC rfl rfl Om) ?_)));refine Bg rfl rfl rfl rfl rfl rfl rfl (Ag rfl) (Bg rfl rfl rfl rfl rfl rfl rfl (Ag rfl) (Ol rfl rfl rfl rfl rfl rfl rfl (Bq rfl rfl Bv) (DF (A3 rfl rfl rfl) ?_)));refine G7 ?_
            refine ⟨(e + 1,ldP D text t ps' e),by show t + 1 - (e + 1) < t + 1 - e; omega,SL,by show a <= e + 1; omega,.inl (by show e + 1 <= _; omega),by show _ = (List.range' a (e + 1 - a)).any f; rw [nz]; exact (by rw [← hf]; show _ = (false || (decide _ && _)); rw [decide_eq_true hin]; rfl),h9,hF.trans hF9,qs⟩
          · have hm := (dh _).2 hin
            refine XS (l := []) trivial ?_;refine G3 ?_;refine DF (lO hY.pk) ?_;refine G2 ?_;refine DF (lO hY.cl) ?_;refine G ?_;refine DF (Ac ldC rfl rfl (Tt p)) ?_;refine G3 ?_;refine DF (Ns (o := none) (z := .bool false) Va rfl ⟨vD,hMD⟩ rfl (Acn (p.sort,a,e)) hm) ?_;refine G ?_;refine Bx rfl rfl rfl rfl rfl rfl rfl (Bx rfl rfl rfl rfl rfl rfl rfl (Bx rfl rfl rfl rfl rfl rfl rfl (Bx rfl rfl rfl rfl rfl rfl rfl (Bx rfl rfl rfl rfl rfl rfl rfl (Bx rfl rfl rfl rfl rfl rfl rfl (K5 rfl rfl rfl rfl rfl rfl rfl (DF (Au rfl rfl rfl) ?_)))))));refine G7 ?_
            refine ⟨(e + 1,false),by show t + 1 - (e + 1) < t + 1 - e; omega,SL,by show a <= e + 1; omega,.inl (by show e + 1 <= _; omega),by show _ = (List.range' a (e + 1 - a)).any f; rw [nz]; exact (by rw [← hf]; show _ = (false || (decide _ && _)); rw [decide_eq_false hin]; rfl),hY,hF,hLd.miss hl1 hin⟩
        · have hv9 : b = ldP D text t (p :: ps') a := by
            rw [hv0];rw [Bool.and_eq_false_iff] at h4
            rcases h4 with h4 | h4
            · have hgt : ¬ e <= t := fun q => (of_decide_eq_false h4) (bm_.2 q)
              rw [hbe]
              congr 2
              omega
            · have hbt : b = true := by simpa using h4
              rw [hbt] at hbe ⊢
              rcases het with het | het
              · exact (Alq (show e - a <= t + 1 - a by omega) hbe.symm).symm
              · rw [het,Nat.sub_self] at hbe; cases hbe
          have da : σ0 = σ9 := hLd.stop (by
            rw [Bool.and_eq_false_iff] at h4
            rcases h4 with h4 | h4
            · exact .inl fun q => (of_decide_eq_false h4) (bm_.2 q)
            · exact .inr (by simpa using h4))
          subst da;have hn9 := hF.n;refine G2 ?_;refine XS (l := []) trivial ?_;refine G3 ?_;refine DF (lO hY.pk) ?_;refine G2 ?_
          refine DT (K7 (v := b) Ab2 rfl hM9 rfl (Apw r d a t) rfl (fun te k1 k2 => by simp [Je,k1,k2])) ?_
          refine G6 ?_;refine Bo fun hw9 => ?_
          refine G ?_
          exact ⟨_,rfl,_,_,a_ hw9 nl (fun _ _ => rfl),by rw [Aq]; exact hn9,.same rfl,congrArg _ hv9,by rw [← hv9]⟩
theorem f192{g:Gr}{text:List Str}{D:List Sp}{X:Cp}{P mN mT:Nat}{lv:AV}{r t:Nat}{rl:Rl}(hrl:g.rules[r]? =some rl)(hR:g.rules.length<=1000000)(hpl:(rPt g r).length<=1000000)(htl:text.length<=1000000)(ht:t<=text.length):∀(ps:List Pt) (d a:Nat) (σ:Sto),(rPt g r).drop d=ps->d<=(rPt g r).length->a<=text.length->PkB g text D X P mN mT lv σ->∃τ,Al Ew 192 [.pr P 0,nV r,nV d,nV a,nV t] σ (fun u υ=>u=.bool (ldP D text t ps a)/\υ=τ)/\PkB g text D X P mN mT lv τ/\PkF mT σ τ:=by
 intro ps
 induction ps with
 |nil=>
  intro d a σ hpd hd ha h;obtain⟨M,⟨ver,hM⟩,hMx⟩:=h.rs;cases ho:M.get (lk r d a t)with
  |some b=>exact⟨σ,Anq hrl hR hpl htl ht [] d a σ σ hpd hd ha h ⟨ver,hM⟩ hMx ho (fun _ _=>rfl) (fun q=>by cases q),h,.refl⟩
  |none=>exact⟨_,Anq hrl hR hpl htl ht [] d a σ _ hpd hd ha h ⟨ver,hM⟩ hMx ho (fun _ q=>by cases q) (fun _=>⟨σ,M,ver,⟨rfl,h,.refl⟩,hM,rfl⟩),h.keep .set (.put hMx (by rw[hpd])),.set⟩
 |cons p ps' ih=>
  intro d a σ hpd hd ha h;obtain⟨M,⟨ver,hM⟩,hMx⟩:=h.rs
  have hd1:d+1<=(rPt g r).length:=by
   have:((rPt g r).drop d).length=ps'.length+1:=by rw[hpd];rfl
   rw[dp_]at this;omega
  have fp:(rPt g r).drop (d+1)=ps':=by
   have:((rPt g r).drop d).drop 1=ps':=by rw[hpd];rfl
   rwa[eo_]at this
  cases ho:M.get (lk r d a t)with
  |some b=>exact⟨σ,Anq hrl hR hpl htl ht _ d a σ σ hpd hd ha h ⟨ver,hM⟩ hMx ho (fun _ _=>rfl) (fun q=>by cases q),h,.refl⟩
  |none=>
   obtain⟨σ9,bq,h9,hF9⟩:∃σ9,Acq g text D X P mN mT lv r d a t σ σ9 (p::ps')/\PkB g text D X P mN mT lv σ9/\PkF mT σ σ9:=by
    simp only[Acq]
    by_cases hps:p.sort=[]
    ·by_cases hat:a<t/\text.getD a []=p.symbol
     ·obtain⟨τ,h1,h2,h3⟩:=ih (d+1) (a+1) σ fp hd1 Om h
      exact⟨τ,by rw[if_pos hps,if_pos hat];exact h1,h2,h3⟩
     ·exact⟨σ,by rw[if_pos hps,if_neg hat],h,.refl⟩
    ·obtain⟨τ,h1,h2,h3⟩:=I6.ex (a:=a) (p:=p) (r:=r) (d:=d) (ps':=ps') (fun e σ he hp=>by
      obtain⟨τ,h1,h2,h3⟩:=ih (d+1) e σ fp hd1 Om hp;exact⟨τ,h1,h2,h3⟩) (t+1-a) a false σ rfl h
     exact⟨τ,by rw[if_neg hps];exact h1,h2,h3⟩
   obtain⟨M9,⟨v9,hM9⟩,qt⟩:=h9.rs;have hf9:=hF9.trans (PkF.set (o:=.map 386 (Hi bE (M9.put (lk r d a t) (ldP D text t (p::ps') a))) (v9+1)))
   exact⟨_,Anq hrl hR hpl htl ht _ d a σ _ hpd hd ha h ⟨ver,hM⟩ hMx ho (fun _ q=>by cases q) (fun _=>⟨σ9,M9,v9,⟨bq,h9,hF9⟩,hM9,rfl⟩),h.keep hf9 (.put qt (by rw[hpd])),hf9⟩
theorem f155{g:Gr}{text:List Str}{D:List Sp}{X:Cp}{N P mN mT:Nat}{lv:AV}{L:List Sp}{σ:Sto}(h:PkB g text D X P mN mT lv σ)(hl:PkL L N mN lv σ)(hN:P<N/\X.c<N/\X.mD<N/\mT<N)(hne:mN≠X.mD/\mN≠mT)(s:Sp)(bn:L.length<=30000000):
  ∃lv' τ,Al Ew 155 [.pr P 0,.agg (eSp s)] σ (fun u υ=>u=nV (D2 L s).1/\υ=τ)/\PkB g text D X P mN mT lv' τ/\PkL (D2 L s).2 N mN lv' τ/\PkM N P mN lv σ lv' τ:=by
 obtain⟨M,⟨ver,hM⟩,hMx⟩:=hl.num
 have hmP:P≠mN:=fun e=>by have:=h.pk;grind
 have hmC:X.c≠mN:=fun e=>by have:=h.cl;grind
 by_cases hs:s∈L
 ·have ho:M.get (sk s)=some (L.idxOf s):=gr
  have e:D2 L s=(L.idxOf s,L):=by unfold D2;rw[if_pos hs]
  rw[e];refine⟨lv,σ,?_,h,hl,.refl⟩;refine Aj Tryz.func155 rfl rfl fun hw hu0=>?_
  refine G6 ?_;refine X0 ?_;refine G3 ?_;refine DF (lO h.pk) ?_;refine G ?_;refine DF (Nu (o:=some (L.idxOf s)) Am1 rfl ⟨ver,hM⟩ rfl (Acn s) ho) ?_;refine G6 ?_;refine⟨rfl,rfl,?_⟩;refine G6 ?_;refine Ab rfl gr (fun h1=>?_)
  ·skip
   refine G7 ?_;exact⟨_,rfl,_,_,a_ hw nl (fun _ _=>rfl),nl,.same rfl,rfl,rfl⟩
 
 ·have ho:M.get (sk s)=none:=gr
  have e:D2 L s=(L.length,L++[s]):=by unfold D2;rw[if_neg hs]
  rw[e];have hal:∀a,adr lv=some a->N<=a/\a<nx σ:=fun a ha=>hl.lst.adr_lt ha
  have ny:adr lv≠some mN:=fun e=>by have:=(hal _ e).1;have:=hl.lt.1;omega
  generalize hσ1:σ.set mN (.map 232 (Hi nV (M.put (sk s) L.length)) (ver+1))=σ1
  have n1:nx σ1=nx σ:=gr;have g1:∀b,b≠mN->σ1.get b=σ.get b:=gr;have hm1:σ1.get mN=some (.map 232 (Hi nV (M.put (sk s) L.length)) (ver+1)):=gr;have hp1:=(g1 P hmP).trans h.pk
  have hl1:Own σ1 N eSp 3 L lv:=hl.lst.of_get Om fun a ha=>g1 a fun e=>ny (by rw[ha,e])
  obtain⟨σ2,hap,n2,ho2,g2⟩:=dn_ (enc:=eSp) (l:=L) (sz:=3) (by':=32) (fun _=>rfl) (by rw[n1];exact hl.lt.2) hl1 s (by simp only[sizeLim];omega)
  rw[n1]at hap n2 ho2 g2;have hp2:=(g2 P h.lt.1 gr).trans hp1
  generalize hσ3:σ2.set P (.cells [.pr X.c 0,.mp mN,.sr (nx σ) 0 3 (L.length+1) none,.mp mT])=σ3
  have n3:nx σ3=nx σ+1:=gr;have g3:∀b,b≠P->σ3.get b=σ2.get b:=gr;have g4:∀b,b<nx σ->b≠P->b≠mN->adr lv≠some b->σ3.get b=σ.get b:=gr;obtain⟨q1,q2,q3⟩:=h.ne;have hlo:∀b,b<N->adr lv≠some b:=gr
  refine⟨.sr (nx σ) 0 3 (L.length+1) none,σ3,?_,⟨?_,?_,?_,?_,?_⟩,⟨⟨M.put (sk s) L.length,⟨ver+1,?_⟩,fun t=>?_⟩,?_,hl.lt.1,?_⟩,⟨by omega,fun a ha=>.inr (by cases ha;grind),g4⟩⟩
  rotate_left
  ·grind
  ·rw[g4 _ h.lt.2.1 (fun e=>?_) hmC (hlo _ hN.2.1)]
   ·exact h.cl
   ·have:=h.pk;rw[←e,h.cl]at this;cases this
  ·refine h.dn.of_get (g4 _ h.lt.2.2.1 (fun e=>?_) hne.1.symm (hlo _ hN.2.2.1))
   obtain⟨M',⟨v',hM'⟩,_⟩:=h.dn
   grind
  ·exact h.rs.of_get (g4 _ h.lt.2.2.2 q1.symm hne.2.symm (hlo _ hN.2.2.2))
  ·have:=h.lt;omega
  ·rw[g3 _ hmP.symm,g2 _ (by have:=hl.lt;omega) ny];exact hm1
  ·rw[fp_,Apx hs,hMx]
   by_cases e:t=s
   ·grind
   ·rw[if_neg e,if_neg (fun q=>e (Ask.1 q))]
  ·exact ho2.of_get Om fun a ha=>g3 a fun e=>by cases ha;have:=h.lt.1;omega
  ·have:=hl.lt.2;omega
  refine Aj Tryz.func155 rfl rfl fun hw hu0=>?_
  refine G6 ?_;refine X0 ?_;refine G3 ?_;refine DF (lO h.pk) ?_;refine G ?_;refine DF (Nu (o:=none) Am1 rfl ⟨ver,hM⟩ rfl (Acn s) ho) ?_;refine G6 ?_;refine⟨rfl,rfl,?_⟩;refine G6 ?_;refine Ab rfl (fun h1=>?_) gr
  ·skip
   refine G5 ?_;refine O1 (lO h.pk) (O1 (Bf slC rfl hl.lst.lenA.1 hl.lst.lenA.2) ?_);refine G3 ?_;refine XS (l:=[]) trivial ?_;refine G3 ?_;refine DF (lO h.pk) ?_;refine G2 ?_;refine DT (K7 (v:=L.length) Am1 rfl hM rfl (Acn s) rfl (fun te k1 k2=>I2 k1 k2)) ?_
   refine G ?_;rw[hσ1];refine XS (l:=[]) trivial ?_;refine G4 ?_;refine DF (lO hp1) ?_;refine G ?_;refine DF (Ai elC byW rfl rfl rfl) (DT (Av elC rfl slC rfl rfl rfl (new:=eSp s) rfl hap) ?_);refine G2 ?_;refine DT (sO (cs':=[.pr X.c 0,.mp mN,.sr (nx σ) 0 3 (L.length+1) none,.mp mT]) hp2) ?_;refine G ?_;rw[hσ3];refine G5 ?_;refine Bo fun hw3=>?_
   refine G ?_
   exact⟨_,rfl,_,_,a_ hw3 nl (fun _ _=>rfl),by omega,.same rfl,rfl,rfl⟩
def I7(g:Gr)(sort:Str)(text:List Str):Int:=if Eb g≠0 then Eb g else if(!(g.sorts.any fun x=>decide (sort=x)))=true then 5 else if 200<text.length then 4 else 0
theorem f118(g:Gr)(sort:Str)(text:List Str)(σ:Sto)(hB:GrB g)(hl:text.length<1000000):Cv 118 [grV g,sV sort,Af text] σ (iV (I7 g sort text)):=by
 refine Aj Tryz.func118 rfl rfl fun hw hu0=>?_
 refine G9 ?_;refine Ca (f117 g _ hB) ?_;refine G9 ?_;refine Ab rfl ?_ ?_<;>intro h1
 ·have g1:Eb g≠0:=by simpa using h1
  refine G6 ?_
  exact⟨_,rfl,_,_,a_ hw nl (fun _ _=>rfl),nl,.same rfl,by unfold I7;rw[if_pos g1];rfl,rfl⟩
 ·have g1:¬Eb g≠0:=by simpa using h1
  refine G5 ?_
  refine Ca (f15 g.sorts sort _ (by have:=hB.s;omega)) ?_
  refine G3 ?_;refine Ab rfl ?_ ?_<;>intro h2
  ·skip
   refine G5 ?_
   exact⟨_,rfl,_,_,a_ hw nl (fun _ _=>rfl),nl,.same rfl,by unfold I7;rw[if_neg g1,if_pos h2];rfl,rfl⟩
  ·skip
   refine G7 ?_;refine Ab rfl ?_ ?_<;>intro h3
   ·have g3:200<text.length:=(by have h9:(200:Int)<(text.length:Int):=(by simpa using h3);omega)
    refine G5 ?_
    exact⟨_,rfl,_,_,a_ hw nl (fun _ _=>rfl),nl,.same rfl,by unfold I7;rw[if_neg g1,if_neg (by rw[h2];simp),if_pos g3];rfl,rfl⟩
   ·have g3:¬200<text.length:=(by have h9:¬(200:Int)<(text.length:Int):=(by simpa using h3);omega)
    refine G6 ?_
    exact⟨_,rfl,_,_,a_ hw nl (fun _ _=>rfl),nl,.same rfl,by unfold I7;rw[if_neg g1,if_neg (by rw[h2];simp),if_neg g3];rfl,rfl⟩
theorem f67(t:Str)(σ:Sto):Cv 67 [sV t] σ (sV (D7 t)):=by
 refine Aj Tryz.func67 rfl rfl fun hw hu0=>?_
 refine G8 ?_;refine O1 (H5 (q:=[124,45]) okC rfl rfl) ?_;refine G ?_;refine Ab rfl ?_ ?_<;>intro h1
 ·skip
  refine G5 ?_
  exact⟨_,rfl,_,_,a_ hw nl (fun _ _=>rfl),nl,.same rfl,by unfold D7;rw[if_pos (of_decide_eq_true h1)];rfl,rfl⟩
 ·skip
  refine G7 ?_
  exact⟨_,rfl,_,_,a_ hw nl (fun _ _=>rfl),nl,.same rfl,by unfold D7;rw[if_neg (of_decide_eq_false h1)];rfl,rfl⟩
section
variable {W:Wd}{b:Int}{o:Nat}{at':List Int}{ss:List Str}{fs:List (List Int->Int)}{len:Nat}
end
section
variable {E:Env}{ρ:Ad}{σ:Sto}{Rr:Rec}{t ty a off sz len:Nat}{cap:Option Nat}{x:Operand}
theorem sl_ti(hsl:Mk E.P t=true):∃ti e,Ay E.P t=some ti/\ti.desc=.slice e:=by
 unfold Mk at hsl
 grind
theorem Apy(hsl:Mk E.P t=true)(hx:Ah E ρ x=some (.sr a off sz len cap)):As E Rr (.binOp .eql t x (.const (.slice none 0 0)) ty) ρ σ (.bool false) σ:=fun tm h=>by
 obtain⟨ti,e,h1,h2⟩:=sl_ti hsl
 have hc:(Cm x||Cm (.const (.slice none 0 0)))=true:=by rw[Bool.or_comm];rfl
 have hy:opd E tm (.const (.slice none 0 0))=nS:=rfl;simp only[opA,Aw,h.opd hx,hy,hc,Wb,h1,Ir,cond_true,Ad7,Q6,Pm,h2,cond_false,Bool.true_or,Sx]
theorem srcSr{α:Type}{cap:Option Nat}{enc:α->List AV}{tl:List AV}{l:List α}(he:∀a,(enc a).length=sz)(hg:σ.get a=some (.cells (l.flatMap enc++tl))):F9 σ sz (.sr a 0 sz l.length cap) l.length=some (l.flatMap enc):=by
 simp only[F9,Sto.cells,hg,db_];rw[←Dl he l];exact D0
end
theorem O2(s:Sp):(eSp s).length=3:=rfl
theorem Axo{N:Nat}(s:Sp):AV.unds N (eSp s)=true:=rfl
theorem f193(a:Nat)(cap:Option Nat)(l:List Sp)(tl:List AV)(σ:Sto)(ha:σ.get a=some (.cells (l.flatMap eSp++tl)))(hb:l.length<1000000):Al Ew 193 [.sr a 0 3 l.length cap] σ fun u σ'=>u=slV eSp 3 l/\σ'=σ:=by
 refine Aj Tryz.func193 rfl rfl fun hw hu0=>?_
 obtain⟨v,τ,hap,bf,cb,hg⟩:=ex_ (σ:=σ) (N:=nx σ) (by':=32) O2 nl Own.emp l (by simp only[sizeLim,cu_];omega)
 refine G8 ?_;refine O1 (Apy slC rfl) ?_;refine G ?_
 refine Ab rfl (fun h1=>by cases h1) (fun h1=>?_)
 refine G3 ?_;refine O1 (Ai elC byW rfl rfl rfl) ?_;refine G ?_;refine O1 (Av elC rfl slC rfl rfl rfl (srcSr (enc:=eSp) O2 ha) hap) ?_;refine G3 ?_;exact⟨_,rfl,slV eSp 3 l,σ,am_ hw cb,nl,bf.fz O2 (fun b hb=>hw.none hb) (A2 Axo _),rfl,rfl⟩
def foM{α β:Type}(st:α->β->Option α):List β->α->Option α
 |[],a=>some a
 |x::r,a=>match st a x with
  |none=>none
  |some a'=>foM st r a'
theorem Ahi{α β:Type}{st:α->β->Option α}:∀{l m:List β} {a:α},foM st (l++m) a=match foM st l a with|none=>none|some a'=>foM st m a'
 |[],m,a=>rfl
 |x::r,m,a=>by
  show(match st a x with|none=>none|some a'=>foM st (r++m) a')=match(match st a x with|none=>none|some a'=>foM st r a')with|none=>none|some a'=>foM st m a'
  cases st a x with
  |none=>rfl
  |some a'=>exact Ahi
theorem Xd{D:List Sp}{text:List Str}{to:Nat}:∀(ps:List Pt) (a:Nat) (K K':List Sp),K.length=K'.length->(∀j,(∀p∈ps,p.sort≠[]->p.arg.toNat≠j)->K[j]? =K'[j]?)->wyP D text to ps a K=wyP D text to ps a K'
 |[],a,K,K',hl,h=>by
  have:K=K':=List.ext_getElem? fun j=>h j fun p hp=>by cases hp
  rw[this]
 |p::ps,a,K,K',hl,h=>by
  unfold wyP
  split
  ·rfl
  ·split
   ·rename_i hp
    exact Xd ps _ _ _ hl fun j hj=>h j fun q hq hs=>by
     rcases an_.1 hq with rfl|hq
     ·exact absurd hp hs
     ·exact hj q hq hs
   ·congr 1
    funext e
    split
    ·refine Xd ps _ _ _ (by rw[dc_,dc_,hl]) fun j hj=>?_
     rw[List.getElem?_set,List.getElem?_set,hl]
     by_cases e:p.arg.toNat=j
     ·rw[if_pos e,if_pos e]
     ·rw[if_neg e,if_neg e]
      exact h j fun q hq hs=>by
       rcases an_.1 hq with rfl|hq
       ·exact e
       ·exact hj q hq hs
    ·rfl
structure Con (mT aK:Nat)(F:Nat->Prop)(σ:Sto)(F':Nat->Prop)(σ':Sto):Prop where
 n:nx σ<=nx σ'
 f:∀b,F' b->F b∨nx σ<=b
 g:∀b,b<nx σ->¬F b->b≠mT->b≠aK->σ'.get b=σ.get b
theorem Con.trans{mT aK:Nat}{F F' F'':Nat->Prop}{σ τ υ:Sto}(h:Con mT aK F σ F' τ)(k:Con mT aK F' τ F'' υ):Con mT aK F σ F'' υ:=by
 refine⟨ai_ h.n k.n,fun b hb=>?_,fun b hb hf h1 h2=>?_⟩
 ·rcases k.f b hb with q|q
  ·exact h.f b q
  ·exact .inr (ai_ h.n q)
 ·rw[k.g b (ak_ hb h.n) (fun q=>?_) h1 h2,h.g b hb hf h1 h2]
  rcases h.f b q with q|q
  ·exact hf q
  ·omega
theorem Con.of{mT aK:Nat}{F:Nat->Prop}{σ τ:Sto}(hn:nx σ<=nx τ)(hg:∀b,b<nx σ->b≠mT->b≠aK->τ.get b=σ.get b):Con mT aK F σ F τ:=⟨hn,fun _ h=>.inl h,fun b hb _ h1 h2=>hg b hb h1 h2⟩
theorem Con.weak{mT aK:Nat}{F F':Nat->Prop}{σ τ:Sto}(h:Con mT mT F σ F' τ):Con mT aK F σ F' τ:=⟨h.n,h.f,fun b hb hf h1 _=>h.g b hb hf h1 h1⟩
structure Cons (Ls:List RF)(L:RF)(g:Gr)(text:List Str)(D:List Sp)(X:Cp)(P mN mT aK n:Nat){α:Type}(I:α->(Nat->Prop)->Sto->Prop)(J:XE->Sto->Prop)(st:α->List Sp->Option α):Prop where
 pk:∀a F τ,I a F τ->∃lv,PkB g text D X P mN mT lv τ
 ks:∀a F τ,I a F τ->¬F aK
 stb:∀a F τ τ',I a F τ->nx τ<=nx τ'->(∀b,b<nx τ->b≠mT->b≠aK->τ'.get b=τ.get b)->Vo g D text τ' mT->I a F τ'
 y:∀a F (K:List Sp) τ,K.length=n->I a F τ->YX Ew Ls L [slV eSp 3 K] τ fun x τ'=>match st a K with
  |some a'=>x=.normal/\∃F',I a' F' τ'/\Con mT mT F τ F' τ'
  |none=>x≠.normal/\J x τ'
theorem Fe{σ:Sto}{b:Nat}:σ.bump.get b=σ.get b:=Fh _ _
theorem Asp{D:List Sp}{text:List Str}{to:Nat}{ps:List Pt}{a:Nat}{K:List Sp}(h:ldP D text to ps a=false):wyP D text to ps a K=[]:=by
 cases ps with
 |nil=>unfold wyP;rw[if_neg (by rw[h];simp)]
 |cons p ps=>unfold wyP;rw[if_pos h]
def Tu{α:Type}(text:List Str)(D:List Sp)(mT aK n:Nat)(I:α->(Nat->Prop)->Sto->Prop)(J:XE->Sto->Prop)(st:α->List Sp->Option α)(t:Nat)(ps:List Pt)(a:Nat)(K:List Sp)(acc:α)(F:Nat->Prop)(σ:Sto)(v:AV)(σ':Sto):Prop:=
 match foM st (wyP D text t ps a K) acc with
 |some acc'=>v=.bool true/\∃(F':Nat->Prop) (K':List Sp),I acc' F' σ'/\Con mT aK F σ F' σ'/\K'.length=n/\σ'.get aK=some (.cells (K'.flatMap eSp))/\∀j,(∀p∈ps,p.sort≠[]->p.arg.toNat≠j)->K'[j]? =K[j]?
 |none=>v=.bool false/\nx σ<=nx σ'/\∃x,x≠.normal/\J x σ'
def Anr(P r t n aK:Nat)(parts:List Pt)(L:RF)(aF:Nat):List AV:=[.pv [.pr P 0],.pv [nV r],.pv [nV t],.pv [slV ePt 3 parts],.pv [.yl L.aY],.pv [.sr aK 0 3 n (some n)],.pr aF 0]
def Acr(P r t n aK:Nat)(parts:List Pt)(L:RF)(aF:Nat):AV:=.fn (.func 191) [] (Anr P r t n aK parts L aF)
theorem Tu.bool{α:Type}{text:List Str}{D:List Sp}{mT aK n:Nat}{I:α->(Nat->Prop)->Sto->Prop}{J:XE->Sto->Prop}{st:α->List Sp->Option α}{t:Nat}{ps:List Pt}{a:Nat}{K:List Sp}{acc:α}{F:Nat->Prop}{σ:Sto}{v:AV}{σ':Sto}(h:Tu text D mT aK n I J st t ps a K acc F σ v σ'):∃b,v=.bool b:=by
 unfold Tu at h
 grind
theorem Awe{Ls:List RF}{L:RF}(hL:L∈Ls){g:Gr}{text:List Str}{D:List Sp}{X:Cp}{P mN mT aK n r t aF:Nat}{rl:Rl}{α:Type}{I:α->(Nat->Prop)->Sto->Prop}{J:XE->Sto->Prop}{st:α->List Sp->Option α}(hC:Cons Ls L g text D X P mN mT aK n I J st)(hrl:g.rules[r]? =some rl)(hG:∀p∈rl.parts,p.sort≠[]->∃j:Nat,p.arg=Int.ofNat j/\j<n)(hR:g.rules.length<=1000000)(hpl:rl.parts.length<=1000000)(htl:text.length<=1000000)(ht:t<=text.length)(hn:n<=1000000-1)(hne:aF≠aK/\aF≠mT/\aK≠mT)(ps:List Pt)
  (ih:∀p ps',ps=p::ps'->∀(d a:Nat) (K:List Sp) (acc:α) (F:Nat->Prop) (σ:Sto),rl.parts.drop d=ps'->d<=rl.parts.length->a<=text.length->K.length=n->I acc F σ->¬F aF->aK<nx σ/\aF<nx σ->σ.get aK=some (.cells (K.flatMap eSp))->σ.get aF=some (.cells [Acr P r t n aK rl.parts L aF])->Hl Ew Ls 191 ([nV d,nV a]++Anr P r t n aK rl.parts L aF) σ (Tu text D mT aK n I J st t ps' a K acc F σ))
  (d a:Nat)(K:List Sp)(acc:α)(F:Nat->Prop)(σ:Sto)(hpd:rl.parts.drop d=ps)(hd:d<=rl.parts.length)(ha:a<=text.length)(hK:K.length=n)(hI:I acc F σ)(hfF:¬F aF)(hlt:aK<nx σ/\aF<nx σ)(hk:σ.get aK=some (.cells (K.flatMap eSp)))(hf:σ.get aF=some (.cells [Acr P r t n aK rl.parts L aF])):Hl Ew Ls 191 ([nV d,nV a]++Anr P r t n aK rl.parts L aF) σ (Tu text D mT aK n I J st t ps a K acc F σ):=by
 have hpr:rPt g r=rl.parts:=by unfold rPt;rw[hrl]
 have eu:(rPt g r).length<=1000000:=gr;obtain⟨lv,qu⟩:=hC.pk _ _ _ hI;have hpk:PkB g text D X P mN mT lv σ.bump:=qu.of_get gr (fun _ _=>Fe)
 have hIb:I acc F σ.bump:=hC.stb _ _ _ _ hI gr (fun _ _ _ _=>Fe) hpk.rs
 obtain⟨σ1,nr,h1',hF1⟩:=f192 hrl hR eu htl ht ps d a σ.bump gr gr ha hpk;refine Mo Tryz.func191 (Ke _ _ Tryz.func191) rfl rfl fun hw hu0=>?_
 refine Cf ?_;refine Dy fun df=>B7 ?_
 refine OA rfl (Dd ?_);refine Cf ?_;refine Cf ?_;refine Dy fun df=>B7 ?_
 refine O1 (Ac ldC rfl rfl rfl) (O1 (Ac ldC rfl rfl rfl) (OM rfl (OM rfl (O1 (Ac ldC rfl rfl rfl) (Nm rfl rfl rfl rfl nr (O1 (Dc rfl) (Dd ?_)))))));refine A0 rfl ?_ ?_<;>intro h1
 ·have hld:ldP D text t ps a=false:=gr
  have hfo:foM st (wyP D text t ps a K) acc=some acc:=by rw[Asp hld];rfl
  refine Cf ?_;refine Dy fun df=>B7 ?_
  refine OA rfl (Dd ?_);refine Gi fun hw9=>?_
  refine Th ?_
  refine⟨_,rfl,_,_,a_ hw9 nl (fun _ _=>rfl),(by have:=hF1.n;grind),.same rfl,?_⟩
  unfold Tu;rw[hfo]
  exact⟨rfl,F,K,hC.stb acc F _ _ hIb hF1.n (fun b hb h1 _=>hF1.g b hb h1) h1'.rs,.of (by have:=hF1.n;grind) (fun b hb h1 _=>by rw[hF1.g b gr h1,Fe]),hK,by rw[hF1.g aK gr hne.2.2,Fe];exact hk,fun _ _=>rfl⟩
 ·have hld:ldP D text t ps a=true:=gr
  have n1:nx σ+1<=nx σ1:=by have:=hF1.n;grind
  have g1:∀b,b<nx σ->b≠mT->σ1.get b=σ.get b:=fun b hb h1=>by rw[hF1.g b gr h1,Fe]
  have hI1:I acc F σ1:=hC.stb acc F _ _ hIb hF1.n (fun b hb h1 _=>hF1.g b hb h1) h1'.rs
  have hk1:=(g1 aK hlt.1 hne.2.2).trans hk;have hf1:=(g1 aF hlt.2 hne.2.1).trans hf;have hc1:Con mT aK F σ F σ1:=.of Om (fun b hb h1 _=>g1 b hb h1)
  refine Jw ?_;refine Cf ?_;refine Cf ?_;refine Dy fun df=>B7 ?_
  refine OM rfl (O1 (Ac ldC rfl rfl rfl) (O1 (Jl slC rfl) (O1 (H4 okC rfl rfl) (Dd ?_))));refine A0 rfl ?_ ?_<;>intro h2
  ·have hps:ps=[]:=by
    rw[←hpd];exact ah_ gr
   subst hps
   have hfo:foM st (wyP D text t [] a K) acc=st acc K:=by
    unfold wyP;rw[if_pos hld]
    show(match st acc K with|none=>none|some a'=>some a')=_
    grind
   refine Cf ?_;refine Abx 3 (Rr:=Dk [(193,[.sr aK 0 3 n (some n)],σ1,slV eSp 3 K,σ1)]) (anns:=[aR 0 1,aR 0 0,aE 0 1]) Kr Di (Bw ⟨hK▸f193 aK (some K.length) K [] σ1 gr Om,trivial⟩) Kr ?_;refine DF (Ac ldC rfl rfl rfl) (DF (Ac ldC rfl rfl rfl) (DT (Bq rfl rfl Bv) (C1 ?_)));refine⟨⟨(fun s hs=>⟨_,Ac (ldC (t:=356)) rfl rfl rfl⟩),(fun s hs=>⟨_,Ac (ldC (t:=242)) rfl rfl rfl⟩),trivial,trivial⟩,?_⟩
   refine Lg hL (fun _ _=>rfl) rfl rfl rfl rfl (hC.y acc F K σ1 hK hI1) fun x σ2 hp hn2=>?_
   refine Gm 1 fun df=>?_
   refine OA rfl (Dd ?_);refine Uy ?_;refine Gi fun hw9=>?_
   refine Th ?_;refine⟨_,rfl,_,_,a_ hw9 nl (fun _ _=>rfl),Om,.same rfl,?_⟩
   unfold Tu;rw[hfo];cases hst:st acc K with
   |none=>
    rw[hst]at hp
    exact⟨by cases x with|normal=>exact absurd rfl hp.1|exit _=>rfl|ret=>rfl,by omega,x,hp⟩
   |some acc'=>
    rw[hst]at hp;obtain⟨rfl,F',hI2,hc2⟩:=hp
    exact⟨rfl,F',K,hI2,hc1.trans hc2.weak,hK,by rw[hc2.g aK Om (hC.ks _ _ _ hI1) hne.2.2 hne.2.2];exact hk1,fun _ _=>rfl⟩
  ·have hdl:d<rl.parts.length:=gr;obtain⟨p,hp⟩:=Ar hdl
   obtain⟨ps',hps⟩:∃ps',ps=p::ps':=⟨rl.parts.drop (d+1),by rw[←hpd];exact A4 hp⟩
   subst hps
   have fp:rl.parts.drop (d+1)=ps':=by
    have:=A4 hp
    grind
   refine Jw ?_;refine Cf ?_;refine Dy fun df=>B7 ?_
   refine O1 (Ac ldC rfl rfl rfl) (OM rfl (O1 (A1 elC (fun _=>rfl) rfl rfl hp) ?_))
   refine O1 (Ac ldC rfl rfl (A6 (Jy p) _)) (Mp ziC ldC rfl (fun _=>rfl) rfl (A7 (Jy p)) rfl ?_)
   refine Dd ?_;refine Cf ?_;refine Cf ?_;refine Dy fun df=>B7 ?_
   refine O1 (Ae fdC rfl rfl) (O1 (Ac ldC rfl rfl (Tt p)) (O1 (H5 (q:=[]) okC rfl rfl) (Dd ?_)));refine A0 rfl ?_ ?_<;>intro h3
   ·have cg:p.sort=[]:=of_decide_eq_true h3
    have hat:a<t:=by
     have:(if p.sort=[]then decide (a<t)&&decide (text.getD a []=p.symbol)&&ldP D text t ps' (a+1)else _)=true:=hld
     grind
    have hfo:wyP D text t (p::ps') a K=wyP D text t ps' (a+1) K:=by
     rw[wyP,if_neg gr,if_pos cg]
    refine Cf ?_;refine Er ?_;refine Gm 5 fun df=>?_
    refine O1 (E8 hf1 ldC rfl rfl) (OM rfl (O1 (D3 (q:=1) okC rfl rfl Om) ?_));refine OM rfl (O1 (D3 (q:=1) okC rfl rfl Om) ?_);refine Dd ?_
    refine L5 (fun _ _=>rfl) rfl rfl rfl rfl rfl (ih p ps' rfl (d+1) (a+1) K acc F σ1 fp Om Om hK hI1 hfF ⟨by omega,by omega⟩ hk1 hf1) fun u2 σ2 hp2 hn2=>?_
    obtain⟨b2,rfl⟩:=Tu.bool hp2;refine Gm 1 fun df=>?_
    refine OA rfl (Dd ?_);refine Uy ?_;refine Gi fun hw9=>?_
    refine Th ?_;refine⟨_,rfl,_,_,a_ hw9 nl (fun _ _=>rfl),Om,.same rfl,?_⟩
    unfold Tu at hp2⊢;rw[hfo];cases hfm:foM st (wyP D text t ps' (a+1) K) acc with
    |none=>
     rw[hfm]at hp2;obtain⟨hbq,h2,h3⟩:=hp2;obtain rfl:=AV.bool.inj hbq
     exact⟨rfl,by omega,h3⟩
    |some acc'=>
     rw[hfm]at hp2;obtain⟨hbq,F',K',hI2,hc2,hK2,hk2,hj⟩:=hp2;obtain rfl:=AV.bool.inj hbq;exact⟨rfl,F',K',hI2,hc1.trans hc2,hK2,hk2,fun j h=>hj j fun q hq=>h q (aj_ _ hq)⟩
   ·have cg:p.sort≠[]:=of_decide_eq_false h3;obtain⟨ja,hja,hjn⟩:=hG p (ab_ hp) cg;have hjt:p.arg.toNat=ja:=gr;obtain⟨G,hGe⟩:∃G:Nat->List (List Sp),(fun e=>if(p.sort,a,e)∈D then wyP D text t ps' e (K.set ja (p.sort,a,e))else[])=G:=⟨_,rfl⟩
    have hfo:wyP D text t (p::ps') a K=(List.range' a (t+1-a)).flatMap G:=by
     rw[wyP,if_neg gr,if_neg cg,←hGe,hjt]
    refine Jw ?_;refine Cf ?_;refine Cf ?_;refine Dy fun df=>B7 ?_
    refine OM rfl (OA rfl (Dd ?_));refine Qn ?_;refine Hz (fun q:Nat×α=>[(0,nV d),(1,nV a),(2,.pv [.pr P 0]),(4,.pv [nV t]),(7,.pv [.sr aK 0 3 n (some n)]),(8,.pr aF 0),(12,.pv (ePt p)),(13,nV q.1)]) (fun q σ0=>a<=q.1/\(q.1<=t+1∨q.1=a)/\∃F0 K0,I q.2 F0 σ0/\Con mT aK F σ F0 σ0/\nx σ+1<=nx σ0/\K0.length=n/\σ0.get aK=some (.cells (K0.flatMap eSp))/\(∀j,(∀q∈p::ps',q.sort≠[]->q.arg.toNat≠j)->K0[j]? =K[j]?)/\(∀j,(∀q∈ps',q.sort≠[]->q.arg.toNat≠j)->j≠ja->K0[j]? =K[j]?)/\foM st ((List.range' q.1 (t+1-q.1)).flatMap G) q.2=foM st ((List.range' a (t+1-a)).flatMap G) acc) (fun q=>t+1-q.1) (a,acc) SL ⟨nl,.inr rfl,F,K,hI1,hc1,n1,hK,hk1,fun _ _=>rfl,fun _ _ _=>rfl,rfl⟩ ?_
    rintro⟨e,acc0⟩ σ0 ⟨hae,het,F0,K0,hI0,hc0,n0,hK0,hk0,hj0,hj1,bu⟩;have hae:a<=e:=hae;have het:e<=t+1∨e=a:=het;have hI0:I acc0 F0 σ0:=hI0;have bu:foM st ((List.range' e (t+1-e)).flatMap G) acc0=foM st ((List.range' a (t+1-a)).flatMap G) acc:=bu
    have qh:¬F0 aF:=fun h=>by
     rcases hc0.f aF h with q|q
     ·exact hfF q
     ·omega
    have hf0:σ0.get aF=some (.cells [Acr P r t n aK rl.parts L aF]):=(hc0.g aF hlt.2 hfF hne.2.1 hne.1).trans hf;refine Cf ?_;refine Cf ?_;refine Dy fun df=>B7 ?_
    refine OM rfl (O1 (Ac ldC rfl rfl rfl) (O1 (Hn okC rfl rfl) (Dd ?_)));refine A0 rfl ?_ ?_<;>intro h4
    ·have hle:e<=t:=bm_.1 (of_decide_eq_true h4)
     have hrg:List.range' e (t+1-e)=e::List.range' (e+1) (t+1-(e+1)):=by
      rw[show t+1-e=(t+1-(e+1))+1 by omega,cj_]
     rw[hrg,bs_,Ahi]at bu;obtain⟨lv0,fq⟩:=hC.pk _ _ _ hI0;obtain⟨MD,⟨vD,hMD⟩,dh⟩:=fq.dn;refine Jw ?_;refine Cf ?_;refine Qn ?_;refine Cf ?_;refine Dy fun df=>B7 ?_
     refine O1 (Ae fdC rfl rfl) (O1 (Ac ldC rfl rfl rfl) (OM rfl (OM rfl (O1 (Ut bdC rfl rfl) (Mp ziC ldC rfl (fun _=>rfl) rfl rfl rfl ?_)))))
     refine Dd ?_
     by_cases hin:(p.sort,a,e)∈D
     ·have hm:=(dh _).1 hin;have hGi:G e=wyP D text t ps' e (K.set ja (p.sort,a,e)):=gr;refine Cf ?_;refine Cf ?_;refine Dy fun df=>X0 ?_
      refine DF (Ac ldC rfl rfl rfl) (DF (Ge rfl) (DF (Ae fdC rfl rfl) (DF (E8 fq.pk ldC rfl rfl) (DF (Ge rfl) (DF (Ae fdC rfl rfl) (DF (E8 fq.cl ldC rfl rfl) (DF (Ac ldC rfl rfl rfl) ?_)))))));refine DF (Ns (o:=some true) (z:=.bool false) Va rfl ⟨vD,hMD⟩ rfl (Acn (p.sort,a,e)) hm) (DF (Dc rfl) (C1 ?_));refine⟨rfl,rfl,?_⟩;refine A0 rfl gr (fun h5=>?_)
      have hKl:ja<K0.length:=by omega
      have hwy:wyP D text t ps' e (K0.set ja (p.sort,a,e))=G e:=by
       rw[hGi];refine Xd _ _ _ _ gr fun j hj=>?_
       grind
      obtain⟨σ5,hσ5⟩:∃σ5,σ0.set aK (.cells ((K0.set ja (p.sort,a,e)).flatMap eSp++[]))=σ5:=⟨_,rfl⟩;have n5:nx σ5=nx σ0:=gr;have g5:∀b,b≠aK->σ5.get b=σ0.get b:=gr;have hk5:σ5.get aK=some (.cells ((K0.set ja (p.sort,a,e)).flatMap eSp)):=gr;have hI5:I acc0 F0 σ5:=hC.stb _ _ _ _ hI0 Om (fun b _ _ h2=>g5 b h2) (fq.rs.of_get (g5 mT hne.2.2.symm))
      have hf5:=(g5 aF hne.1).trans hf0;have hc5:Con mT aK F σ F0 σ5:=hc0.trans (.of Om fun b _ _ h2=>g5 b h2)
      refine Jw ?_;refine Cf ?_;refine Dy fun df=>B7 ?_
      refine O1 (Ac ldC rfl rfl rfl) (O1 (Ae fdC rfl rfl) (O1 (Ac ldC rfl rfl (show _=some (nV ja)from by show some (AV.int .i64 p.arg)=_;rw[hja];rfl)) ?_))
      refine O1 (Ac ldC rfl rfl rfl) (O1 (Br elC rfl rfl hjn) (O1 (Tb (u:=(p.sort,a,e)) (l:=K0) (tl:=[]) O2 ldC rfl rfl rfl gr hKl) ?_));refine Dd ?_;rw[hσ5];refine Cf ?_;refine Er ?_;refine Gm 4 fun df=>?_
      refine O1 (E8 hf5 ldC rfl rfl) (OM rfl (O1 (D3 (q:=1) okC rfl rfl Om) ?_));refine OM rfl (Dd ?_)
      refine L5 (fun _ _=>rfl) rfl rfl rfl rfl rfl (ih p ps' rfl (d+1) e (K0.set ja (p.sort,a,e)) acc0 F0 σ5 fp Om Om gr hI5 qh ⟨by omega,by omega⟩ hk5 hf5) fun u2 σ2 hp2 hn2=>?_
      obtain⟨b2,rfl⟩:=Tu.bool hp2;refine Gm 1 fun df=>?_
      refine O1 (Dc rfl) (Dd ?_);refine Uy ?_;unfold Tu at hp2;rw[hwy]at hp2;cases hfm:foM st (G e) acc0 with
      |none=>
       rw[hfm]at hp2 bu;obtain⟨hbq,h2,h3⟩:=hp2;obtain rfl:=AV.bool.inj hbq;refine A0 rfl (fun h6=>?_) gr
       refine Cf ?_;refine Dy fun df=>B7 ?_
       refine OA rfl (Dd ?_);refine Gi fun hw9=>?_
       refine Th ?_;refine⟨_,rfl,_,_,a_ hw9 nl (fun _ _=>rfl),Om,.same rfl,?_⟩
       unfold Tu;rw[hfo,←bu]
       exact⟨rfl,by omega,h3⟩
      |some acc1=>
       rw[hfm]at hp2 bu;obtain⟨hbq,F1,K1,hI6,hc6,hK6,hk6,hj6⟩:=hp2;obtain rfl:=AV.bool.inj hbq;refine A0 rfl gr (fun h6=>?_)
       refine Jw ?_;refine Dy fun df=>B7 ?_
       refine OM rfl (O1 (D3 (q:=1) okC rfl rfl Om) ?_);refine OA rfl (Dd ?_);refine⟨(e+1,acc1),gr,SL,gr,.inl gr,F1,K1,hI6,hc5.trans hc6,gr,hK6,hk6,fun j hj=>?_,fun j hj ft=>?_,bu⟩
       ·grind
       ·grind
     ·have hm:=(dh _).2 hin;have hGi:G e=[]:=gr;rw[hGi]at bu;refine Cf ?_;refine Cf ?_;refine Dy fun df=>X0 ?_
      refine DF (Ac ldC rfl rfl rfl) (DF (Ge rfl) (DF (Ae fdC rfl rfl) (DF (E8 fq.pk ldC rfl rfl) (DF (Ge rfl) (DF (Ae fdC rfl rfl) (DF (E8 fq.cl ldC rfl rfl) (DF (Ac ldC rfl rfl rfl) ?_)))))));refine DF (Ns (o:=none) (z:=.bool false) Va rfl ⟨vD,hMD⟩ rfl (Acn (p.sort,a,e)) hm) (DF (Dc rfl) (C1 ?_));refine⟨rfl,rfl,?_⟩;refine A0 rfl (fun h5=>?_) gr
      refine Ux ?_;refine Dy fun df=>B7 ?_
      refine OM rfl (O1 (D3 (q:=1) okC rfl rfl Om) ?_);refine OA rfl (Dd ?_);refine⟨(e+1,acc0),gr,SL,gr,.inl gr,F0,K0,hI0,hc0,n0,hK0,hk0,hj0,hj1,bu⟩
    ·have hgt:¬e<=t:=fun q=>(of_decide_eq_false h4) (bm_.2 q)
     rw[show t+1-e=0 by omega]at bu
     have bu:some acc0=foM st ((List.range' a (t+1-a)).flatMap G) acc:=bu;refine Ux ?_;refine Cf ?_;refine Dy fun df=>B7 ?_
     refine OA rfl (Dd ?_);refine Gi fun hw9=>?_
     refine Th ?_;refine⟨_,rfl,_,_,a_ hw9 nl (fun _ _=>rfl),Om,.same rfl,?_⟩
     unfold Tu;rw[hfo,←bu];exact⟨rfl,F0,K0,hI0,hc0,hK0,hk0,hj0⟩
theorem f191{Ls:List RF}{L:RF}(hL:L∈Ls){g:Gr}{text:List Str}{D:List Sp}{X:Cp}{P mN mT aK n r t aF:Nat}{rl:Rl}{α:Type}{I:α->(Nat->Prop)->Sto->Prop}{J:XE->Sto->Prop}{st:α->List Sp->Option α}(hC:Cons Ls L g text D X P mN mT aK n I J st)(hrl:g.rules[r]? =some rl)(hG:∀p∈rl.parts,p.sort≠[]->∃j:Nat,p.arg=Int.ofNat j/\j<n)(hR:g.rules.length<=1000000)(hpl:rl.parts.length<=1000000)(htl:text.length<=1000000)(ht:t<=text.length)(hn:n<=1000000-1)(hne:aF≠aK/\aF≠mT/\aK≠mT):∀(ps:List Pt) (d a:Nat) (K:List Sp) (acc:α) (F:Nat->Prop) (σ:Sto),rl.parts.drop d=ps->d<=rl.parts.length->a<=text.length->K.length=n->I acc F σ->¬F aF->aK<nx σ/\aF<nx σ->σ.get aK=some (.cells (K.flatMap eSp))->σ.get aF=some (.cells [Acr P r t n aK rl.parts L aF])->Hl Ew Ls 191 ([nV d,nV a]++Anr P r t n aK rl.parts L aF) σ (Tu text D mT aK n I J st t ps a K acc F σ)
 |[]=>Awe hL hC hrl hG hR hpl htl ht hn hne [] gr
 |p::ps=>Awe hL hC hrl hG hR hpl htl ht hn hne (p::ps) fun p' ps' h=>by cases h;exact f191 hL hC hrl hG hR hpl htl ht hn hne ps
end Go.AM
