/- A part of the proof; shortened by program. -/
import Derived.Test.YtadnlmhnjfmleaaGreatDoorP04
set_option maxRecDepth 100000
set_option maxHeartbeats 4000000
set_option linter.unusedSimpArgs false
set_option linter.unusedVariables false
namespace Go.AM
open Go
section
variable {P : Program} {C C' : Ctx} {N N' : Nat} {w w' : World} {J J' : Sto}
theorem Qg {α : Type} {a b : Array α} (h : a.toList = b.toList) : a = b := Array.ext' h
theorem Abo {E : Array MapEntry} {A B : List MapEntry} {e : MapEntry} (h : E.toList = A ++ e :: B) {V : Value} (hV : e.key = V) : (E.modify A.length fun e => { e with key := V }) = E := by
 apply Qg;rw [fv_,h,M0,← hV]
theorem Xr (hs : Sim P C w J) {t kt et : TypeId} {ti te : TI} (hti : Aw P t = some ti) (hd : ti.desc = .map kt et) (hte : Aw P et = some te) {z : AV} (hz : Hr te = some z) {k m : AV} {K M : Value} (hk : R C (nx J) w k K) (hm : R C (nx J) w m M)
  {u : AV} (h : Qa kt (Hi P kt k) z m J = some (u,J')) : Hx P C w J (Instr.mapEntry t M K) u J' := by
 obtain ⟨_,d,_,g2,g3,_⟩ := Al hti
 have hu := g2.trans (by rw [← g3,hd])
 obtain ⟨Z,z1,z2⟩ := Y8 hte hz;unfold Qa at h
 split at h
 ·rename_i kv r hkv
  obtain ⟨hK,hT⟩ := Hc hkv hk
  split at h
  ·rename_i kt' es ver hg
   split at h
   ·rename_i hb
    have hkt := aa_ hb; subst hkt;unfold R at hm;obtain ⟨c,rfl,hr,bw⟩ := hm;obtain ⟨c',E,clock,l1,l2,l3⟩ := hs.obj r _ hg;have := bw c' 0 l1; subst this;rw [Ag] at h
    -- the stamp behind the map's step
    have step : ∀ {es' : List (Key × AV)} {E' : Array MapEntry} {clock' : Nat} (m1 : Dk P C (nx J) w kt' es' E' clock') (e : MapEntry) (he : e ∈ E'.toList) (hek : e.key = K) {x : AV} {X : Value} (hx : R C (nx J) w x X)
      (bl : (Instr.mapEntry t (.map (some c)) K).run P w = .ok (.tuple #[X,goInt e.born]) { w with heap := w.heap.setIfInBounds c (.map E' clock') }),
      Hx P C w J (Instr.mapEntry t (.map (some c)) K) (.tup [x,.stp (nx J)]) ((J.set r (.map kt' es' (ver + 1))).new (.stamp r (ver + 1) kv)) := by
     intro es' E' clock' m1 e he hek x X hx bl;obtain ⟨s1,s2⟩ := setMap hs hg l1 l2 (bo_ ver) m1;have hn : nx (J.set r (.map kt' es' (ver + 1))) = nx J := Ae _ _ _;have j9 := (Pa l2 (.map E' clock')).here
     obtain ⟨s3,s4⟩ := s1.newStamp e.born r (ver + 1) kv (by rw [hn]; exact hr) (fun kt₁ es₁ v₁ hg₁ => by
      rw [a_,if_pos rfl] at hg₁; cases hg₁
      exact ⟨nl,fun _ => ⟨c,E',clock',l1,j9,e,he,by rw [hek]; exact hK,rfl⟩⟩)
     refine ⟨_,_,_,_,bl,rfl,s3,?_,?_⟩
     ·rw [Ac]; rw [hn] at s4 ⊢; exact s2.trans s4
     ·rw [Ac]; rw [hn] at s4 ⊢;unfold R;refine ⟨_,rfl,?_⟩;unfold RL;refine ⟨R.ext (s2.trans s4) _ _ hx,?_⟩;unfold RL
      refine ⟨?_,by unfold RL; trivial⟩
      unfold R
      exact ⟨by simp [goInt,Ctx.addStm],bo_ _⟩
    rcases l3.locate hK hT with ⟨x,hx,q,hq⟩ | ⟨hx,hno,hq⟩
    ·simp only [hx,ac_,ax_] at h;obtain ⟨rfl,rfl⟩ := h
     refine step l3 q.e (by rw [q.hE]; simp) q.key q.val ?_
     have hold := Akg q.hE;simp only [Instr.mapEntry,Sem.run_bind,Aa hu,Result.andThen_ok,Cg l2,Cj hT _ 9998,hq w,hold,df_,ef_,q.key,Af8 hT,Fq l2,Abo q.hE q.key,Sem.run_pure]
    ·simp only [hx,ac_,ax_] at h;obtain ⟨rfl,rfl⟩ := h
     refine step (l3.ins hK hT hno (z2 _ _ _)) ⟨K,Z,clock⟩ (by simp) rfl (z2 _ _ _) ?_
     simp only [Instr.mapEntry,Sem.run_bind,Aa hu,Result.andThen_ok,Cg l2,Cj hT _ 9998,hq w,Fq l2,z1,Sem.run_pure]
   ·cases h
  ·cases h
 ·cases h
theorem Aqu {kt : TypeId} {es : List (Key × AV)} {E : Array MapEntry} {clock : Nat} (h : Dk P C N w kt es E clock) {e f : MapEntry} (he : e ∈ E.toList) (hf : f ∈ E.toList) (hb : f.born = e.born) : f = e := by
 obtain ⟨A,B,hE⟩ := ej_ he;obtain ⟨j,hj⟩ := cr_.1 hf;have hnd := h.apart;rw [hE] at hnd hj;exact (Y7 hnd hj hb).2
theorem Asz {kt : TypeId} {es : List (Key × AV)} {E : Array MapEntry} {clock : Nat} (h : Dk P C N w kt es E clock) {e f : MapEntry} (he : e ∈ E.toList) (hf : f ∈ E.toList) (hb : f.key = e.key) : f = e := by
 obtain ⟨A,B,hE⟩ := ej_ he;obtain ⟨j,hj⟩ := cr_.1 hf;have hnd := h.keys;rw [hE] at hnd hj;exact (Y7 hnd hj hb).2
theorem Aeo {α : Type} (E : Array α) (p : α -> Bool) : E.findIdx? p = E.toList.findIdx? p := by
 cases E; simp
theorem Tv (hs : Sim P C w J) {t : TypeId} {te : TI} {m st v : AV} {M S V : Value} (hm : R C (nx J) w m M) (hst : R C (nx J) w st S) (hv : R C (nx J) w v V)
  {u : AV} (h : K2 te m st v J = some (u,J')) : u = An /\ ∃ w',(Instr.entryStore t M S V).run P w = .ok () w' /\ Sim P C w' J' /\ Ext C (nx J) w C (nx J') w' := by
 unfold K2 at h
 split at h
 ·rename_i r a
  split at h
  ·rename_i r' ver kv kt es ver' hga hg
   split at h
   ·rename_i hb
    simp only [ae_] at hb;have h1 := aa_ hb.1.1; subst h1;have h2 := aa_ hb.1.2; subst h2
    split at h
    ·rename_i x hx
     simp only [Ag,ac_,ax_] at h;obtain ⟨rfl,rfl⟩ := h;refine ⟨rfl,?_⟩;obtain ⟨_,o2⟩ := hs.obj a _ hga;obtain ⟨cm,E,clock,l1,l2,e,he,hek,kf⟩ := (o2 kt es ver hg).2 rfl;obtain ⟨c',E',clock',l1',l2',l3⟩ := hs.obj r _ hg;rw [l1] at l1'; cases l1';rw [l2] at l2'; cases l2';unfold R at hm hst;obtain ⟨c,rfl,_,bw⟩ := hm;have := bw _ _ l1; subst this;obtain ⟨rfl,_⟩ := hst
     rcases l3.locate hek (l3.typed e he) with ⟨x',hx',q,_⟩ | ⟨hx',_⟩
     ·have hqe : q.e = e := Asz l3 he (by rw [q.hE]; simp) q.key
      obtain ⟨m1,m2⟩ := l3.set q hv;obtain ⟨s1,s2⟩ := setMap hs hg l1 l2 (bo_ ver) m1
      refine ⟨_,?_,s1,by rw [Ae]; exact s2⟩
      have ns : E.findIdx? (fun f => (f.born : Int) == C.stm a) = some q.A.length := by
       rw [Aeo,q.hE,List.findIdx?_append]
       have hA : List.findIdx? (fun f : MapEntry => (f.born : Int) == C.stm a) q.A = none := by
        rw [List.findIdx?_eq_none_iff];intro f hf;rw [kf,← hqe];have hnd := l3.apart;rw [q.hE,ci_,er_] at hnd
        have := hnd.2.2 f.born (ck_ hf) q.e.born (by simp)
        exact beq_eq_false_iff_ne.2 fun hh => this (Int.ofNat_inj.1 hh)
       rw [hA]
       simp [List.findIdx?_cons,kf,hqe]
      have bu : (E.modify q.A.length fun f => { f with val := V }) = E.modify q.A.length fun f => { f with key := e.key,val := V } := by
       apply Qg;rw [m2,fv_,q.hE,M0]
      simp only [Instr.entryStore,Sem.run_bind,Cg l2,Result.andThen_ok,asInt,asIntOf,Sem.run_pure,ns,Fq l2,bu]
     ·rw [hx] at hx'; cases hx'
    ·cases h
   ·cases h
  ·cases h
 ·cases h
theorem Y9 (hs : Sim P C w J) {t kt : TypeId} {u : AV} (h : S9 kt J = some (u,J')) : Hx P C w J (Instr.makeMap t none) u J' := by
 unfold S9 at h;cases h;have p := Jp w (.map #[] 0)
 obtain ⟨s1,s2⟩ := hs.new p (.map kt [] 0) rfl (fun e => ⟨w.heap.size,#[],0,by simp [Ctx.add],p.here,fx_⟩)
 refine ⟨_,_,_,_,by simp [Instr.makeMap]; rfl,rfl,s1,by rw [Ac]; exact s2,?_⟩
 rw [Ac]; unfold R
 exact ⟨_,rfl,bo_ _,fun c' o hc => by simp [Ctx.add] at hc; exact hc.1⟩
theorem Xt (hs : Sim P C w J) {t kt et : TypeId} {ti : TI} (hti : Aw P t = some ti) (hd : ti.desc = .map kt et) {x : AV} {X : Value} (hx : R C (nx J) w x X) {u : AV} (h : Va kt x J = some (u,J')) : Hx P C w J (Instr.makeMap t (some X)) u J' := by
 obtain ⟨_,d,_,g2,g3,_⟩ := Al hti
 have hu := g2.trans (by rw [← g3,hd])
 unfold Va at h
 split at h
 ·cases h;unfold R at hx; subst hx;have p := Jp w (.map #[] 0)
  obtain ⟨s1,s2⟩ := hs.new p (.map kt [] 0) rfl (fun e => ⟨w.heap.size,#[],0,by simp [Ctx.add],p.here,fx_⟩)
  refine ⟨_,_,_,_,by simp [Instr.makeMap,Aa hu,asInt,asIntOf]; rfl,rfl,s1,by rw [Ac]; exact s2,?_⟩
  rw [Ac]; unfold R
  exact ⟨_,rfl,bo_ _,fun c' o hc => by simp [Ctx.add] at hc; exact hc.1⟩
 ·cases h
theorem R.newIt {a c N : Nat} (ha : a < N) (hl : C.loc a = some (c,0)) : R C N w (.it a) (.pointer (some ⟨c,0,none⟩)) := by
 unfold R
 exact ⟨c,rfl,ha,fun c' o hc => by rw [hl] at hc; cases hc; rfl⟩
theorem Aep (hs : Sim P C w J) {t kt et : TypeId} {ti : TI} (hti : Aw P t = some ti) (hd : ti.desc = .map kt et) {m : AV} {M : Value} (hm : R C (nx J) w m M) {u : AV} (h : Ad8 m J = some (u,J')) : Hx P C w J (Instr.range t M) u J' := by
 obtain ⟨_,d,_,g2,g3,_⟩ := Al hti
 have hu := g2.trans (by rw [← g3,hd])
 unfold Ad8 at h
 split at h
 ·cases h;unfold R at hm; obtain ⟨rfl,_⟩ := hm;have p := Jp w (.mapIter none 0 #[] 0)
  obtain ⟨s1,s2⟩ := hs.new p (.iter none 0 [] none) rfl (fun e => ⟨w.heap.size,0,#[],0,by simp [Ctx.add],p.here,rfl⟩)
  refine ⟨_,_,_,_,by simp [Instr.range,Aa hu]; rfl,rfl,s1,by rw [Ac]; exact s2,?_⟩
  rw [Ac]; exact R.newIt (bo_ _) (el_ ..)
 ·rename_i r
  split at h
  ·rename_i kt' es ver hg
   cases h;unfold R at hm;obtain ⟨c,rfl,hr,bw⟩ := hm;obtain ⟨c',E,clock,l1,l2,l3⟩ := hs.obj r _ hg;have := bw c' 0 l1; subst this;have p := Jp w (.mapIter (some c) clock #[] clock);have hlt := hs.lt r c 0 l1
   obtain ⟨s1,s2⟩ := hs.new p (.iter (some r) ver es none) rfl (fun e => by
    refine ⟨by rw [Ac]; omega,w.heap.size,c,clock,#[],clock,by simp [Ctx.add],p.here,fun kt₁ es₁ v₁ hg₁ => ?_⟩
    rw [ab_,if_neg Om] at hg₁;rw [hg] at hg₁; cases hg₁
    refine ⟨nl,fun _ => ⟨E,by simp only [Ctx.add]; rw [if_neg Om]; exact l1,(p.other c hlt).trans l2,rfl,?_,fun k v hk => by cases hk⟩⟩
    obtain ⟨L,q1,q2⟩ := l3.perm;rw [Ac]
    exact ⟨L,by rw [ez_.2 (by simp)]; exact q1,q2.ext e⟩)
   refine ⟨_,_,_,_,by simp [Instr.range,Aa hu,Cg l2]; rfl,rfl,s1,by rw [Ac]; exact s2,?_⟩
   rw [Ac]; exact R.newIt (bo_ _) (el_ ..)
  ·cases h
 ·cases h
theorem Aeq (hs : Sim P C w J) {x : AV} {X : Value} (hx : R C (nx J) w x X) {u : AV} (h : Yk x J = some (u,J')) : J' = J /\ Cp P C (nx J) w (Instr.entry X) u := by
 unfold Yk at h
 split at h
 ·rename_i a
  split at h
  ·rename_i r ver left k v hga
   split at h
   ·rename_i kt es ver' hg
    cases hb : Nat.beq ver ver'
    ·simp [hb] at h
    ·simp only [hb,cond_true,ac_,ax_] at h;obtain ⟨rfl,rfl⟩ := h;have hv := aa_ hb; subst hv;refine ⟨rfl,?_⟩;obtain ⟨_,c,cm,since,seen,last,o1,o2,o3⟩ := hs.obj a _ hga;obtain ⟨E,l1,l2,fe,_,nu⟩ := (o3 kt es ver hg).2 rfl;obtain ⟨e,he,kg,hk,hv⟩ := nu k v rfl;obtain ⟨c',E',clock',l1',l2',l3⟩ := hs.obj r _ hg;rw [l1] at l1'; cases l1';rw [l2] at l2'; cases l2';unfold R at hx;obtain ⟨c2,rfl,_,bw⟩ := hx;have := bw c 0 o1; subst this;refine ⟨.tuple #[e.key,e.val],?_,?_⟩
     ·have kj : E.find? (fun f => f.born == e.born) = some e := by
       cases hf : E.find? (fun f => f.born == e.born) with
       | none =>
        rw [Array.find?_eq_none] at hf
        exact absurd (by simp) (hf e (by simpa using he))
       | some f =>
        have h1 := Array.find?_some hf;have h2 := Array.mem_of_find?_eq_some hf
        have hfe : f = e := Aqu l3 he (by simpa using h2) (by simpa using h1)
        rw [hfe]
      have hit : (getObj c2).run P w = .ok (.mapIter (some cm) since seen last) w := by simp only [getObj,Sem.run,o2]
      subst fe
      simp [Instr.entry,hit,kg,Cg l2,kj]
     ·unfold R;refine ⟨_,rfl,?_⟩;unfold RL;refine ⟨KV_R hk (l3.typed e he),?_⟩;unfold RL
      exact ⟨hv,by unfold RL; trivial⟩
   ·cases h
  ·cases h
 ·cases h
end
section
variable {P : Program} {C C' : Ctx} {N N' : Nat} {w w' : World} {J J' : Sto}
theorem Aca {α : Type} (x : α) (b : List α) : ∀ a : List α,(x,a ++ b) ∈ Fm (a ++ x :: b)
 | [] => by simp [Fm]
 | y :: a => by
  have := Aca x b a;simp only [av_,Fm,ai_,cf_];exact .inr ⟨(x,a ++ b),this,rfl⟩
theorem ER.mid : ∀ {l : List (Key × AV)} {A B : List MapEntry} {e : MapEntry},ER C N w l (A ++ e :: B) -> ∃ a x b,l = a ++ x :: b /\ ER C N w a A /\ KV x.1 e.key /\ R C N w x.2 e.val /\ ER C N w b B
 | [],[],B,e,h => by unfold ER at h; exact h.elim
 | [],_ :: _,B,e,h => by rw [av_] at h; unfold ER at h; exact h.elim
 | x :: l,[],B,e,h => by
  rw [bt_] at h; unfold ER at h
  exact ⟨[],x,l,rfl,by unfold ER; trivial,h.1.1,h.1.2,h.2⟩
 | x :: l,f :: A,B,e,h => by
  rw [av_] at h; unfold ER at h;obtain ⟨a,y,b,h1,h2,h3,h4,h5⟩ := ER.mid h.2
  exact ⟨x :: a,y,b,by simp [h1],by unfold ER; exact ⟨h.1,h2⟩,h3,h4,h5⟩
theorem Aer (hs : Sim P C w J) {a : Nat} {O₀ : AO} (hg : J.get a = some O₀) {c : Nat} {m₀ : Option Nat} {s₀ l₀ : Nat} {seen₀ : Array Nat} (hl : C.loc a = some (c,0)) (hh : w.heap[c]? = some (.mapIter m₀ s₀ seen₀ l₀))
  {m₁ : Option Nat} {s₁ l₁ : Nat} {seen₁ : Array Nat} {m : Option Nat} {ver : Nat} {left : List (Key × AV)} {cur : Option (Key × AV)}
  (hO : Ext C (nx J) w C (nx J) { w with heap := w.heap.setIfInBounds c (.mapIter m₁ s₁ seen₁ l₁) } -> OR P C { w with heap := w.heap.setIfInBounds c (.mapIter m₁ s₁ seen₁ l₁) } (J.set a (.iter m ver left cur)) a (.iter m ver left cur)) :
  Sim P C { w with heap := w.heap.setIfInBounds c (.mapIter m₁ s₁ seen₁ l₁) } (J.set a (.iter m ver left cur)) /\ Ext C (nx J) w C (nx J) { w with heap := w.heap.setIfInBounds c (.mapIter m₁ s₁ seen₁ l₁) } := by
 have p := Pa hh (.mapIter m₁ s₁ seen₁ l₁)
 exact hs.upd hl p (by unfold csize; rw [p.here,hh]) hg _ rfl (fun _ _ _ h => by cases h) hO
theorem Kg {α : Type} {a : Array α} {i : Nat} {x : α} (h : a[i]? = some x) : a.setIfInBounds i x = a := by
 apply Array.ext_getElem?;intro j
 by_cases hj : i = j
 ·subst hj;have := (at_.1 h).1;rw [Array.getElem?_setIfInBounds_self_of_lt this,h]
 ·rw [cm_ hj]
theorem Aiw {α : Type} (f : α -> Nat) {A B : List α} {e : α} (h : ((A ++ e :: B).map f).Nodup) : (A ++ e :: B).filter (fun x => !(f x == f e)) = A ++ B := by
 rw [ci_,er_,cd_,ff_] at h;obtain ⟨_,⟨h2,_⟩,h3⟩ := h;rw [dy_,List.filter_cons];simp only [beq_self_eq_true,Bool.not_true,bf_,if_false];rw [ez_.2,ez_.2]
 ·intro x hx;have : f x ≠ f e := fun hh => h2 (hh ▸ ck_ hx)
  simpa using this
 ·intro x hx
  have : f x ≠ f e := h3 (f x) (ck_ hx) (f e) (by simp)
  simpa using this
theorem Af9 (w : World) {n : Nat} (h : 0 < n) : ∃ i dr,i < n /\ (choose (.mapNext n)).run P w = .ok i { w with drawn := dr } := by
 by_cases h1 : n <= 1
 ·exact ⟨0,w.drawn,h,by simp [choose,Sem.run,Question.forced,h1]⟩
 ·exact ⟨w.tape w.drawn (.mapNext n) % n,w.drawn + 1,Nat.mod_lt _ h,by simp [choose,Sem.run,Question.forced,Question.cut,h1]⟩
theorem Za (hs : Sim P C w J) {ty : TypeId} {a : Nat} {X : Value} (hx : R C (nx J) w (.it a) X) {m : Option Nat} {ver : Nat} {left : List (Key × AV)} {cur : Option (Key × AV)} (hga : J.get a = some (.iter m ver left cur)) (hv : Xz J m ver = true) :
    ∃ y w',(Instr.next X false ty).run P w = .ok y w' /\ Ext C (nx J) w C (nx J) w' /\
      ((left = [] /\ Sim P C w' (J.set a (.iter m ver [] none)) /\ R C (nx J) w' (.tup [.bool false]) y) ∨
       (∃ p ∈ Fm left,Sim P C w' (J.set a (.iter m ver p.2 (some p.1))) /\ R C (nx J) w' (.tup [.bool true,Rb p.1.1,p.1.2]) y)) := by
  have il : ∀ w,R C (nx J) w (.tup [.bool false]) (.tuple #[.bool false]) := fun w => by
    unfold R; exact ⟨_,rfl,by unfold RL; exact ⟨by unfold R; rfl,by unfold RL; trivial⟩⟩
  unfold R at hx;obtain ⟨c,rfl,_,bw⟩ := hx;cases m with
  | none =>
    obtain ⟨c',since,seen,last,o1,o2,rfl⟩ := hs.obj a _ hga;have := bw c' 0 o1; subst this
    have hit : (getObj c).run P w = .ok (.mapIter none since seen last) w := by simp only [getObj,Sem.run,o2]
    obtain ⟨s1,s2⟩ := Aer (m₁ := none) (s₁ := since) (l₁ := last) (seen₁ := seen) (m := none) (ver := ver) (left := []) (cur := none) hs hga o1 o2 (fun _ => ⟨c,since,seen,last,o1,(Pa o2 _).here,rfl⟩)
    have hw : ({ w with heap := w.heap.setIfInBounds c (.mapIter none since seen last) } : World) = w := by rw [Kg o2]
    rw [hw] at s1 s2
    exact ⟨_,w,by simp [Instr.next,hit],s2,.inl ⟨rfl,s1,il w⟩⟩
  | some r =>
    obtain ⟨hr,c',cm,since0,seen,since,o1,o2,o3⟩ := hs.obj a _ hga;have := bw c' 0 o1; subst this;unfold Xz at hv;simp only at hv
    split at hv
    · rename_i kt es v hg
      have hvv := aa_ hv; subst hvv;obtain ⟨E,l1,l2,fe,⟨L,hp,hL⟩,_⟩ := (o3 kt es v hg).2 rfl;subst fe;obtain ⟨cm',E',clock',l1',l2',l3⟩ := hs.obj r _ hg;rw [l1] at l1'; cases l1';rw [l2] at l2'; cases l2'
      have hit : (getObj c).run P w = .ok (.mapIter (some cm) since seen since) w := by simp only [getObj,Sem.run,o2]
      have ez : ∀ e ∈ E,e.born < since := fun e he => l3.born e (by simpa using he)
      -- no refusal
      have bt : (!seen.isEmpty && !E.isEmpty && E.all fun x => decide (x.born ≥ since)) = false := by
        rw [bw_];intro h;simp only [ae_] at h;obtain ⟨⟨_,h2⟩,h3⟩ := h;cases hE : E[0]? with
        | none =>
          have : E.size = 0 := by
            rw [Array.getElem?_eq_none_iff] at hE; omega
          simp at h2
          exact h2 (cw_ this)
        | some e =>
          have hm : e ∈ E := Array.mem_of_getElem? hE;rw [Array.all_eq_true_iff_forall_mem] at h3;have h4 := h3 e hm;simp only [decide_eq_true_eq] at h4;have := ez e hm; omega
      obtain ⟨F,hFd⟩ : ∃ F,E.filter (fun e => !seen.contains e.born) = F := ⟨_,rfl⟩
      have hF : F.toList = E.toList.filter fun e => !seen.contains e.born := by rw [← hFd]; simp
      have hFE : ∀ e ∈ F,e ∈ E := fun e he => by rw [← hFd] at he; exact (Array.mem_filter.1 he).1
      have hold : (F.filter fun e => decide (e.born < since)) = F := by
        rw [Array.filter_eq_self]; intro e he; simpa using ez e (hFE e he)
      have fh : (F.filter fun e => decide (e.born ≥ since)) = #[] := by
        rw [Array.filter_eq_empty_iff]; intro e he; have := ez e (hFE e he); simp; omega
      have hgo : ∃ y w',(Instr.next (.pointer (some ⟨c,0,none⟩)) false ty).run P w = .ok y w' /\
          ((F = #[] /\ y = .tuple #[.bool false] /\ w' = w) ∨ ∃ e dr,e ∈ F.toList /\ y = .tuple #[.bool true,e.key,e.val] /\ w' = { w with drawn := dr,heap := w.heap.setIfInBounds c (.mapIter (some cm) since (seen.push e.born) since) }) := by
        have c8 : ∀ (dr : Nat) (O : Obj),(setObj c O).run P { w with drawn := dr } = .ok () { w with drawn := dr,heap := w.heap.setIfInBounds c O } := fun dr O => by
          simp only [setObj,Sem.run,o2]
        by_cases h0 : F = #[]
        · refine ⟨.tuple #[.bool false],w,?_,.inl ⟨h0,rfl,rfl⟩⟩
          subst h0;simp only [Instr.next,Sem.run_bind,hit,Result.andThen_ok,Cg l2,bt,bf_,if_false,hFd]
          simp [Question.forced]
        · simp only [Instr.next,Sem.run_bind,hit,Result.andThen_ok,Cg l2,bt,bf_,if_false,hFd,hold,fh]
          have na : F.isEmpty = false := by rw [bw_]; intro h; exact h0 (by simpa using h)
          have hK : ((if F.isEmpty = true then #[none] else #[]) ++ Array.map some (F ++ #[])) = F.map some := by rw [na]; simp
          rw [hK]
          have dt : 0 < (F.map some).size := by
            simp only [Array.size_map]
            rcases cq_ F.size with h1 | h1
            · exact absurd (cw_ h1) h0
            · exact h1
          obtain ⟨i,dr,hi,hch⟩ := Af9 (P := P) w dt;rw [hch];simp only [Array.size_map] at hi
          have cw : (F.map some)[i]? = some (some F[i]) := by simp [hi]
          simp only [Result.andThen_ok,cw,Sem.run_bind,c8,Sem.run_pure]
          exact ⟨_,_,rfl,.inr ⟨F[i],dr,by simp,rfl,rfl⟩⟩
      obtain ⟨y,w',bl,d7⟩ := hgo;refine ⟨y,w',bl,?_⟩
      rcases d7 with ⟨h0,rfl,rfl⟩ | ⟨e,dr,he,rfl,rfl⟩
      · rw [← hF,h0] at hp
        have hL0 : L = [] := by simpa using hp
        subst hL0
        have hl0 : left = [] := bk_ (by rw [hL.length]; rfl)
        subst hl0
        have hra : r ≠ a := fun hh => by rw [hh,hga] at hg; cases hg
        obtain ⟨s1,s2⟩ := Aer (m₁ := some cm) (s₁ := since) (l₁ := since) (seen₁ := seen) (m := some r) (ver := v) (left := []) (cur := none) hs hga o1 o2 (fun ex => by
          refine ⟨by rw [Ae]; exact hr,c,cm,since,seen,since,o1,(Pa o2 _).here,fun kt₁ es₁ v₁ hg₁ => ?_⟩
          rw [a_,if_neg hra,hg] at hg₁; cases hg₁
          refine ⟨nl,fun _ => ⟨E,l1,?_,rfl,⟨[],by rw [← hF,h0],by unfold ER; trivial⟩,fun k v hk => by cases hk⟩⟩
          rw [(Pa o2 _).other cm (fun hh => by rw [hh,o2] at l2; cases l2)]; exact l2)
        have hw : ({ w' with heap := w'.heap.setIfInBounds c (.mapIter (some cm) since seen since) } : World) = w' := by rw [Kg o2]
        rw [hw] at s1 s2;exact ⟨s2,.inl ⟨rfl,s1,il w'⟩⟩
      · have heL : e ∈ L := hp.symm.subset (by rw [← hF]; exact he)
        obtain ⟨A,B,hLs⟩ := ej_ heL;have hL' := hL;rw [hLs] at hL';obtain ⟨la,x,lb,kp,ea,hk,hv',eb⟩ := hL'.mid;obtain ⟨F1,F2,hFs⟩ := ej_ he
        have heE : e ∈ E.toList := by have := hFE e (by simpa using he); simpa using this
        have hra : r ≠ a := fun hh => by rw [hh,hga] at hg; cases hg
        obtain ⟨t1,t2⟩ := hs.same (w' := { w with drawn := dr }) nl (fun _ _ => rfl) ⟨rfl,rfl⟩
        obtain ⟨s1,s2⟩ := Aer (m₁ := some cm) (s₁ := since) (l₁ := since) (seen₁ := seen.push e.born) (m := some r) (ver := v) (left := la ++ lb) (cur := some x) t1 hga o1 o2 (fun ex => by
          have ex2 := t2.trans ex
          refine ⟨by rw [Ae]; exact hr,c,cm,since,seen.push e.born,since,o1,(Pa (w := { w with drawn := dr }) o2 _).here,fun kt₁ es₁ v₁ hg₁ => ?_⟩
          rw [a_,if_neg hra,hg] at hg₁; cases hg₁;refine ⟨nl,fun _ => ⟨E,l1,?_,rfl,⟨A ++ B,?_,?_⟩,fun k y hky => ?_⟩⟩
          · rw [(Pa (w := { w with drawn := dr }) o2 _).other cm (fun hh => by rw [hh,o2] at l2; cases l2)]; exact l2
          · have ne : (E.toList.filter fun f => !(seen.push e.born).contains f.born) = F1 ++ F2 := by
              have h1 : (E.toList.filter fun f => !(seen.push e.born).contains f.born) = F.toList.filter fun f => !(f.born == e.born) := by
                rw [hF,List.filter_filter]
                congr 1
                funext f
                by_cases hh : f.born = e.born <;> simp [Array.contains_push,hh]
              rw [h1,hFs];refine Aiw _ ?_;rw [← hFs,hF];exact (List.filter_sublist.map _).nodup l3.apart
            rw [ne];have hp2 := hp;rw [← hF,hLs,hFs] at hp2;exact (List.perm_middle.symm.trans (hp2.trans List.perm_middle)).cons_inv
          · rw [Ae]; exact (ea.append eb).ext ex2
          · cases hky
            exact ⟨e,heE,by simp,hk,by rw [Ae]; exact R.ext ex2 _ _ hv'⟩)
        refine ⟨t2.trans s2,.inr ⟨(x,la ++ lb),by rw [kp]; exact Aca x lb la,s1,?_⟩⟩
        have ex2 := t2.trans s2;unfold R;refine ⟨_,rfl,?_⟩;unfold RL
        refine ⟨by unfold R; rfl,?_⟩
        unfold RL;refine ⟨KV_R hk (l3.typed e heE),?_⟩;unfold RL
        exact ⟨R.ext ex2 _ _ hv',by unfold RL; trivial⟩
    · cases hv
end
section
variable {P : Program} {C C' : Ctx} {N N' : Nat} {w w' : World} {J J' : Sto}
def Rv (P : Program) (C : Ctx) (w : World) (J : Sto) (s : Sem Next) (v : AV) (J' : Sto) : Prop :=
 ∃ x w' C',(s.run P w = .ok (.value x) w' ∨ (s.run P w = .ok .skip w' /\ x = undef)) /\ R C' (nx J') w' v x /\ Sim P C' w' J' /\ Ext C (nx J) w C' (nx J') w'
theorem Rv.ofRuns {s : Sem Value} {v : AV} (h : Hx P C w J s v J') : Rv P C w J (do pure (.value (← s))) v J' := by
 obtain ⟨y,x,w',C',h1,rfl,h3,h4,h5⟩ := h
 exact ⟨y,w',C',.inl (by simp [h1]),h5,h3,h4⟩
theorem Rv.ofPure (hs : Sim P C w J) {s : Sem Value} {v : AV} (h : J' = J /\ Cp P C (nx J) w s v) : Rv P C w J (do pure (.value (← s))) v J' := by
 obtain ⟨rfl,h⟩ := h;exact .ofRuns (h.runs hs)
theorem Rv.ofUnit {s : Sem Unit} {v : AV} (h : v = An /\ ∃ w',s.run P w = .ok () w' /\ Sim P C w' J' /\ Ext C (nx J) w C (nx J') w') : Rv P C w J (do s; pure .skip) v J' := by
 obtain ⟨rfl,w',h1,h2,h3⟩ := h
 refine ⟨undef,w',C,.inr ⟨by simp [h1],rfl⟩,?_,h2,h3⟩
 unfold An R; exact ⟨#[],rfl,by unfold RL; trivial⟩
theorem Rv.ofTuple {s : Sem Value} {v : AV} (h : v = An /\ ∃ w',s.run P w = .ok (.tuple #[]) w' /\ Sim P C w' J' /\ Ext C (nx J) w C (nx J') w') : Rv P C w J (do pure (.value (← s))) v J' := by
 obtain ⟨rfl,w',h1,h2,h3⟩ := h
 refine ⟨.tuple #[],w',C,.inl (by simp [h1]),?_,h2,h3⟩
 unfold An R; exact ⟨#[],rfl,by unfold RL; trivial⟩
theorem Aix {E : Env} {tm : Tr AV} {a : Act} (hg : Fo C N w E) (ht : TR C N w tm a.tmps) (x : Option Operand) : RO C N w (opdO E tm x) (x.map a.eval) := by
 cases x with
 | none => simp only [opdO,gl_]; unfold RO; trivial
 | some x => simp only [opdO,df_]; unfold RO; exact Bc hg ht x
theorem Zb (hs : Sim P C w J) {E : Env} (hE : E.P = P) {b : Builtin} {t : TypeId} {ti : TI} (hti : Aw P t = some ti) {ts : List TypeId} {x : AV} {X : Value} {xs : List AV} {Xs : List Value}
  (hx : R C (nx J) w x X) (hxs : RL C (nx J) w xs Xs) {v : AV} (h : Dp E b ti ts x xs J = some (v,J')) (ty : TypeId) (consts : Array Bool) :
  Rv P C w J (builtin b (t :: ts).toArray ty consts (X :: Xs).toArray) v J' := by
 subst hE;obtain ⟨i,d,g1,g2,g3,g4,_⟩ := Al hti
 have arg0 : ∀ (s s' : Sem Value),(∀ w,s.run E.P w = s'.run E.P w) -> Rv E.P C w J (do pure (.value (← s'))) v J' -> Rv E.P C w J (do pure (.value (← s))) v J' := by
  rintro s s' he ⟨y,w',C',h1,h2⟩;refine ⟨y,w',C',?_,h2⟩;simp only [Sem.run_bind] at h1 ⊢;rw [he]; exact h1
 cases b <;> simp only [Dp] at h
 case len =>
  split at h
  ·rename_i e hd
   refine .ofPure hs ?_
   have hu := g2.trans (by rw [← g3,hd])
   unfold sLen at h
   split at h
   ·cases h; unfold R at hx; obtain ⟨ad,k,rfl,_⟩ := hx
    exact ⟨rfl,_,by simp [Builtin.len_,Aa hu]; rfl,by unfold goInt R; rfl⟩
   ·cases h; unfold R at hx; obtain ⟨ad,k,rfl,_⟩ := hx
    exact ⟨rfl,_,by simp [Builtin.len_,Aa hu]; rfl,by unfold goInt R; rfl⟩
   ·cases h; unfold R at hx; obtain ⟨rfl,_⟩ := hx
    exact ⟨rfl,_,by simp [Builtin.len_,Aa hu]; rfl,by unfold goInt R; rfl⟩
   ·cases h
  ·rename_i hd
   refine .ofPure hs ?_
   have hu := g2.trans (by rw [← g3,hd])
   unfold Xy at h
   split at h
   ·rw [Ag] at h; cases h; unfold R at hx; obtain ⟨s,rfl,rfl⟩ := hx
    exact ⟨rfl,_,by simp [Builtin.len_,Aa hu]; rfl,by unfold goInt R; rw [Ei]; rfl⟩
   ·cases h
  ·rename_i kt et hd
   have := Abn (ty := ty) hs hti hd hx h;refine arg0 _ (Builtin.len_ #[t] ty #[X]) (fun w => ?_) (.ofPure hs this)
   simp [Builtin.len_]
  ·rename_i n e hd
   refine .ofPure hs ?_
   have hu := g2.trans (by rw [← g3,hd])
   cases h
   exact ⟨rfl,_,by simp [Builtin.len_,Aa hu]; rfl,by unfold goInt R; rfl⟩
  ·cases h
 case cap =>
  split at h
  ·rename_i e hd
   refine .ofPure hs ?_
   have hu := g2.trans (by rw [← g3,hd])
   unfold I6 at h
   split at h
   ·rename_i q
    cases h; unfold R at hx; obtain ⟨ad,k,rfl,_,_,hq,_⟩ := hx;have := hq _ rfl; subst this
    exact ⟨rfl,_,by simp [Builtin.cap_,Aa hu]; rfl,by unfold goInt R; rfl⟩
   ·cases h; unfold R at hx; obtain ⟨ad,k,rfl,_,hq,_⟩ := hx;have := hq _ rfl; subst this
    exact ⟨rfl,_,by simp [Builtin.cap_,Aa hu]; rfl,by unfold goInt R; rfl⟩
   ·cases h; unfold R at hx; obtain ⟨rfl,_⟩ := hx
    exact ⟨rfl,_,by simp [Builtin.cap_,Aa hu]; rfl,by unfold goInt R; rfl⟩
   ·cases h
  ·cases h
 case clear =>
  split at h
  ·rename_i kt et hd
   have := Xq (ty := ty) hs hti hd hx h;refine arg0 _ (Builtin.clear_ #[t] ty #[X]) (fun w => ?_) (.ofTuple this)
   simp [Builtin.clear_]
  ·rename_i e hd
   split at h
   ·rename_i te hte
    split at h
    ·rename_i z hz
     split at h
     ·rename_i hl
      have := Ael (ty := ty) hs hti hd hte hz (aa_ hl) hx h;refine arg0 _ (Builtin.clear_ #[t] ty #[X]) (fun w => ?_) (.ofTuple this)
      simp [Builtin.clear_]
     ·cases h
    ·cases h
   ·cases h
  ·cases h
 case append =>
  split at h
  ·rename_i e t2 ts' y ys hd
   have hu := g2.trans (by rw [← g3,hd])
   cases Xs with
   | nil => unfold RL at hxs; exact hxs.elim
   | cons Y Ys =>
    unfold RL at hxs
    have hre : ∀ w,(Builtin.append_ (t :: t2 :: ts').toArray ty (X :: Y :: Ys).toArray).run E.P w = (Builtin.append_ #[t,t2] ty #[X,Y]).run E.P w := fun w => by simp [Builtin.append_]
    split at h
    ·rename_i te tx hte htx
     obtain ⟨_,dx,_,gx,gx3,_⟩ := Al htx
     split at h
     ·rename_i z hz
      split at h
      ·rename_i hl
       have hl := aa_ hl
       split at h
       ·rename_i e2 hd2
        exact arg0 _ _ hre (.ofRuns (Rg hs hu hte hz hl (gx.trans (by rw [← gx3,hd2])) (by intro k hk; cases hk) hx hxs.1 h))
       ·rename_i hd2
        exact arg0 _ _ hre (.ofRuns (Rg hs hu hte hz hl (gx.trans (by rw [← gx3,hd2])) (by intro k hk; cases hk) hx hxs.1 h))
       ·rename_i k hd2
        exact arg0 _ _ hre (.ofRuns (Y3 hs hu hte hz hl (gx.trans (by rw [← gx3,hd2])) hx hxs.1 h))
       ·cases h
      ·cases h
     ·cases h
    ·cases h
  ·cases h
 case copy =>
  split at h
  ·rename_i e y ys hd
   have hu := g2.trans (by rw [← g3,hd])
   cases Xs with
   | nil => unfold RL at hxs; exact hxs.elim
   | cons Y Ys =>
    unfold RL at hxs
    split at h
    ·rename_i te hte
     refine arg0 _ (Builtin.copy_ #[t,t] ty #[X,Y]) (fun w => ?_) (.ofRuns (Af7 hs hu hte hx hxs.1 h))
     simp [Builtin.copy_]
    ·cases h
  ·cases h
 case delete =>
  split at h
  ·rename_i kt et y ys hd
   cases Xs with
   | nil => unfold RL at hxs; exact hxs.elim
   | cons Y Ys =>
    unfold RL at hxs;refine arg0 _ (Builtin.delete_ #[t,t] ty #[X,Y]) (fun w => ?_) (.ofTuple (Abm hs hti hd hxs.1 hx h))
    simp [Builtin.delete_]
  ·cases h
 case min =>
  split at h
  ·rename_i y
   cases Xs with
   | nil => unfold RL at hxs; exact hxs.elim
   | cons Y Ys =>
    unfold RL at hxs;have hY : Ys = [] := gf_ hxs.2;subst hY;unfold Yl at h
    split at h
    ·rename_i k a k' b
     cases hb : Es k k'
     ·simp [hb] at h
     ·simp only [hb,cond_true,ac_,ax_] at h;obtain ⟨rfl,rfl⟩ := h;unfold R at hx; subst hx;have h1 := hxs.1; unfold R at h1; subst h1
      refine .ofPure hs ⟨rfl,.int k (Aij a b),?_,by unfold R; rfl⟩
      simp only [Builtin.min_,List.foldlM_cons,List.foldlM_nil,Sem.run_bind];simp only [Builtin.min2,Sem.run_pure,Result.andThen_ok,Aij,D1]
      by_cases hab : a <= b
      ·rw [if_neg Om]; simp [hab]
      ·rw [if_pos Om]; simp [hab]
    ·cases h
  ·cases h
 case max =>
  split at h
  ·rename_i y
   cases Xs with
   | nil => unfold RL at hxs; exact hxs.elim
   | cons Y Ys =>
    unfold RL at hxs;have hY : Ys = [] := gf_ hxs.2;subst hY;unfold Yl at h
    split at h
    ·rename_i k a k' b
     cases hb : Es k k'
     ·simp [hb] at h
     ·simp only [hb,cond_true,ac_,ax_] at h;obtain ⟨rfl,rfl⟩ := h;unfold R at hx; subst hx;have h1 := hxs.1; unfold R at h1; subst h1
      refine .ofPure hs ⟨rfl,.int k (Jx a b),?_,by unfold R; rfl⟩
      simp only [Builtin.max_,List.foldlM_cons,List.foldlM_nil,Sem.run_bind];simp only [Builtin.max2,Sem.run_pure,Result.andThen_ok,Jx,D1]
      by_cases hab : b <= a
      ·rw [if_neg Om]; simp [hab]
      ·rw [if_pos Om]; simp [hab]
    ·cases h
  ·rename_i y z
   cases Xs with
   | nil => unfold RL at hxs; exact hxs.elim
   | cons Y Ys =>
    unfold RL at hxs;cases Ys with
    | nil => have h2 := hxs.2; unfold RL at h2; exact h2.elim
    | cons Z Zs =>
    have h3 := hxs.2;unfold RL at h3;have hZ : Zs = [] := gf_ h3.2;subst hZ;unfold Aj8 at h
    split at h
    ·rename_i k a k' b k'' c
     cases hb : (Es k k' && Es k k'')
     ·simp [hb] at h
     ·simp only [hb,cond_true,ac_,ax_] at h;obtain ⟨rfl,rfl⟩ := h;unfold R at hx; subst hx;have h1 := hxs.1; unfold R at h1; subst h1;have h4 := h3.1; unfold R at h4; subst h4
      refine .ofPure hs ⟨rfl,.int k (Jx (Jx a b) c),?_,by unfold R; rfl⟩
      simp only [Builtin.max_,List.foldlM_cons,List.foldlM_nil,Sem.run_bind]
      have m2 : ∀ (q : IntKind) (x y : Int) (u : World),Sem.run E.P (Builtin.max2 (.int k x) (.int q y)) u = .ok (.int k (Jx x y)) u := fun q x y u => by
       simp only [Builtin.max2,Jx,D1]
       by_cases hab : y <= x
       ·rw [if_neg Om]; simp [hab]
       ·rw [if_pos Om]; simp [hab]
      simp only [m2,Result.andThen_ok,Sem.run_pure]
    ·cases h
  ·cases h
 all_goals (cases h)
theorem I8 (a : Act) (ps : Array (Nat × Operand)) : (ps.map fun (i,x) => (i,a.eval x)).toList = ps.toList.map fun (i,x) => (i,a.eval x) := by simp
theorem Aga (hs : Sim P C w J) {E : Env} (hE : E.P = P) {tm : Tr AV} {a : Act} (hg : Fo C (nx J) w E) (ht : TR C (nx J) w tm a.tmps) {o : Oper} {v : AV} (h : Ar E o.op tm J = some (v,J')) :
  Rv P C w J (execOp a.eval o) v J' /\ (∀ x w',(execOp a.eval o).run P w ≠ .ok x w' ∨ (∃ y,x = .value y) ∨ x = .skip) := by
 have key : Rv P C w J (execOp a.eval o) v J' := by
  subst hE;obtain ⟨dst,op,ty,pos,after,guard⟩ := o;have O := fun x => Bc hg ht x
  have OO := fun x => Aix hg ht x
  cases op <;> simp only [Ar] at h <;> try (cases h; done)
  case move x => unfold Yi at h; cases h; exact ⟨_,w,C,.inl rfl,O x,hs,bz_ _ _ _⟩
  case assign x => unfold Yi at h; cases h; exact ⟨_,w,C,.inl rfl,O x,hs,bz_ _ _ _⟩
  case pick c x y =>
   have hc := O c;unfold Ab2 at h
   split at h
   ·rename_i heq; rw [heq] at hc; unfold R at hc
    cases h
    exact ⟨_,w,C,.inl (by simp [execOp,hc,asBool]),O x,hs,bz_ _ _ _⟩
   ·rename_i heq; rw [heq] at hc; unfold R at hc
    cases h
    exact ⟨_,w,C,.inl (by simp [execOp,hc,asBool]),O y,hs,bz_ _ _ _⟩
   ·cases h
  case nilCheck x =>
   obtain ⟨rfl,h1,h2⟩ := Xl (O x) h dst x a.eval rfl ty pos after guard;exact ⟨_,w,C,.inl h1,h2,hs,bz_ _ _ _⟩
  case alloc t =>
   split at h
   ·rename_i ti hti
    split at h
    ·rename_i z hz; exact .ofRuns (Aej hs hti hz h)
    ·cases h
   ·cases h
  case box t x =>
   split at h
   ·rename_i ti hti; exact .ofRuns (Aiu hs (O x) h)
   ·cases h
  case build t parts =>
   split at h
   ·rename_i ti hti
    split at h
    ·rename_i z fs hz hd
     split at h
     ·rename_i ps hi hps
      obtain ⟨pl,hpl,hat⟩ := Mv hi
      refine .ofPure hs (Tp hti hd hz hi (place := (pl.toArray[·]?)) (fun pl' h' => by rw [hpl] at h'; cases h'; rfl) (ps := ps) ?_ h)
      rw [I8]
      exact Rd rfl hg ht (fun i f hf => by obtain ⟨fi,k1,k2⟩ := hat i f hf; exact ⟨fi,k1,by simpa using k2⟩) hps
     ·cases h
    ·rename_i z n e hz hd
     split at h
     ·rename_i te hte
      refine .ofPure hs (Yy hti hd hte hz ?_ h);rw [I8];exact Ll hg ht _ _
     ·cases h
    ·cases h
   ·cases h
  case buildSlice t len parts =>
   split at h
   ·rename_i ti hti
    split at h
    ·rename_i e hd
     split at h
     ·rename_i te hte
      split at h
      ·rename_i z hz
       split at h
       ·rename_i hb
        rw [ae_] at hb;refine .ofRuns (Tq hs hti hd hte hz (aa_ hb.2) (ak_ hb.1) ?_ h).1;rw [I8];exact Ll hg ht _ _
       ·cases h
      ·cases h
     ·cases h
    ·cases h
   ·cases h
  case load t x =>
   split at h
   ·rename_i ti hti; exact .ofPure hs (O5 hs hti (O x) h)
   ·cases h
  case store t x y =>
   split at h
   ·rename_i ti hti
    obtain ⟨h1,w',h2,h3,h4⟩ := Aek hs hti (O x) (O y) h
    exact .ofUnit ⟨h1,w',h2,h3,by have := h4.trans (bz_ _ _ _); exact this⟩
   ·cases h
  case binOp op t x y _ =>
   unfold Uz at h
   split at h
   ·rename_i u hu; cases h; exact .ofPure hs ⟨rfl,Ais (O x) (O y) hu⟩
   ·cases h
  case unOp op t x =>
   unfold Uz at h
   split at h
   ·rename_i u hu; cases h; exact .ofPure hs ⟨rfl,Al3 (O x) hu⟩
   ·cases h
  case convert s d x =>
   split at h
   ·rename_i ts td hts htd
    obtain ⟨_,ds,_,s2,s3,_⟩ := Al hts;obtain ⟨_,dd,_,d2,d3,_⟩ := Al htd
    split at h
    ·rename_i k hd; exact .ofPure hs (Yz s2 (d2.trans (by rw [← d3,hd])) (O x) h)
    ·rename_i k hd; exact .ofPure hs (Y0 s2 (d2.trans (by rw [← d3,hd])) (O x) h)
    ·rename_i hd
     split at h
     ·rename_i hd'; exact .ofPure hs (Y1 s2 (d2.trans (by rw [← d3,hd])) (O x) h)
     ·rename_i e hd'
      split at h
      ·rename_i te hte
       obtain ⟨_,de,_,e2,e3,_⟩ := Al hte
       split at h
       ·rename_i hde; exact .ofPure hs (Rs hs (s2.trans (by rw [← s3,hd'])) (d2.trans (by rw [← d3,hd])) (e2.trans (by rw [← e3,hde])) (O x) h)
       ·cases h
      ·cases h
     ·cases h
    ·rename_i e hd
     split at h
     ·rename_i te hd' hte
      obtain ⟨_,de,_,e2,e3,_⟩ := Al hte
      split at h
      ·rename_i hde; exact .ofRuns (Rt hs (s2.trans (by rw [← s3,hd'])) (d2.trans (by rw [← d3,hd])) (e2.trans (by rw [← e3,hde])) (O x) h).2
      ·cases h
     ·cases h
    ·cases h
   ·cases h
  case makeInterface t x =>
   split at h
   ·rename_i ti hti
    obtain ⟨_,d,_,g2,g3,_⟩ := Al hti
    split at h
    ·cases h
    ·rename_i hd
     unfold sIfc at h; cases h
     refine .ofPure hs ⟨rfl,.iface t (a.eval x),?_,by unfold R; exact ⟨_,rfl,O x⟩⟩
     have hnd : ∀ m,d ≠ .interface m := fun m hm => hd m (g3.trans hm)
     unfold Instr.makeInterface;simp only [Sem.run_bind,Aa g2,Result.andThen_ok]
     cases d <;> first | rfl | exact absurd rfl (hnd _)
   ·cases h
  case makeFunc f first cap =>
   unfold Aj6 at h; cases h;refine .ofPure hs ⟨rfl,.func f (first.map a.eval) (cap.map a.eval),rfl,?_⟩;unfold R;refine ⟨_,_,rfl,?_,?_⟩
   ·rw [c_]; exact Dh hg ht _
   ·rw [c_]; exact Dh hg ht _
  case makeMap t r =>
   split at h
   ·rename_i ti hti
    split at h
    ·rename_i hd; exact .ofRuns (Y9 hs h)
    ·rename_i hd; exact .ofRuns (Xt hs hti hd (O _) h)
    ·cases h
   ·cases h
  case makeSlice t l c =>
   split at h
   ·rename_i ti hti
    split at h
    ·rename_i e hd
     split at h
     ·rename_i te hte
      split at h
      ·rename_i z hz
       split at h
       ·rename_i hb; exact .ofRuns (Vj hs hti hd hte hz (aa_ hb) (O l) (O c) h)
       ·cases h
      ·cases h
     ·cases h
    ·cases h
   ·cases h
  case slice t x lo hi mx =>
   split at h
   ·rename_i ti hti
    split at h
    ·rename_i hd
     split at h
     ·exact .ofPure hs (Xk hti hd (O x) (OO lo) (OO hi) h)
     ·cases h
    ·rename_i e hd
     split at h
     ·rename_i te hte; exact .ofPure hs (Aei hti hd hte (O x) (OO lo) (OO hi) (OO mx) h)
     ·cases h
    ·rename_i n e hd
     split at h
     ·rename_i te hte
      refine .ofPure hs (Xm hti hd hte (O x) (fun b vs hb hne => ?_) (OO lo) (OO hi) (OO mx) h)
      obtain ⟨c,o',cs,T,k1,k2,k3⟩ := hs.obj b _ hb;exact ⟨c,o',k1,k3.room hne⟩
     ·cases h
    ·cases h
   ·cases h
  case fieldAddr t x i =>
   split at h
   ·rename_i ti hti
    split at h
    ·rename_i fs hd
     split at h
     ·rename_i f hf
      split at h
      ·rename_i tf htf
       split at h
       ·cases h
       ·rename_i n hn
        unfold Anm at h
        split at h
        ·rename_i u hu; cases h; exact .ofPure hs ⟨rfl,Abi hti hd hf htf (by rw [hn]; simp) (O x) hu⟩
        ·cases h
      ·cases h
     ·cases h
    ·cases h
   ·cases h
  case field t x i =>
   split at h
   ·rename_i ti hti
    split at h
    ·rename_i fs hd
     split at h
     ·rename_i f hf
      split at h
      ·rename_i tf htf
       have hx := O x;unfold Yj at h
       split at h
       ·rename_i cs heq
        rw [heq] at hx
        split at h
        ·rename_i u hu; cases h; exact .ofPure hs ⟨rfl,Af5 hti hd hf htf hx hu⟩
        ·cases h
       ·cases h
      ·cases h
     ·cases h
    ·cases h
   ·cases h
  case indexAddr t x i =>
   split at h
   ·rename_i ti hti
    split at h
    ·rename_i e hd
     split at h
     ·rename_i te hte; exact .ofPure hs (Vi hti hd hte (O x) (O i) h)
     ·cases h
    ·rename_i len e hd
     split at h
     ·rename_i te hte; exact .ofPure hs (Q8 hti hd hte (O x) (O i) h)
     ·cases h
    ·cases h
   ·cases h
  case index t x i =>
   split at h
   ·rename_i ti hti
    split at h
    ·rename_i hd; exact .ofPure hs (Xi hti hd (O x) (O i) h)
    ·rename_i len e hd
     split at h
     ·rename_i te hte; exact .ofPure hs (Xo hti hd hte (O x) (O i) h)
     ·cases h
    ·cases h
   ·cases h
  case lookup t m k ok =>
   split at h
   ·rename_i ti hti
    split at h
    ·rename_i kt et hd
     split at h
     ·rename_i te hte
      split at h
      ·rename_i z hz; exact .ofPure hs (Abl hs hti hd hte hz (O k) (O m) h)
      ·cases h
     ·cases h
    ·cases h
   ·cases h
  case mapUpdate t m k x =>
   split at h
   ·rename_i ti hti
    split at h
    ·rename_i kt et hd
     split at h
     ·rename_i te hte; exact .ofUnit (Vk hs hti hd (O k) (O m) (O x) h)
     ·cases h
    ·cases h
   ·cases h
  case mapEntry t m k =>
   split at h
   ·rename_i ti hti
    split at h
    ·rename_i kt et hd
     split at h
     ·rename_i te hte
      split at h
      ·rename_i z hz; exact .ofRuns (Xr hs hti hd hte hz (O k) (O m) h)
      ·cases h
     ·cases h
    ·cases h
   ·cases h
  case entryStore t m st x =>
   split at h
   ·rename_i ti hti
    split at h
    ·rename_i kt et hd
     split at h
     ·rename_i te hte; exact .ofUnit (Tv hs (O m) (O st) (O x) h)
     ·cases h
    ·cases h
   ·cases h
  case range t x =>
   split at h
   ·rename_i ti hti
    split at h
    ·rename_i kt et hd; exact .ofRuns (Aep hs hti hd (O x) h)
    ·cases h
   ·cases h
  case entry x => exact .ofPure hs (Aeq hs (O x) h)
  case extract x i => exact .ofPure hs (Yx (O x) h)
  case typeAssert x xt t ok =>
   split at h
   ·rename_i ti hti
    split at h
    ·cases h
    ·rename_i hd; exact .ofPure hs (Abj hti (fun m hm => hd m hm) (O x) h)
   ·cases h
  case call c =>
   split at h
   ·rename_i b hb
    split at h
    ·rename_i t ts x xs hts hxs
     split at h
     ·rename_i ti hti
      obtain ⟨cs,e⟩ : ∃ cs,execOp a.eval ⟨dst,.call c,ty,pos,after,guard⟩ = builtin b c.argTypes ty cs (c.args.map a.eval) := ⟨_,by simp only [execOp,resolve,hb]; rfl⟩
      rw [e];have := Zb hs rfl hti (O x) (Dh hg ht xs) h ty cs
      have e1 : (t :: ts).toArray = c.argTypes := by apply Qg; rw [hts]
      have e2 : (a.eval x :: xs.map a.eval).toArray = c.args.map a.eval := by apply Qg; rw [c_,hxs]; rfl
      rw [e1,e2] at this;exact this
     ·cases h
    ·cases h
   ·cases h
 refine ⟨key,fun x w' => ?_⟩
 obtain ⟨y,w₂,_,h1,_⟩ := key
 rcases h1 with h1 | ⟨h1,_⟩
 ·by_cases hx : x = .value y
  ·exact .inr (.inl ⟨y,hx⟩)
  ·exact .inl (by rw [h1]; intro hh; cases hh; exact hx rfl)
 ·by_cases hx : x = .skip
  ·exact .inr (.inr hx)
  ·exact .inl (by rw [h1]; intro hh; cases hh; exact hx rfl)
end
end Go.AM
