/- A part of the proof; shortened by program. -/
import Derived.Test.YtadnlmhnjfmleaaGreatDoorP07
set_option maxRecDepth 100000
set_option maxHeartbeats 4000000
set_option linter.unusedSimpArgs false
set_option linter.unusedVariables false
namespace Go.AM
open Go
section
variable {E : Env} {C C' C₁ C₂ : Ctx} {N N' N₁ N₂ : Nat} {w w' w₁ w₂ w₃ w₄ : World} {l : Nat}
theorem Ext.turnNew (e : Ext C N w C₁ N₁ w₁) (t : H8 w₁ w₂ l) (hl : ¬ C₁.own l) (hge : w.heap.size <= l) : Ext C N w C₁ N₁ w₂ where
 next := e.next
 size := by rw [t.size]; exact e.size
 keep b hb ho := by
  obtain ⟨k1,k2⟩ := e.keep b hb ho
  exact ⟨k1,by rw [t.other b Om,k2]⟩
 loc := e.loc
 stm := e.stm
 lr := e.lr
 bsz a ha c o hc := by rw [t.csize]; exact e.bsz a ha c o hc
 res := ⟨e.res.1,fun b hb => by rw [t.other b (fun he => hl (.inl (by rw [e.res.1]; exact he ▸ hb))),e.res.2 b hb]⟩
 os := ⟨t.os.1.trans e.os.1,t.os.2.trans e.os.2⟩
end
def Ctx.setLoop (C : Ctx) (a : Nat) (n : Int) (r : Loop) : Ctx := { C with stm := fun b => if b = a then n else C.stm b,lr := fun b => if b = a then some r else C.lr b }
section
variable {P : Program} {C : Ctx} {w w' : World} {J : Sto}
theorem Sim.setLoop (h : Sim P C w J) (n : Int) (r : Loop) : Sim P (C.setLoop (nx J) n r) w J /\ Ext C (nx J) w (C.setLoop (nx J) n r) (nx J) w := by
 have hne : ∀ {a},a < nx J -> ¬ a = nx J := fun h => by omega
 have e : Ext C (nx J) w (C.setLoop (nx J) n r) (nx J) w := ⟨nl,nl,fun b _ ho => ⟨ho,rfl⟩,fun _ _ _ h => h,
  fun a ha => by simp [Ctx.setLoop,hne ha],fun a ha => by simp [Ctx.setLoop,hne ha],fun _ _ _ _ _ => rfl,⟨rfl,fun _ _ => rfl⟩,rfl,rfl⟩
 exact ⟨⟨fun a X hg => (h.obj a X hg).ext e (h.bound a X hg) rfl (fun _ _ _ => rfl) fun x _ kt es' v' hg' => ⟨kt,es',v',hg',nl,fun _ => ⟨rfl,fun _ _ _ => rfl⟩⟩,
  h.bound,h.dom,h.inj,h.lt,h.rlt,h.rdis⟩,e⟩
theorem Sim.newLoop (h : Sim P C w J) {r : Loop} (hr : C5 r .ready = r) (p : Pu w w' (.loop r)) :
  Sim P ((C.setLoop (nx J) (w.heap.size : Int) r).add (nx J) w.heap.size 0) w' (J.new (.loop .ready)) /\
  Ext C (nx J) w ((C.setLoop (nx J) (w.heap.size : Int) r).add (nx J) w.heap.size 0) (nx J + 1) w' := by
 obtain ⟨h1,e1⟩ := h.setLoop (w.heap.size : Int) r
 obtain ⟨h2,e2⟩ := h1.new p (.loop .ready) rfl fun _ => ⟨w.heap.size,r,by simp [Ctx.add],by simp [Ctx.add,Ctx.setLoop],by rw [hr]; exact p.here⟩
 exact ⟨h2,e1.trans e2⟩
theorem Sim.turnLoop (h : Sim P C w J) {a : Nat} {st : LS} (hg : J.get a = some (.loop st)) (st' : LS) :
  ∃ c r,C.loc a = some (c,0) /\ C.lr a = some r /\ w.heap[c]? = some (.loop (C5 r st)) /\
   Sim P C (w.putObj c (.loop (C5 r st'))) (J.set a (.loop st')) /\ Ext C (nx J) w C (nx J) (w.putObj c (.loop (C5 r st'))) := by
 obtain ⟨c,r,h1,h2,h3⟩ := h.obj a _ hg;have hlt := (at_.1 h3).1;have p : Wr w (w.putObj c (.loop (C5 r st'))) c (.loop (C5 r st')) := ⟨World.putObj_size,World.putObj_heap_same hlt,fun b hb => World.putObj_heap_other hb,rfl,rfl⟩
 have hsz : csize (w.putObj c (.loop (C5 r st'))) c = csize w c := by unfold csize; rw [p.here,h3]
 obtain ⟨k1,k2⟩ := h.upd h1 p hsz hg (.loop st') rfl (fun kt es v hh => by cases hh) fun _ => ⟨c,r,h1,h2,p.here⟩
 exact ⟨c,r,h1,h2,h3,k1,k2⟩
end
section
variable {E : Env} {Rr : Rec}
theorem Wu {J : Sto} {a : Nat} (h : X1 J a = true) : J.get a = some (.loop .ready) := by
 unfold X1 at h
 split at h
 ·assumption
 ·cases h
theorem Ai5 {J : Sto} {a : Nat} (h : Aip J a = true) : J.get a = some (.loop .busy) := by
 unfold Aip at h
 split at h
 ·assumption
 ·cases h
theorem Ai6 {C : Ctx} {N : Nat} {w : World} {x : AV} {vs : Array Value} (h : RL C N w [x] vs.toList) : ∃ v,vs = #[v] /\ R C N w x v := by
 obtain ⟨l⟩ := vs
 match l,h with
 | [],h => unfold RL at h; exact h.elim
 | [v],h => unfold RL at h; exact ⟨v,rfl,h.1⟩
 | _ :: _ :: _,h => unfold RL at h; have := h.2; unfold RL at this; exact this.elim
theorem Aez {C : Ctx} {N : Nat} {w : World} {nt : Nat} {ps : Array Tmp} {args : List AV} {vs : Array Value} {tm tm' : Tr AV} {tmps : Array Value} (h : Aio nt ps.toList args tm = some tm') (ht : TR C N w tm tmps) (hsz : tmps.size = nt) (ha : RL C N w args vs.toList) :
  vs.size = ps.size /\ TR C N w tm' ((ps.zip vs).foldl (fun tmps (t,a) => tmps.setIfInBounds t a) tmps) /\ ((ps.zip vs).foldl (fun tmps (t,a) => tmps.setIfInBounds t a) tmps).size = nt := by
 unfold Aio at h
 split at h
 ·rename_i hps
  cases h
  have hp : ps = #[] := by rw [← fs_ (xs := ps),hps]
  have hv : vs = #[] := by
   have := ha.length
   exact cw_ (by simpa using this.symm)
  subst hp hv
  exact ⟨rfl,by simpa using ht,by simpa using hsz⟩
 ·rename_i p x hps
  have hp : ps = #[p] := by rw [← fs_ (xs := ps),hps]
  subst hp;obtain ⟨v,rfl,hx⟩ := Ai6 ha;obtain ⟨k1,k2,_⟩ := TR.put (a := { tmps := tmps,defers := [] }) ht hsz h hx
  have jc : (#[p].zip #[v]).foldl (fun tmps (t,a) => tmps.setIfInBounds t a) tmps = (({ tmps := tmps,defers := [] } : Act).put (some p) v).tmps := by
   simp [Act.put]
  rw [jc];exact ⟨rfl,k1,k2⟩
 ·cases h
theorem Vm.more {a : Nat} {g : Hnd} (h : Vm E a g) (L : RF) : Vm { E with loops := L :: E.loops } a g := fun C w J args vs v J' hs hg ha hh =>
 h C w J args vs v J' hs ⟨hg.1,hg.2.1,fun M hM => hg.2.2 M (am_ _ hM)⟩ ha hh
theorem Ae0 (hR : Ao E Rr) (hD : F7 E Rr) (lf : Nat) (L : RF) : Vm { E with loops := L :: E.loops } L.aY (Aeh E lf Rr L) := by
 intro C w J args vs v J' hs hg bg h;obtain ⟨hY1,hY2,r,hlr,hTR,hsz,hp,has,hbo⟩ := hg.2.2 L (bn_ ..);have hg : Fo C (nx J) w E := ⟨hg.1,hg.2.1,fun M hM => hg.2.2 M (am_ _ hM)⟩
 have hs : Sim E.P C w J := hs
 have noG_ok : ∀ {ro : Option Nat} {n : Nat} (f : Operand) (ps : Array Tmp) (x y : Code) (C : Ctx) (w : World) (s : St) (a : Act) (l : List (XE × St)),True -> SSt E C w s a -> noG f ps x y s = some l -> (Code.rangeFunc f ps x y).wpIn (B8 ro) n E.P (H7 E C (nx s.sto) w l) a w := fun _ _ _ _ _ _ _ _ _ _ _ h => by cases h
 unfold Aeh at h
 split at h
 ·rename_i hrd
  simp only [ae_] at hrd;obtain ⟨⟨hrd,hna⟩,hnb⟩ := hrd;obtain ⟨c,r',h1,h2,h3⟩ := hs.obj _ _ (Wu hrd);rw [hlr] at h2;cases h2;have hc := hY2 c 0 h1;subst hc
  split at h
  ·rename_i tm' htm
   obtain ⟨q1,q2,q3⟩ := Aez (ps := L.ps) htm hTR hsz bg
   split at h
   ·rename_i s₁ hs₁
    split at h
    ·rename_i hrd₁
     split at h
     ·rename_i x s₂ hs₂
      split at h
      ·rename_i hbu
       refine ⟨r,Aeg x,by cases h; rfl,h3,by rw [hp]; exact q1,fun ro n => ?_⟩
       refine roundIn_of_wpIn (F := B8 ro) trivial ?_;rw [has,hbo,hp]
       have st0 : SSt E C w ⟨tm',L.nt,[],J⟩ { tmps := (L.ps.zip vs).foldl (fun tmps (t,a) => tmps.setIfInBounds t a) r.tmps,defers := [] } := ⟨hs,hg,q2,q3,by unfold DR; trivial⟩
       refine wpIn_mono (K9 (Inv := fun _ _ _ => True) (fun h _ => h) hR hD lf (ro := some (C.stm L.aY).toNat) (n := n) noG_ok L.assign C w _ _ _ (.inr hna) trivial st0 hs₁) fun e a₁ w₁ hq => ?_
       obtain ⟨y,hy,C₁,hye,st₁,e₁⟩ := hq;rw [an_] at hy;subst hy;subst hye;obtain ⟨c₁,r₁,j1,j2,j3,j4,j5⟩ := st₁.sim.turnLoop (Wu hrd₁) .busy
       have hr₁ : r₁ = r := by
        have := e₁.lr _ hY1;rw [j2,hlr] at this;exact ds_ this
       subst hr₁;have hc₁ : c₁ = (C.stm L.aY).toNat := hY2 c₁ 0 (e₁.loc _ hY1 _ j1);subst hc₁;refine ⟨_,run_beginRound j3 rfl,?_⟩;have st₂ : SSt E C₁ (w₁.putObj (C.stm L.aY).toNat (.loop (C5 r₁ .busy))) ⟨s₁.tm,s₁.nt,s₁.df,s₁.sto.set L.aY (.loop .busy)⟩ a₁ :=
        ⟨j4,by show Fo _ (nx (s₁.sto.set _ _)) _ _; rw [Ae]; exact st₁.glob.ext j5,by show TR _ (nx (s₁.sto.set _ _)) _ _ _; rw [Ae]; exact st₁.tmps.ext j5,st₁.size,by show DR _ (nx (s₁.sto.set _ _)) _ _ _; rw [Ae]; exact st₁.dfs.ext j5⟩
       refine wpIn_mono (K9 (Inv := fun _ _ _ => True) (fun h _ => h) hR hD lf (ro := some (C.stm L.aY).toNat) (n := n) noG_ok L.body C₁ _ _ _ _ (.inr hnb) trivial st₂ hs₂) fun e a₃ w₃ hq => ?_
       obtain ⟨y,hy,C₂,hye,st₃,e₂⟩ := hq;rw [an_] at hy;subst hy;subst hye;have hY3 : L.aY < nx s₁.sto := aq_ hY1 e₁.next
       have e₂' : Ext C₁ (nx s₁.sto) (w₁.putObj (C.stm L.aY).toNat (.loop (C5 r₁ .busy))) C₂ (nx s₂.sto) w₃ := by
        have := e₂
        rwa [show nx (⟨s₁.tm,s₁.nt,s₁.df,s₁.sto.set L.aY (.loop .busy)⟩ : St).sto = nx s₁.sto from Ae _ _ _] at this
       have finish : ∀ (st' : LS) (jump : Option Code),C5 r₁ st' = { C5 r₁ .busy with state := if jump.isNone then .ready else .done,pending := jump } ->
         (Aeg x,J') = (jump.isNone,s₂.sto.set L.aY (.loop st')) ->
         ∃ v w',(Instr.endRound (C.stm L.aY).toNat jump).run E.P w₃ = .ok v w' /\ (Ending.returned v = .returned (.bool (Aeg x)) /\ ∃ C',Sim E.P C' w' J' /\ Ext C (nx J) w C' (nx J') w') := by
        intro st' jump hst heq;obtain ⟨hh1,rfl⟩ := Prod.mk.inj heq;rw [hh1];obtain ⟨c₂,r₂,m1,m2,m3,m4,m5⟩ := st₃.sim.turnLoop (Ai5 hbu) st'
        have hr₂ : r₂ = r₁ := by
         have := e₂'.lr _ hY3;rw [m2,j2] at this;exact ds_ this
        subst hr₂;have hc₂ : c₂ = (C.stm L.aY).toNat := hY2 c₂ 0 (e₁.loc _ hY1 _ (e₂'.loc _ hY3 _ m1));subst hc₂;have dk := run_endRound (P := E.P) jump m3;rw [← hst] at dk;refine ⟨_,_,dk,rfl,C₂,m4,?_⟩;rw [Ae];exact ((e₁.trans j5).trans e₂').trans m5
       cases x with
       | normal => cases h; exact finish .ready none rfl rfl
       | ret => cases h; exact finish (.done .ret) (some .ret) rfl rfl
       | exit id => cases h; exact finish (.done (.exit id)) (some (.exit id)) rfl rfl
      ·cases h
     ·cases h
    ·cases h
   ·cases h
  ·cases h
 ·cases h
def Hz (b B : Nat) (C : Ctx) (N : Nat) (w : World) : Prop := b < N /\ (C.stm b).toNat = B /\ B <= w.heap.size
theorem Hz.ext {b B : Nat} {C : Ctx} {N : Nat} {w : World} {C' : Ctx} {N' : Nat} {w' : World} (h : Hz b B C N w) (e : Ext C N w C' N' w') : Hz b B C' N' w' :=
 ⟨aq_ h.1 e.next,by rw [e.stm b h.1]; exact h.2.1,bc_ h.2.2 e.size⟩
def YOk (E : Env) (Y : Nat -> Option Hnd) : Prop := ∀ a h,Y a = some h -> Vm E a h
theorem MB.of_DR {C : Ctx} {N : Nat} {w : World} : ∀ {r : List (Nat × List AV)} {ds : List Deferred},DR C N w r ds -> MB C N r w.heap.size
 | [],_,_ => fun x hx => by cases hx
 | y :: r,[],h => by unfold DR at h; exact h.elim
 | y :: r,d :: ds,h => by
  unfold DR at h;intro x hx hk a b hab
  rcases ai_.1 hx with rfl | hx
  ·rcases h.1 with ⟨h0,_⟩ | ⟨_,a',b',h1,⟨h2,_,_⟩,_,_,h5,_⟩
   ·exact absurd hk h0
   ·rw [hab] at h1;simp only [de_,AV.yl.injEq,and_true] at h1;obtain ⟨rfl,rfl⟩ := h1;exact ⟨h2,(at_.1 h5).1⟩
  ·exact MB.of_DR h.2 x hx hk a b hab
theorem Ae1 {RE : Anu} {Y : Nat -> Option Hnd} (hR : Ao E (RE E Y)) (hD : F7 E (RE E Y)) (hY : YOk E Y) (hRE : ∀ L Y',YOk { E with loops := L :: E.loops } Y' -> Ao { E with loops := L :: E.loops } (RE { E with loops := L :: E.loops } Y'))
  (lf b B n : Nat) (f : Operand) (ps : Array Tmp) (assign body : Code) (C : Ctx) (w : World) (s : St) (a : Act) (l : List (XE × St)) (hi : Hz b B C (nx s.sto) w) (st : SSt E C w s a) (h : Aiq E lf RE Y b f ps assign body s = some l) :
  (Code.rangeFunc f ps assign body).wpIn (B8 none) n E.P (H7 E C (nx s.sto) w l) a w := by
 unfold Aiq at h
 split at h
 ·rename_i k cap hf
  ·simp only [Ag] at h
   split at h
   ·rename_i v J' c6
    split at h
    ·rename_i st' hgl
     have hV := Bc st.glob st.tmps f;rw [hf] at hV;unfold R at hV;obtain ⟨p0,lb,hV,hp0,hlb⟩ := hV
     have jd : p0 = #[] := by
      have := hp0.length
      simp at this
      exact cw_ this.symm
     subst jd;refine (wpIn_wide (n := n)).2 ((wpIn_wide (n := 1)).1 (wpIn_rangeFunc fun fn _ => ?_))
     obtain ⟨rc,hrc⟩ : ∃ rc : Loop,rc = { state := .ready,pending := none,fn,tmps := a.tmps,params := ps,assign,body,defers := w.heap.size } := ⟨_,rfl⟩
     have jf : C5 rc .ready = rc := by rw [hrc]; rfl
     obtain ⟨W0,hW0⟩ : ∃ W0,w.alloc (.deferred (some [])) = W0 := ⟨_,rfl⟩;obtain ⟨W1,hW1⟩ : ∃ W1,W0.alloc (.loop rc) = W1 := ⟨_,rfl⟩
     have hp1 : Pu w W0 (.deferred (some [])) := by rw [← hW0]; exact fk_ rfl ⟨rfl,rfl⟩
     have hp2 : Pu W0 W1 (.loop rc) := by rw [← hW1]; exact fk_ rfl ⟨rfl,rfl⟩
     have gb := hp1.size;have jg := hp2.size;obtain ⟨s1,e1⟩ := st.sim.push hp1;obtain ⟨s2,e2⟩ := s1.bump (w.heap.size : Int);obtain ⟨s3,e3⟩ := s2.newLoop jf hp2;rw [← Bi] at e2
     have hnx : nx (s.sto.bump.new (.loop .ready)) = nx s.sto + 1 + 1 := by rw [Ac,Bi]
     have e5 := (e1.trans e2).trans e3;rw [← Ac s.sto.bump (.loop .ready)] at e5
     generalize hC4 : (((C.addStm (nx s.sto) (w.heap.size : Int)).setLoop (nx s.sto.bump) (W0.heap.size : Int) rc).add (nx s.sto.bump) W0.heap.size 0) = C4 at s3 e5
     have gc : C4.stm (nx s.sto) = (w.heap.size : Int) := by rw [← hC4]; simp [Ctx.add,Ctx.setLoop,Ctx.addStm,Bi]
     have d9 : C4.stm (nx s.sto + 1) = ((w.heap.size + 1 : Nat) : Int) := by rw [← hC4]; simp [Ctx.add,Ctx.setLoop,Bi,gb]
     have gd : C4.lr (nx s.sto + 1) = some rc := by rw [← hC4]; simp [Ctx.add,Ctx.setLoop,Bi]
     have dm : C4.loc (nx s.sto + 1) = some (w.heap.size + 1,0) := by rw [← hC4]; simp [Ctx.add,Bi,gb]
     have hnD : ¬ C4.own w.heap.size := fun hh => by
      rcases hh with hh | ⟨x,o,hh⟩
      ·have hh' : C.res w.heap.size := by rw [← e5.res.1]; exact hh
       have := st.sim.rlt _ hh'; omega
      ·by_cases hx : x = nx s.sto + 1
       ·subst hx; rw [dm] at hh; have := congrArg (fun o => o.map Prod.fst) hh; simp at this
       ·have : x < nx s.sto := by
         obtain ⟨O,hO,_⟩ := s3.dom x _ hh;have hb := s3.bound x O hO;rw [hnx] at hb
         by_cases hx2 : x = nx s.sto
         ·subst hx2;rw [ab_,Bi,if_neg Om,D6] at hO;have := st.sim.bound _ _ hO; omega
         ·omega
        have := st.sim.lt x _ _ (e5.loc x this _ hh); omega
     have er : W1.heap[w.heap.size]? = some (.deferred (some [])) := by rw [hp2.other _ Om]; exact hp1.here
     have hli : Fj ⟨nx s.sto + 1,s.tm,s.nt,ps,assign,body⟩ C4 (nx (s.sto.bump.new (.loop .ready))) W1 := by
      refine ⟨by rw [hnx]; show nx s.sto + 1 < _; omega,fun c o hc => ?_,rc,gd,?_,?_,?_,?_,?_⟩
      ·have hc : C4.loc (nx s.sto + 1) = some (c,o) := hc;rw [dm] at hc; cases hc; show _ = (C4.stm (nx s.sto + 1)).toNat; rw [d9]; rfl
      ·have : TR C (nx s.sto) w s.tm rc.tmps := by rw [hrc]; exact st.tmps
       exact this.ext e5
      ·rw [hrc]; exact st.size
      ·rw [hrc]
      ·rw [hrc]
      ·rw [hrc]
     have bg : RL C4 (nx (s.sto.bump.new (.loop .ready))) W1 (.yl (nx s.sto + 1) :: cap) (#[Value.func (.yield (w.heap.size + 1)) #[] #[]] ++ lb).toList := by
      simp only [cs_,av_,bt_];unfold RL;refine ⟨?_,RL.ext e5 _ _ hlb⟩;unfold R;rw [d9,hnx]
      exact ⟨rfl,by omega⟩
     have hgE : Fo C4 (nx (s.sto.bump.new (.loop .ready))) W1 { E with loops := ⟨nx s.sto + 1,s.tm,s.nt,ps,assign,body⟩ :: E.loops } := by
      have := st.glob.ext e5;refine ⟨this.1,this.2.1,fun M hM => ?_⟩
      rcases ai_.1 hM with rfl | hM
      ·exact hli
      ·exact this.2.2 M hM
     have hY' : YOk { E with loops := ⟨nx s.sto + 1,s.tm,s.nt,ps,assign,body⟩ :: E.loops } (fun a => cond (Nat.beq a (nx s.sto + 1)) (some (Aeh E lf (RE E Y) ⟨nx s.sto + 1,s.tm,s.nt,ps,assign,body⟩)) (Y a)) := by
      intro a' h' hh;cases hb : Nat.beq a' (nx s.sto + 1) with
      | true =>
       simp only [hb,cond_true,ac_] at hh;subst hh;rw [aa_ hb];exact Ae0 hR hD lf (⟨nx s.sto + 1,s.tm,s.nt,ps,assign,body⟩ : RF)
      | false =>
       simp only [hb,cond_false] at hh;exact (hY a' h' hh).more _
     obtain ⟨⟨kfn,eu,hnm,ck⟩,b8⟩ := (hRE _ _ hY').fn k C4 W1 _ _ _ v J' s3 hgE bg c6
     have eo : ∀ args w,(callFunc k args).run E.P w = .ok (.enter k args) w := fun args w => by
      have g2' : kfn.name ≠ "runtime.NumGoroutine" := by simpa using hnm
      have g3' : kfn.body ≠ none := fun hh => by rw [hh] at ck; cases ck
      have eu : E.P.funcs[k]? = some kfn := eu
      simp [callFunc,eu,g2',g3']
     refine ⟨w.heap.size + 1,[{ target := .collected w.heap.size,args := #[] }],W1,{ target := .fn (.func k) lb,args := #[.func (.yield (w.heap.size + 1)) #[] #[]] },W1,k,
      #[.func (.yield (w.heap.size + 1)) #[] #[]] ++ lb,W1,?_,?_,fun _ _ => trivial,?_,fun hh => (by cases hh),?_⟩
     ·rw [← hW1,← hW0,hrc]; exact run_enterLoop_outer _ _ _ _ _
     ·simp only [resolve,hV]
      simp [go_sem]
     ·simp [invoke,go_sem,eo]
     ·refine (callsIn_wide).2 (b8.mono fun e w₃ he => ?_)
      cases e with
      | returned x =>
       obtain ⟨C₃,k1,k2,k3⟩ := he
       have cb := (k2.stm (nx s.sto) (by rw [hnx]; omega)).trans gc
       have jj := (k2.lr (nx s.sto + 1) (by rw [hnx]; omega)).trans gd
       obtain ⟨hn4,hk4⟩ := k2.keep w.heap.size Om hnD;have hd3 := hk4.trans er;obtain ⟨c,r,g1,g2,g3⟩ := k1.obj _ _ hgl;rw [jj] at g2;cases g2
       have hcl := k2.loc _ (by rw [hnx]; omega) _ g1
       rw [dm] at hcl;cases hcl;obtain ⟨m1,m2⟩ := k1.kill (nx s.sto + 1)
       have hnL : ¬ (C₃.del (nx s.sto + 1)).own (w.heap.size + 1) := fun hh => by
        rcases hh with hh | ⟨x,o,hh⟩
        ·exact k1.rdis _ _ _ g1 hh
        ·by_cases hx : x = nx s.sto + 1
         ·simp [Ctx.del,hx] at hh
         ·simp [Ctx.del,hx] at hh
          exact hx (k1.inj _ _ _ _ _ hh g1)
       have jk : ¬ (C₃.del (nx s.sto + 1)).own w.heap.size := fun hh => hn4 (by
        rcases hh with hh | ⟨x,o,hh⟩
        ·exact .inl hh
        ·by_cases hx : x = nx s.sto + 1
         ·simp [Ctx.del,hx] at hh
         ·simp [Ctx.del,hx] at hh; exact .inr ⟨x,o,hh⟩)
       have t : H8 w₃ (w₃.putObj (w.heap.size + 1) (.loop { C5 rc st' with state := .exhausted })) (w.heap.size + 1) := gp_ g3 rfl rfl;have e6 := ((e5.trans k2).trans m2).turnNew t hnL Om;rw [← By J' (nx s.sto + 1)] at e6
       have gg : SSt E (C₃.del (nx s.sto + 1)) (w₃.putObj (w.heap.size + 1) (.loop { C5 rc st' with state := .exhausted })) ⟨s.tm,s.nt,(Gh,[.yl (nx s.sto),.yl b]) :: s.df,J'.kill (nx s.sto + 1)⟩ { a with defers := [{ target := .collected w.heap.size,args := #[] }] ++ a.defers } := by
        refine ⟨m1.turn t hnL,st.glob.ext e6,st.tmps.ext e6,st.size,?_⟩
        show DR _ _ _ _ ({ target := Target.collected w.heap.size,args := #[] } :: a.defers)
        unfold DR;refine ⟨.inr ⟨rfl,nx s.sto,b,rfl,⟨?_,?_,?_⟩,?_,?_,?_,?_⟩,st.dfs.ext e6⟩
        ·show nx s.sto < nx (J'.kill _); rw [By]; have := k2.next; rw [hnx] at this; omega
        ·show b < nx (J'.kill _); rw [By]; have := k2.next; rw [hnx] at this; have := hi.1; omega
        ·show (C₃.stm b).toNat <= (C₃.stm (nx s.sto)).toNat
         have hb6 := e6.stm b hi.1;have hb6 : C₃.stm b = C.stm b := hb6;rw [cb,hb6,hi.2.1]; exact hi.2.2
        ·show _ = ({ target := .collected (C₃.stm (nx s.sto)).toNat,args := #[] } : Deferred); rw [cb]; rfl
        ·show ¬ (C₃.del _).own (C₃.stm (nx s.sto)).toNat; rw [cb]; exact jk
        ·show (w₃.putObj _ _).heap[(C₃.stm (nx s.sto)).toNat]? = _
         rw [cb];exact (t.other w.heap.size Om).trans hd3
        ·intro y hy hk c d hcd;obtain ⟨z1,z2⟩ := MB.of_DR st.dfs y hy hk c d hcd
         refine ⟨by have := e6.next; exact aq_ z1 this,?_⟩
         show (C₃.stm c).toNat < (C₃.stm (nx s.sto)).toNat
         have hb6 : C₃.stm c = C.stm c := e6.stm c z1;rw [cb,hb6]; exact z2
       cases st' with
       | ready =>
        cases h
        have dk := run_endLoop (P := E.P) g3 (by simp [C5])
        exact ⟨none,_,dk,_,bj_ _,_,rfl,gg,e6⟩
       | busy => cases h
       | done x =>
        have dk := run_endLoop (P := E.P) g3 (by simp [C5])
        cases x with
        | normal => cases h
        | ret => cases h; exact ⟨some .ret,_,dk,wpIn_ret ⟨_,bj_ _,_,rfl,gg,e6⟩⟩
        | exit id => cases h; exact ⟨some (.exit id),_,dk,wpIn_exit ⟨_,bj_ _,_,rfl,gg,e6⟩⟩
      | panicked _ => exact he.elim
      | outgrown => exact he.elim
    ·cases h
   ·cases h
 ·cases h
theorem Wv {b B : Nat} {fn : Func} {C₀ C₁ : Ctx} {N₀ : Nat} {w₀ : World} {tm : Tr AV} {tmps : Array Value} {τ : Sto} {vs : List AV} {rs : List (AV × Sto)} {v : AV} {J' : Sto} {n : Nat} (hB : B = w₀.heap.size) (hb : (C₁.stm b).toNat = B)
  (hvs : Th E.P tm τ fn.results.toList = some vs) (hz : (Tk vs,τ) ∈ rs) (h : Yp rs = some (v,J')) :
  ∀ (df : List (Nat × List AV)) (ds : List Deferred) (w : World),Mp b df = true -> DR C₁ (nx τ) w df ds -> Sim E.P C₁ w τ -> TR C₁ (nx τ) w tm tmps -> Ext C₀ N₀ w₀ C₁ (nx τ) w -> LeavesInM Fence.wide n E.P fn tmps (Akh E.P C₀ N₀ w₀ v J') ds .returning w
 | [],[],w,_,_,hs,ht,b7 => by
  show LeavesIn _ _ _ _ _ _ [] .returning _
  obtain ⟨y,k1,k2⟩ := Eb hs ht hvs;obtain ⟨C₃,q1,q2,q3⟩ := Ry h _ hz hs k2;exact ⟨y,k1,C₃,q1,b7.trans q2,q3⟩
 | [],_ :: _,_,_,hd,_,_,_ => by unfold DR at hd; exact hd.elim
 | _ :: _,[],_,_,hd,_,_,_ => by unfold DR at hd; exact hd.elim
 | x :: df,d :: ds,w,hm,hd,hs,ht,b7 => by
  unfold DR at hd;obtain ⟨hd,hd2⟩ := hd;obtain ⟨k,l⟩ := x
  have hk : k = Gh /\ ∃ aD,l = [.yl aD,.yl b] /\ Mp b df = true := by
   unfold Mp at hm
   split at hm
   ·rename_i heq; cases heq
   ·rename_i heq
    cases heq;simp only [ae_] at hm
    exact ⟨aa_ hm.1.1,_,by rw [aa_ hm.1.2],hm.2⟩
   ·cases hm
  obtain ⟨rfl,aD,rfl,hm'⟩ := hk
  rcases hd with ⟨h0,_⟩ | ⟨h0,a1,b1,h1,⟨h2,h3,h4⟩,h5,h6,h7,h8⟩
  ·exact absurd rfl h0
  ·simp only [de_,AV.yl.injEq,and_true] at h1;obtain ⟨rfl,rfl⟩ := h1;rw [h5]
   refine ⟨by simp,.inl ⟨_,_,rfl,run_takeDeferred h7,?_⟩⟩
   have t : H8 w (w.putObj (C₁.stm aD).toNat (.deferred none)) (C₁.stm aD).toNat := gp_ h7 rfl rfl
   have hge : w₀.heap.size <= (C₁.stm aD).toNat := by rw [← hB,← hb]; exact h4
   have dr : ∀ {r : List (Nat × List AV)} {ds : List Deferred},MB C₁ (nx τ) r (C₁.stm aD).toNat -> DR C₁ (nx τ) w r ds -> DR C₁ (nx τ) (w.putObj (C₁.stm aD).toNat (.deferred none)) r ds := by
    intro r
    induction r with
    | nil => intro ds _ h; cases ds <;> unfold DR at h ⊢ <;> first | trivial | exact h
    | cons x r ih =>
     intro ds hmb h;cases ds with
     | nil => unfold DR at h; exact h.elim
     | cons d ds =>
      unfold DR at h ⊢;refine ⟨?_,ih (fun y hy => hmb y (am_ _ hy)) h.2⟩
      rcases h.1 with ⟨g0,cap,g1,g2⟩ | ⟨g0,a,c,g1,g2,g3,g4,g5,g6⟩
      ·exact .inl ⟨g0,cap,g1,RL.turn t _ _ g2⟩
      ·refine .inr ⟨g0,a,c,g1,g2,g3,g4,?_,g6⟩;have := (hmb x (bn_ ..) g0 a c g1).2;rw [t.other _ Om]; exact g5
   exact Wv hB hb hvs hz h df ds _ hm' (dr h8 hd2) (hs.turn t h6) (fun i v hv => R.turn t _ _ (ht i v hv)) (b7.turnNew t h6 hge)
theorem A7.of_bodyM {RE : Anu} {Y : Nat -> Option Hnd} (hR : Ao E (RE E Y)) (hD : F7 E (RE E Y)) (hY : YOk E Y) (hRE : ∀ L Y',YOk { E with loops := L :: E.loops } Y' -> Ao { E with loops := L :: E.loops } (RE { E with loops := L :: E.loops } Y'))
  (cq : ∀ (f : Nat) (fn : Func), E.P.funcs[f]? = some fn -> (fn.name == "runtime.NumGoroutine") = false) (lf : Nat) {f : Nat} {fn : Func} (hfn : E.P.funcs[f]? = some fn) : A7 E f (Anv E lf RE Y fn) := by
 intro C w J args vs v J' hs hg bg h;unfold Anv at h
 split at h
 ·rename_i c hc
  cases hb : Nat.ble args.length fn.ntmps
  ·simp [hb] at h
  ·simp only [hb,cond_true] at h;have hle := ak_ hb;rw [Ag] at h
   split at h
   ·rename_i l hl
    refine ⟨⟨fn,hfn,cq f fn hfn,by rw [hc]; rfl⟩,?_⟩
    obtain ⟨s1,e1⟩ := hs.bump (w.heap.size : Int);rw [← Bi] at e1
    have hi : Hz (nx J) w.heap.size (C.addStm (nx J) (w.heap.size : Int)) (nx J.bump) w := ⟨by rw [Bi]; omega,by simp [Ctx.addStm],nl⟩
    refine (callsIn_wide (n := 1)).1 (callsIn_of_wp_marks hfn hc trivial (wpIn_mono (K9 (Inv := Hz (nx J) w.heap.size) (ro := none) (n := 1) (fun h e => h.ext e) hR hD lf
     (fun f ps x y C w s a l hi st h => Ae1 hR hD hY hRE lf _ _ 1 f ps x y C w s a l hi st h) c (C.addStm (nx J) (w.heap.size : Int)) w _ _ l (.inl rfl) hi
     (L8 s1 (hg.ext e1) (RL.ext e1 _ _ bg) hle) hl) fun e a' w' hq => ?_))
    obtain ⟨y,hy,C₁,hye,hst,b7⟩ := hq;obtain ⟨x,s⟩ := y;subst hye;unfold Asa at h
    split at h
    ·rename_i rs hrs
     obtain ⟨z,hz,en⟩ := K8 hrs _ (ck_ hy)
     have fin : x = .normal ∨ x = .ret -> LeavesInM Fence.wide 1 E.P fn a'.tmps (Akh E.P C (nx J) w v J') a'.defers .returning w' := by
      intro hx;have cz : (match Th E.P s.tm s.sto fn.results.toList with
       | some vs => cond (Mp (nx J) s.df) (some (Tk vs,s.sto)) none
       | none => none) = some z := by rcases hx with rfl | rfl <;> exact en
      split at cz
      ·rename_i vs₁ hvs
       cases hmk : Mp (nx J) s.df
       ·simp [hmk] at cz
       ·simp only [hmk,cond_true,ac_] at cz;subst cz;exact Wv rfl (hi.ext b7).2.1 hvs hz h s.df a'.defers w' hmk hst.dfs hst.sim hst.tmps (e1.trans b7)
      ·cases cz
     cases x with
     | normal => exact fin (.inl rfl)
     | ret => exact fin (.inr rfl)
     | exit id => simp [finM] at en
    ·cases h
   ·cases h
 ·cases h
theorem Ww (hm : E.P.follows .mixedOrders = true) (hDr : ∀ l Rr, Ao { E with loops := l } Rr -> F7 { E with loops := l } Rr) (cq : ∀ (f : Nat) (fn : Func), E.P.funcs[f]? = some fn -> (fn.name == "runtime.NumGoroutine") = false)
  (hmk : E.dsum Gh = none) (hpu : ∀ f,E.pu f = true -> ∃ s,E.sum f = some s /\ ∀ args,D4 (s args)) (lf : Nat) : ∀ (n : Nat) (E' : Env),(∃ l,E' = { E with loops := l }) -> E'.P = E.P -> E'.dsum = E.dsum -> (∀ f s,E'.sum f = some s -> A7 E' f s) -> (∀ f d,E'.dsum f = some d -> Aex E' f d) -> ∀ Y,YOk E' Y -> Ao E' (Oz lf n E' Y)
 | 0,_,_,_,_,_,_,_,_ => do_
 | n + 1,E',hl,hP,hds,gm,cu,Y,hY => by
  have ih := Ww hm hDr cq hmk hpu lf n;have hR := ih E' hl hP hds gm cu Y hY
  have iu : ∀ (f : Nat) (fn : Func), E'.P.funcs[f]? = some fn -> (fn.name == "runtime.NumGoroutine") = false := by rw [hP]; exact cq
  have hD : F7 E' (Oz lf n E' Y) := by
   obtain ⟨l,rfl⟩ := hl;exact hDr l _ hR
  have more : ∀ (L : RF) {C : Ctx} {N : Nat} {w : World},Fo C N w { E' with loops := L :: E'.loops } -> Fo C N w E' := fun L {C N w} h => ⟨h.1,h.2.1,fun M hM => h.2.2 M (am_ _ hM)⟩
  have hRE : ∀ L Y',YOk { E' with loops := L :: E'.loops } Y' -> Ao { E' with loops := L :: E'.loops } (Oz lf n { E' with loops := L :: E'.loops } Y') := fun L Y' hY' =>
   ih { E' with loops := L :: E'.loops } (by obtain ⟨l,rfl⟩ := hl; exact ⟨L :: l,rfl⟩) hP hds (fun f s hs C w J args vs v J' q1 q2 => gm f s hs C w J args vs v J' q1 (more L q2)) (fun f d hd C w J args vs J' q1 q2 => cu f d hd C w J args vs J' q1 (more L q2)) Y' hY'
  refine ⟨fun f => ?_,fun a => ?_,fun f hf args => ?_⟩
  ·intro C w J args vs v J' hs hg bg h;simp only [Oz] at h
   split at h
   ·rename_i g hg'; exact gm f g hg' C w J args vs v J' hs hg bg h
   ·split at h
    ·rename_i fn hfn
     split at h
     ·exact A7.of_bodyM (RE := Oz lf n) hR hD hY hRE iu lf hfn C w J args vs v J' hs hg bg h
     ·exact A7.of_body hR hD iu (by rw [hds]; exact hmk) cu lf hfn C w J args vs v J' hs hg bg h
    ·cases h
  ·intro C w J args vs v J' hs hg bg h;simp only [Oz] at h
   split at h
   ·rename_i g hg'; exact hY a g hg' C w J args vs v J' hs hg bg h
   ·cases h
  ·obtain ⟨l,rfl⟩ := hl;obtain ⟨s,h1,h2⟩ := hpu f hf;intro J J' v h
   have e : ∀ τ,Oz lf (n + 1) { E with loops := l } Y (.fn f) args τ = s args τ := fun τ => by
    simp only [Oz];have h1' : ({ E with loops := l } : Env).sum f = some s := h1;rw [h1']
   rw [e] at h;obtain ⟨k1,k2⟩ := h2 args J J' v h
   exact ⟨k1,fun τ => by rw [e]; exact k2 τ⟩
theorem Ft (hm : E.P.follows .mixedOrders = true) (hDr : ∀ l Rr, Ao { E with loops := l } Rr -> F7 { E with loops := l } Rr) (cq : ∀ (f : Nat) (fn : Func), E.P.funcs[f]? = some fn -> (fn.name == "runtime.NumGoroutine") = false)
  (gm : ∀ f s,E.sum f = some s -> A7 E f s) (hmk : E.dsum Gh = none) (cu : ∀ f d,E.dsum f = some d -> Aex E f d) (lf n : Nat) (hpu : ∀ f,E.pu f = true -> ∃ s,E.sum f = some s /\ ∀ args,D4 (s args) := by intro f h; exact absurd (show false = true from h) (by decide)) : Ao E (Dy E lf n) :=
 Ww hm hDr cq hmk hpu lf n E ⟨E.loops,rfl⟩ rfl rfl gm cu _ fun _ _ h => by cases h
end
section
mutual
def AV.und (N : Nat) : AV -> Bool
 | .pr a _ => Nat.blt a N
 | .sr a _ _ _ _ => Nat.blt a N
 | .mp a => Nat.blt a N
 | .it a => Nat.blt a N
 | .stp a => Nat.blt a N
 | .yl a => Nat.blt a N
 | .pv cs => AV.unds N cs
 | .sv cs _ _ _ => AV.unds N cs
 | .fn _ p q => AV.unds N p && AV.unds N q
 | .ifc _ x => AV.und N x
 | .agg cs => AV.unds N cs
 | .tup vs => AV.unds N vs
 | _ => true
def AV.unds (N : Nat) : List AV -> Bool
 | [] => true
 | x :: r => AV.und N x && AV.unds N r
end
structure Ai7 (C' C : Ctx) : Prop where
 loc : ∀ a p,C'.loc a = some p -> C.loc a = some p
 stm : C'.stm = C.stm
 lr : C'.lr = C.lr
 res : C'.res = C.res
section
variable {C : Ctx} {N M : Nat} {w : World}
theorem C6 {a N : Nat} (h : a < N) : Nat.blt a N = true := by simpa using h
theorem Fu {a N : Nat} (h : Nat.blt a N = true) : a < N := by simpa using h
mutual
theorem R.und : ∀ (x : AV) (v : Value),R C N w x v -> AV.und N x = true
 | .any,_,_ => rfl
 | .bool _,_,_ => rfl
 | .int _ _,_,_ => rfl
 | .str _,_,_ => rfl
 | .nil _,_,_ => rfl
 | .flt _ _,_,_ => rfl
 | .pr a _,v,h => by unfold R at h; obtain ⟨_,_,h,_⟩ := h; exact C6 h
 | .sr a _ _ _ _,v,h => by unfold R at h; obtain ⟨_,_,_,h,_⟩ := h; exact C6 h
 | .mp a,v,h => by unfold R at h; obtain ⟨_,_,h,_⟩ := h; exact C6 h
 | .it a,v,h => by unfold R at h; obtain ⟨_,_,h,_⟩ := h; exact C6 h
 | .stp a,v,h => by unfold R at h; exact C6 h.2
 | .yl a,v,h => by unfold R at h; exact C6 h.2
 | .pv cs,v,h => by unfold R at h; obtain ⟨c,o,_,_,h⟩ := h; exact RC.unds cs c o h
 | .sv cs sz len cap,v,h => by
  unfold R at h;obtain ⟨ado,k,_,h1,_,h2,h3,h4⟩ := h;cases ado with
  | none =>
   have hk := h3 rfl
   have hl : len = 0 := by omega
   rw [hl,em_] at h2;have := bk_ h2;subst this; rfl
  | some ad => exact RC.unds cs _ _ (h4 ad rfl).2.2
 | .fn _ p q,v,h => by
  unfold R at h; obtain ⟨a,b,_,h1,h2⟩ := h;simp only [AV.und,ae_]; exact ⟨RL.unds p _ h1,RL.unds q _ h2⟩
 | .ifc _ x,v,h => by unfold R at h; obtain ⟨y,_,h⟩ := h; exact R.und x y h
 | .agg cs,v,h => by unfold R at h; obtain ⟨a,_,h,_⟩ := h; exact RL.unds cs _ h
 | .tup vs,v,h => by unfold R at h; obtain ⟨a,_,h⟩ := h; exact RL.unds vs _ h
theorem RC.unds : ∀ (cs : List AV) (c o : Nat),RC C N w c cs o -> AV.unds N cs = true
 | [],_,_,_ => rfl
 | x :: r,c,o,h => by
  unfold RC at h;obtain ⟨⟨v,_,_,h1⟩,h2⟩ := h;simp only [AV.unds,ae_]; exact ⟨R.und x v h1,RC.unds r c (o + 1) h2⟩
theorem RL.unds : ∀ (l : List AV) (vs : List Value),RL C N w l vs -> AV.unds N l = true
 | [],[],_ => rfl
 | x :: r,v :: s,h => by
  unfold RL at h;simp only [AV.unds,ae_]; exact ⟨R.und x v h.1,RL.unds r s h.2⟩
 | [],_ :: _,h => by unfold RL at h; exact h.elim
 | _ :: _,[],h => by unfold RL at h; exact h.elim
end
theorem Ai7.own {C' : Ctx} (k : Ai7 C' C) {c : Nat} (h : C'.own c) : C.own c := by
 rcases h with h | ⟨a,o,h⟩
 ·exact .inl (by rw [← k.res]; exact h)
 ·exact .inr ⟨a,o,k.loc a _ h⟩
variable {C' : Ctx}
mutual
theorem R.cut (k : Ai7 C' C) : ∀ (x : AV) (v : Value),AV.und M x = true -> R C N w x v -> R C' M w x v
 | .any,_,_,_ => by unfold R; trivial
 | .bool _,_,_,h => by unfold R at *; exact h
 | .int _ _,_,_,h => by unfold R at *; exact h
 | .str _,_,_,h => by unfold R at *; exact h
 | .nil _,_,_,h => by unfold R at *; exact h
 | .flt _ _,_,_,h => by unfold R at *; exact h
 | .pr a _,v,b,h => by
  unfold R at *; obtain ⟨ad,h1,h2,h3⟩ := h;exact ⟨ad,h1,Fu b,fun c o hc => h3 c o (k.loc _ _ hc)⟩
 | .sr a _ _ _ _,v,b,h => by
  unfold R at *; obtain ⟨ad,kk,h1,h2,h3,h4,h5⟩ := h;exact ⟨ad,kk,h1,Fu b,h3,h4,fun c o hc => h5 c o (k.loc _ _ hc)⟩
 | .mp a,v,b,h => by
  unfold R at *; obtain ⟨c,h1,h2,h3⟩ := h;exact ⟨c,h1,Fu b,fun c' o hc => h3 c' o (k.loc _ _ hc)⟩
 | .it a,v,b,h => by
  unfold R at *; obtain ⟨c,h1,h2,h3⟩ := h;exact ⟨c,h1,Fu b,fun c' o hc => h3 c' o (k.loc _ _ hc)⟩
 | .stp a,v,b,h => by unfold R at *; rw [k.stm]; exact ⟨h.1,Fu b⟩
 | .yl a,v,b,h => by unfold R at *; rw [k.stm]; exact ⟨h.1,Fu b⟩
 | .pv cs,v,b,h => by
  unfold R at *; obtain ⟨c,o,h1,h2,h3⟩ := h;exact ⟨c,o,h1,fun hne ho => h2 hne (k.own ho),RC.cut k cs c o b h3⟩
 | .sv cs sz len cap,v,b,h => by
  unfold R at *;obtain ⟨ado,kk,h1,h2,h3,h4,h0,hh⟩ := h;refine ⟨ado,kk,h1,h2,h3,h4,h0,fun ad ha => ?_⟩
  obtain ⟨h5,h6,h7⟩ := hh ad ha;exact ⟨h5,fun hne ho => h6 hne (k.own ho),RC.cut k cs _ _ b h7⟩
 | .fn _ p q,v,b,h => by
  simp only [AV.und,ae_] at b;unfold R at *; obtain ⟨a,c,h1,h2,h3⟩ := h;exact ⟨a,c,h1,RL.cut k p _ b.1 h2,RL.cut k q _ b.2 h3⟩
 | .ifc _ x,v,b,h => by unfold R at *; obtain ⟨y,h1,h2⟩ := h; exact ⟨y,h1,R.cut k x y b h2⟩
 | .agg cs,v,b,h => by unfold R at *; obtain ⟨a,h1,h2,h3⟩ := h; exact ⟨a,h1,RL.cut k cs _ b h2,h3⟩
 | .tup vs,v,b,h => by unfold R at *; obtain ⟨a,h1,h2⟩ := h; exact ⟨a,h1,RL.cut k vs _ b h2⟩
theorem RC.cut (k : Ai7 C' C) : ∀ (cs : List AV) (c o : Nat),AV.unds M cs = true -> RC C N w c cs o -> RC C' M w c cs o
 | [],_,_,_,_ => by unfold RC; trivial
 | x :: r,c,o,b,h => by
  simp only [AV.unds,ae_] at b;unfold RC at *;obtain ⟨⟨v,h1,h2,h3⟩,h4⟩ := h;exact ⟨⟨v,h1,h2,R.cut k x v b.1 h3⟩,RC.cut k r c (o + 1) b.2 h4⟩
theorem RL.cut (k : Ai7 C' C) : ∀ (l : List AV) (vs : List Value),AV.unds M l = true -> RL C N w l vs -> RL C' M w l vs
 | [],[],_,_ => by unfold RL; trivial
 | x :: r,v :: s,b,h => by
  simp only [AV.unds,ae_] at b;unfold RL at *;exact ⟨R.cut k x v b.1 h.1,RL.cut k r s b.2 h.2⟩
 | [],_ :: _,_,h => by unfold RL at h; exact h.elim
 | _ :: _,[],_,h => by unfold RL at h; exact h.elim
end
def H9 (N : Nat) (es : List (Key × AV)) : Bool := es.all fun x => AV.und N x.2
theorem ER.und : ∀ {es : List (Key × AV)} {L : List MapEntry},ER C N w es L -> H9 N es = true
 | [],[],_ => rfl
 | x :: r,f :: s,h => by
  unfold ER at h;simp only [H9,dg_,ae_];exact ⟨R.und _ _ h.1.2,ER.und h.2⟩
 | [],_ :: _,h => by unfold ER at h; exact h.elim
 | _ :: _,[],h => by unfold ER at h; exact h.elim
theorem ER.cut (k : Ai7 C' C) : ∀ {es : List (Key × AV)} {L : List MapEntry},H9 M es = true -> ER C N w es L -> ER C' M w es L
 | [],[],_,_ => by unfold ER; trivial
 | x :: r,f :: s,b,h => by
  simp only [H9,dg_,ae_] at b;unfold ER at *;exact ⟨⟨h.1.1,R.cut k _ _ b.1 h.1.2⟩,ER.cut k b.2 h.2⟩
 | [],_ :: _,_,h => by unfold ER at h; exact h.elim
 | _ :: _,[],_,h => by unfold ER at h; exact h.elim
end
mutual
inductive Fz (J τ : Sto) : AV -> AV -> Prop
 | same {v : AV} : AV.und (nx τ) v = true -> Fz J τ v v
 | any {v : AV} : Fz J τ v .any
 | pr {a off : Nat} {vs l : List AV} : J.get a = some (.cells vs) -> τ.get a = none -> FzL J τ (vs.drop off) l -> Fz J τ (.pr a off) (.pv l)
 | sr {a off sz len : Nat} {cap : Option Nat} {vs cs l : List AV} : J.get a = some (.cells vs) -> τ.get a = none -> Di (len * sz) (vs.drop off) = some cs -> FzL J τ cs l -> Fz J τ (.sr a off sz len cap) (.sv l sz len none)
 | nils {sz : Nat} {cap : Option Nat} : (∀ q,cap = some q -> q = 0) -> Fz J τ (.nil (.slice none 0 0)) (.sv [] sz 0 cap)
 | agg {a b : List AV} : FzL J τ a b -> Fz J τ (.agg a) (.agg b)
 | tup {a b : List AV} : FzL J τ a b -> Fz J τ (.tup a) (.tup b)
 | sv {a b : List AV} {sz len : Nat} {cap cap' : Option Nat} : (∀ q,cap' = some q -> cap = some q) -> FzL J τ a b -> Fz J τ (.sv a sz len cap) (.sv b sz len cap')
inductive FzL (J τ : Sto) : List AV -> List AV -> Prop
 | nil : FzL J τ [] []
 | cons {x y : AV} {r s : List AV} : Fz J τ x y -> FzL J τ r s -> FzL J τ (x :: r) (y :: s)
end
theorem FzL.length {J τ : Sto} : ∀ {a b : List AV},FzL J τ a b -> a.length = b.length
 | _,_,.nil => rfl
 | _,_,.cons _ h => by simp [FzL.length h]
theorem FzL.same {J τ : Sto} : ∀ {a : List AV},AV.unds (nx τ) a = true -> FzL J τ a a
 | [],_ => .nil
 | x :: r,h => by simp only [AV.unds,ae_] at h; exact .cons (.same h.1) (FzL.same h.2)
abbrev fy_ := @FzL.same
section
variable {P : Program} {C : Ctx} {w : World} {J τ : Sto}
theorem Ctx.keep_sub (C : Ctx) (τ : Sto) : Ai7 (C.keep τ) C := by
 refine ⟨fun a p h => ?_,rfl,rfl,rfl⟩
 simp only [Ctx.keep] at h
 split at h
 ·exact h
 ·cases h
theorem Sim.freed (h : Sim P C w J) {a c o : Nat} (hl : C.loc a = some (c,o)) (ht : τ.get a = none) : ¬ (C.keep τ).own c := by
 rintro (hr | ⟨b,o',hb⟩)
 ·exact h.rdis a c o hl hr
 ·simp only [Ctx.keep] at hb
  split at hb
  ·rename_i hs
   have := h.inj a b c o o' hl hb;subst this;rw [ht] at hs; cases hs
  ·cases hb
mutual
theorem Fz.R (h : Sim P C w J) : ∀ {v v' : AV} {x : Value},Fz J τ v v' -> R C (nx J) w v x -> R (C.keep τ) (nx τ) w v' x
 | v,_,x,.same hu,hr => R.cut (C.keep_sub τ) v x hu hr
 | v,_,x,.any,hr => by unfold AM.R; trivial
 | .pr a off,_,x,.pr (vs := vs) (l := l) hg ht hl,hr => by
  obtain ⟨c,o,cs,T,k1,k2,k3⟩ := h.obj a _ hg;unfold AM.R at hr ⊢;obtain ⟨ad,rfl,_,h3⟩ := hr;have := h3 c o k1;subst this;exact ⟨c,o + off,rfl,fun _ => h.freed k1 ht,FzL.RC h hl (k3.drop off)⟩
 | .sr a off sz len cap,_,x,.sr (vs := vs) (cs := cs) (l := l) hg ht hk hl,hr => by
  obtain ⟨c,o,cs₀,T,k1,k2,k3⟩ := h.obj a _ hg;unfold AM.R at hr ⊢;obtain ⟨ad,k,rfl,_,h4,h5,h6⟩ := hr;obtain ⟨q1,q2⟩ := h6 c o k1;obtain ⟨t1,t2⟩ := Gt hk
  have bn : l.length = len * sz := by rw [← hl.length]; exact t2
  refine ⟨some ad,k,rfl,h4,fun q hq => (by cases hq),bn,fun hh => (by cases hh),fun ad' ha => ?_⟩
  cases ha
  have dt : l ≠ [] -> 0 < k := fun hne => by
   rcases cq_ len with h0 | h0
   ·rw [h0,em_] at bn; exact absurd (bk_ bn) hne
   ·omega
  refine ⟨fun hk => by rw [q1 hk],fun hne => by rw [q1 (dt hne)]; exact h.freed k1 ht,?_⟩
  by_cases hne : l = []
  ·subst hne; unfold AM.RC; trivial
  ·rw [q1 (dt hne)];exact FzL.RC h hl ((k3.drop off).take _ hk)
 | _,_,x,.nils (sz := sz) hc,hr => by
  unfold AM.R at hr ⊢;obtain ⟨rfl,_⟩ := hr
  exact ⟨none,0,rfl,nl,fun q hq => (hc q hq).symm,by simp,fun _ => rfl,fun ad ha => by cases ha⟩
 | _,_,x,.agg hl,hr => by
  unfold AM.R at hr ⊢;obtain ⟨a,h1,h2,h3⟩ := hr;exact ⟨a,h1,FzL.RL h hl h2,h3⟩
 | _,_,x,.tup hl,hr => by
  unfold AM.R at hr ⊢;obtain ⟨a,h1,h2⟩ := hr;exact ⟨a,h1,FzL.RL h hl h2⟩
 | _,_,x,.sv (a := a) (b := b) hc hl,hr => by
  unfold AM.R at hr ⊢;obtain ⟨ado,k,h1,h2,h3,h4,h5,h6⟩ := hr
  refine ⟨ado,k,h1,h2,fun q hq => h3 q (hc q hq),by rw [← hl.length]; exact h4,h5,fun ad ha => ?_⟩
  obtain ⟨q1,q2,q3⟩ := h6 ad ha;refine ⟨q1,fun hne ho => q2 (fun h0 => ?_) ((C.keep_sub τ).own ho),FzL.RC h hl q3⟩
  have := hl.length;rw [h0] at this;exact hne (bk_ this.symm)
theorem FzL.RL (h : Sim P C w J) : ∀ {l l' : List AV} {xs : List Value},FzL J τ l l' -> RL C (nx J) w l xs -> RL (C.keep τ) (nx τ) w l' xs
 | _,_,[],.nil,hr => by unfold AM.RL; trivial
 | _,_,_ :: _,.nil,hr => by unfold AM.RL at hr; exact hr.elim
 | _,_,[],.cons _ _,hr => by unfold AM.RL at hr; exact hr.elim
 | _,_,x :: xs,.cons h1 h2,hr => by unfold AM.RL at hr ⊢; exact ⟨Fz.R h h1 hr.1,FzL.RL h h2 hr.2⟩
theorem FzL.RC (h : Sim P C w J) : ∀ {l l' : List AV} {c o : Nat},FzL J τ l l' -> RC C (nx J) w c l o -> RC (C.keep τ) (nx τ) w c l' o
 | _,_,_,_,.nil,hr => by unfold AM.RC; trivial
 | _,_,c,o,.cons h1 h2,hr => by
  unfold AM.RC at hr ⊢;obtain ⟨⟨v,k1,k2,k3⟩,k4⟩ := hr;exact ⟨⟨v,k1,k2,Fz.R h h1 k3⟩,FzL.RC h h2 k4⟩
end
def Amf (J τ : Sto) : List (Key × AV) -> List (Key × AV) -> Prop
 | [],[] => True
 | x :: r,y :: s => x.1 = y.1 /\ Fz J τ x.2 y.2 /\ Amf J τ r s
 | _,_ => False
theorem Amf.ER (h : Sim P C w J) : ∀ {l l' : List (Key × AV)} {L : List MapEntry},Amf J τ l l' -> ER C (nx J) w l L -> ER (C.keep τ) (nx τ) w l' L
 | [],[],[],_,_ => by unfold AM.ER; trivial
 | [],[],_ :: _,_,hr => by unfold AM.ER at hr; exact hr.elim
 | _ :: _,_ :: _,[],_,hr => by unfold AM.ER at hr; exact hr.elim
 | x :: r,y :: s,f :: L,hf,hr => by
  obtain ⟨h1,h2,h3⟩ := hf;unfold AM.ER at hr ⊢
  exact ⟨⟨by rw [← h1]; exact hr.1.1,h2.R h hr.1.2⟩,Amf.ER h h3 hr.2⟩
 | [],_ :: _,_,hf,_ => hf.elim
 | _ :: _,[],_,hf,_ => hf.elim
def AO.und (N : Nat) : AO -> Bool
 | .cells vs => AV.unds N vs
 | .map _ es _ => H9 N es
 | .iter m _ _ _ => match m with | none => true | some r => Nat.blt r N
 | .stamp m _ _ => Nat.blt m N
 | .loop _ => true
def Ai8 (N : Nat) : Option (Key × AV) -> Bool
 | none => true
 | some x => AV.und N x.2
def Ai9 (τ : Sto) : AO -> Prop
 | .iter (some r) ver left cur => ∀ kt es,τ.get r = some (.map kt es ver) -> H9 (nx τ) left = true /\ Ai8 (nx τ) cur = true
 | _ => True
inductive FzO (J τ : Sto) : AO -> AO -> Prop
 | iter {m : Option Nat} {ver : Nat} {left : List (Key × AV)} {cur : Option (Key × AV)} : AO.und (nx τ) (.iter m ver left cur) = true -> Ai9 τ (.iter m ver left cur) -> FzO J τ (.iter m ver left cur) (.iter m ver left cur)
 | stamp {m ver : Nat} {k : Key} : AO.und (nx τ) (.stamp m ver k) = true -> FzO J τ (.stamp m ver k) (.stamp m ver k)
 | cells {a b : List AV} : FzL J τ a b -> FzO J τ (.cells a) (.cells b)
 | map {kt ver : Nat} {a b : List (Key × AV)} : Amf J τ a b -> FzO J τ (.map kt a ver) (.map kt b ver)
 | loop {st : LS} : FzO J τ (.loop st) (.loop st)
def Hl (J τ : Sto) : Prop := nx τ <= nx J /\ ∀ a O,τ.get a = some O -> a < nx τ /\ ∃ O₀,J.get a = some O₀ /\ FzO J τ O₀ O
theorem Sim.frz (h : Sim P C w J) (hf : Hl J τ) : Sim P (C.keep τ) w τ := by
 have k := C.keep_sub τ;refine ⟨fun a O ha => ?_,fun a O ha => (hf.2 a O ha).1,fun a p hp => ?_,fun a b c o o' ha hb => h.inj a b c o o' (k.loc _ _ ha) (k.loc _ _ hb),
  fun a c o ha => h.lt a c o (k.loc _ _ ha),h.rlt,fun a c o ha => h.rdis a c o (k.loc _ _ ha)⟩
 ·obtain ⟨h1,O₀,h2,h3⟩ := hf.2 a O ha;have ho := h.obj a O₀ h2
  have hk : (C.keep τ).loc a = C.loc a := by simp [Ctx.keep,ha]
  cases h3 with
  | cells hl =>
   obtain ⟨c,o,cs,T,k1,k2,k3⟩ := ho;exact ⟨c,o,cs,T,hk.trans k1,k2,hl.RC h k3⟩
  | map hl =>
   obtain ⟨c,E,clock,k1,k2,k3⟩ := ho;exact ⟨c,E,clock,hk.trans k1,k2,k3.typed,let ⟨L,q1,q2⟩ := k3.perm; ⟨L,q1,hl.ER h q2⟩,k3.keys,k3.born,k3.apart⟩
  | loop =>
   obtain ⟨c,r,k1,k2,k3⟩ := ho;exact ⟨c,r,hk.trans k1,k2,k3⟩
  | stamp hu =>
   obtain ⟨k0,k1⟩ := ho
   rename_i m ver ky
   refine ⟨Fu hu,fun kt es ver' hg => ?_⟩
   obtain ⟨_,O₁,g1,g2⟩ := hf.2 m _ hg;cases g2 with
   | map hl =>
    obtain ⟨q1,q2⟩ := k1 _ _ _ g1;refine ⟨q1,fun hv => ?_⟩
    obtain ⟨cm,E,clock,p1,p2,p3⟩ := q2 hv
    exact ⟨cm,E,clock,by simp [Ctx.keep,hg,p1],p2,p3⟩
  | iter u1 hu =>
   rename_i m ver left cur
   cases m with
   | none =>
    obtain ⟨c,since,seen,last,k1,k2,k3⟩ := ho;exact ⟨c,since,seen,last,hk.trans k1,k2,k3⟩
   | some m =>
    obtain ⟨k0,c,cm,since,seen,last,k1,k2,k3⟩ := ho;refine ⟨Fu u1,c,cm,since,seen,last,hk.trans k1,k2,fun kt es ver' hg => ?_⟩
    obtain ⟨_,O₁,g1,g2⟩ := hf.2 m _ hg;cases g2 with
    | map hl =>
     obtain ⟨q1,q2⟩ := k3 _ _ _ g1;refine ⟨q1,fun hv => ?_⟩
     subst hv;obtain ⟨u2,u3⟩ := hu _ _ hg;obtain ⟨E,p1,p2,p3,⟨L,p4,p5⟩,p6⟩ := q2 rfl
     refine ⟨E,by simp [Ctx.keep,hg,p1],p2,p3,⟨L,p4,ER.cut k u2 p5⟩,fun ky x hx => ?_⟩
     obtain ⟨f,f1,f2,f3,f4⟩ := p6 ky x hx;subst hx;exact ⟨f,f1,f2,f3,R.cut k _ _ u3 f4⟩
 ·have hs : (τ.get a).isSome = true := by
   simp only [Ctx.keep] at hp
   split at hp
   ·assumption
   ·cases hp
  obtain ⟨O,hO⟩ := bp_.1 hs;obtain ⟨_,O₀,h2,h3⟩ := hf.2 a O hO;obtain ⟨O₁,h4,h5⟩ := h.dom a p (k.loc a p hp);rw [h2] at h4; cases h4;refine ⟨O,hO,?_⟩
  cases h3 <;> first | rfl | exact h5
def WFS (J : Sto) : Prop := ∀ a O,J.get a = some O -> a < nx J /\ AO.und (nx J) O = true /\ Ai9 J O
theorem Sim.wfs (h : Sim P C w J) : WFS J := by
 intro a O hg;refine ⟨h.bound a O hg,?_⟩;have ho := h.obj a O hg;cases O with
 | cells vs => obtain ⟨c,o,cs,T,_,_,k⟩ := ho; exact ⟨RC.unds _ _ _ k,trivial⟩
 | map kt es ver => obtain ⟨c,E,clock,_,_,k⟩ := ho; obtain ⟨L,_,q⟩ := k.perm; exact ⟨ER.und q,trivial⟩
 | stamp m ver k => exact ⟨C6 ho.1,trivial⟩
 | loop st => exact ⟨rfl,trivial⟩
 | iter m ver left cur =>
  cases m with
  | none => exact ⟨rfl,trivial⟩
  | some r =>
   obtain ⟨k0,c,cm,since,seen,last,k1,k2,k3⟩ := ho;refine ⟨C6 k0,fun kt es hr => ?_⟩
   obtain ⟨_,q2⟩ := k3 _ _ _ hr;obtain ⟨E,p1,p2,p3,⟨L,p4,p5⟩,p6⟩ := q2 rfl;refine ⟨ER.und p5,?_⟩;cases cur with
   | none => rfl
   | some x => obtain ⟨f,f1,f2,f3,f4⟩ := p6 x.1 x.2 rfl; exact R.und _ _ f4
theorem Zn (h : ∀ {v : AV},AV.und (nx τ) v = true -> Fz J τ v v) : ∀ {es : List (Key × AV)},H9 (nx τ) es = true -> Amf J τ es es
 | [],_ => trivial
 | x :: r,k => by
  simp only [H9,dg_,ae_] at k;exact ⟨rfl,h k.1,Zn h k.2⟩
theorem Hl.of_same (h : WFS τ) (hn : nx τ <= nx J) (hg : ∀ a,a < nx τ -> J.get a = τ.get a) : Hl J τ := by
 refine ⟨hn,fun a O ha => ?_⟩
 obtain ⟨h1,h2,h3⟩ := h a O ha;refine ⟨h1,O,(hg a h1).trans ha,?_⟩;cases O with
 | cells vs => exact .cells (fy_ h2)
 | map kt es ver => exact .map (Zn .same h2)
 | iter m ver left cur => exact .iter h2 h3
 | stamp m ver k => exact .stamp h2
 | loop st => exact .loop
abbrev ag_ := @Hl.of_same
theorem Ext.base {C' : Ctx} {N N' B : Nat} {w' : World} (h : Ext C N w C' N' w') (hB : B <= N) : Ext C B w C' B w' :=
 ⟨nl,h.size,h.keep,fun a ha => h.loc a Om,fun a ha => h.stm a Om,fun a ha => h.lr a Om,fun a ha => h.bsz a Om,h.res,h.os⟩
theorem Ext.top {C' : Ctx} {B N' : Nat} {w' : World} (h : Ext C B w C' B w') (hB : B <= N') : Ext C B w C' N' w' :=
 ⟨hB,h.size,h.keep,h.loc,h.stm,h.lr,h.bsz,h.res,h.os⟩
theorem Ext.keepB (C : Ctx) (τ : Sto) (B : Nat) (w : World) : Ext C B w (C.keep τ) B w :=
 ⟨nl,nl,fun b _ ho => ⟨fun hh => ho ((C.keep_sub τ).own hh),rfl⟩,fun a _ p hp => (C.keep_sub τ).loc a p hp,fun _ _ => rfl,fun _ _ => rfl,fun _ _ _ _ _ => rfl,⟨rfl,fun _ _ => rfl⟩,rfl,rfl⟩
abbrev fg_ := @Ext.keepB
end
end
end Go.AM
