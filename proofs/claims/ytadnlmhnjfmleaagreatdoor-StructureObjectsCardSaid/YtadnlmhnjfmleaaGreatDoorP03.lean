/- A part of the proof; shortened by program. -/
import Derived.Laws.Tables
import Derived.Laws.Append
import Derived.Test.YtadnlmhnjfmleaaGreatDoorP02
set_option maxRecDepth 100000
set_option maxHeartbeats 4000000
set_option linter.unusedSimpArgs false
set_option linter.unusedVariables false
namespace Go.AM
open Go
section
variable {P : Program} {C : Ctx} {N : Nat} {w : World}
def RO (C : Ctx) (N : Nat) (w : World) : Option AV -> Option Value -> Prop
 | none,none => True
 | some x,some v => R C N w x v
 | _,_ => False
theorem Gu {n y : Nat} {k : IntKind} {code : BoundsCode} (h : n <= y) : (Instr.sliceBound (.int k (n : Int)) y code).run P w = .ok n w := by
 unfold Instr.sliceBound;simp only [asIntOf,Sem.run_bind,Sem.run_pure,Result.andThen_ok]
 rw [if_pos ⟨by omega,by omega⟩]
 simp
theorem Gv {len cap k : Nat} {acap : Option Nat} (hk : len <= k) (fp : ∀ q,acap = some q -> k = q) {lo hi mx : Option AV} {LO HI MX : Option Value} (h1 : RO C N w lo LO) (h2 : RO C N w hi HI) (h3 : RO C N w mx MX)
  {l h : Nat} {c : Option Nat} (hb : C1 len acap lo hi mx = some (l,h,c)) (sl : Bool) :
  ∃ m,(Instr.sliceBounds sl len k LO HI MX).run P w = .ok (l,h,m) w /\ l <= h /\ h <= m /\ m <= k /\ (∀ q,c = some q -> m - l = q) /\ (mx = none -> m = k /\ c = Ox acap l) := by
 have fy : ∀ n,Ow len acap n = true -> n <= k := fun n hn => by
  unfold Ow at hn;cases hb : Nat.ble n len
  ·simp only [hb,cond_false] at hn
   split at hn
   ·rename_i q; have := fp q rfl; have := ak_ hn; omega
   ·cases hn
  ·have := ak_ hb; omega
 unfold C1 at hb
 split at hb
 ·rename_i l' h' hl hh
  have hLO : (LO = none /\ l' = 0) ∨ ∃ kk,LO = some (.int kk (l' : Int)) := by
   cases lo with
   | none =>
    cases LO with
    | none => simp at hl; exact .inl ⟨rfl,hl.symm⟩
    | some _ => unfold RO at h1; exact h1.elim
   | some v =>
    cases LO with
    | none => unfold RO at h1; exact h1.elim
    | some V =>
     unfold RO at h1;simp only at hl;obtain ⟨kk,rfl⟩ := Rq hl h1;exact .inr ⟨kk,rfl⟩
  have hHI : (hi = none /\ HI = none /\ h' = len) ∨ ∃ kk,HI = some (.int kk (h' : Int)) := by
   cases hi with
   | none =>
    cases HI with
    | none => simp at hh; exact .inl ⟨rfl,rfl,hh.symm⟩
    | some _ => unfold RO at h2; exact h2.elim
   | some v =>
    cases HI with
    | none => unfold RO at h2; exact h2.elim
    | some V =>
     unfold RO at h2;simp only at hh;obtain ⟨kk,rfl⟩ := Rq hh h2;exact .inr ⟨kk,rfl⟩
  split at hb
  ·have hMX : MX = none := by
    cases MX with
    | none => rfl
    | some _ => unfold RO at h3; exact h3.elim
   subst hMX;cases hc : (Nat.ble l' h' && Ow len acap h')
   ·simp [hc] at hb
   ·simp only [hc,cond_true,ac_,ax_] at hb;obtain ⟨rfl,rfl,rfl⟩ := hb;simp only [ae_] at hc;have hle := ak_ hc.1;have hk' := fy h' hc.2;refine ⟨k,?_,hle,hk',nl,fun q hq => ?_,fun _ => ⟨rfl,rfl⟩⟩
    ·unfold Instr.sliceBounds
     rcases hHI with ⟨_,rfl,rfl⟩ | ⟨kk,rfl⟩ <;> rcases hLO with ⟨rfl,rfl⟩ | ⟨kk',rfl⟩ <;>
      simp only [Sem.run_bind,Sem.run_pure,Result.andThen_ok,Gu hk',Gu hle]
    ·unfold Ox at hq
     split at hq
     ·rename_i q'; cases hq; have := fp q' rfl; omega
     ·cases hq
  ·rename_i mv
   split at hb
   ·rename_i m hv hm
    have hMX : ∃ kk,MX = some (.int kk (m : Int)) := by
     cases MX with
     | none => unfold RO at h3; exact h3.elim
     | some V => unfold RO at h3; obtain ⟨kk,rfl⟩ := Rq hm h3; exact ⟨kk,rfl⟩
    obtain ⟨k3,rfl⟩ := hMX;cases hc : (Nat.ble l' h' && Nat.ble h' m && Ow len acap m)
    ·simp [hc] at hb
    ·simp only [hc,cond_true,ac_,ax_] at hb;obtain ⟨rfl,rfl,rfl⟩ := hb;simp only [ae_] at hc;have hle := ak_ hc.1.1;have ji := ak_ hc.1.2;have hk' := fy m hc.2
     refine ⟨m,?_,hle,ji,hk',fun q hq => by cases hq; rfl,fun hh => by cases hh⟩
     unfold Instr.sliceBounds
     rcases hHI with ⟨hn,_,_⟩ | ⟨kk,rfl⟩
     ·cases hn
     ·rcases hLO with ⟨rfl,rfl⟩ | ⟨kk',rfl⟩ <;>
       simp only [Sem.run_bind,Sem.run_pure,Result.andThen_ok,Gu hk',Gu hle,Gu ji]
   ·cases hb
 ·cases hb
theorem Aei {J J' : Sto} {t e : TypeId} {ti te : TI} (hti : Aw P t = some ti) (hd : ti.desc = .slice e) (hte : Aw P e = some te) {x : AV} {X : Value} (hx : R C N w x X) {lo hi mx : Option AV} {LO HI MX : Option Value}
  (h1 : RO C N w lo LO) (h2 : RO C N w hi HI) (h3 : RO C N w mx MX) {v : AV} (h : Ml te.size x lo hi mx J = some (v,J')) : J' = J /\ Cp P C N w (Instr.sliceAt t X LO HI MX) v := by
 obtain ⟨_,d,_,g2,g3,_⟩ := Al hti;obtain ⟨ei,_,e1,_,_,e4,_⟩ := Al hte
 have hu := g2.trans (by rw [← g3,hd])
 unfold Ml at h
 split at h
 ·rename_i a off sz len cap
  split at h
  ·rename_i hsz
   split at h
   ·rename_i l hh c hb
    simp only [Ag,ac_,ax_] at h;obtain ⟨rfl,rfl⟩ := h;refine ⟨rfl,?_⟩;unfold R at hx;obtain ⟨ad,k,rfl,q1,q2,q3,q4⟩ := hx;obtain ⟨m,b1,b2,b3,b4,b5,_⟩ := Gv (P := P) (cap := 0) q2 q3 h1 h2 h3 hb true
    have hs : sz = ei.size := by rw [← e4]; exact aa_ hsz
    refine ⟨.slice (if m = l then some ad else some (ad.add (l * ei.size))) (hh - l) (m - l),?_,?_⟩
    ·unfold Instr.sliceAt;simp only [Sem.run_bind,Aa hu,Result.andThen_ok];unfold Instr.slice;simp only [Sem.run_bind,Aa hu,Result.andThen_ok,b1,Ax e1,Sem.run_pure,df_]
    ·unfold R
     refine ⟨if m = l then ad else ad.add (l * ei.size),m - l,by split <;> rfl,q1,by omega,b5,fun c' o hc => ?_⟩
     obtain ⟨q5,q6⟩ := q4 c' o hc;refine ⟨fun dt => ?_,?_⟩
     ·rw [if_neg Om,q5 Om,Fi,hs]; congr 1; omega
     ·have : (m - l) * sz + l * sz <= k * sz := by rw [← ey_]; exact ea_ _ Om
      omega
   ·cases h
  ·cases h
 ·rename_i cs sz len cap
  split at h
  ·rename_i hsz
   split at h
   ·rename_i l hh c hb
    split at h
    ·rename_i cs' hcs
     simp only [Ag,ac_,ax_] at h;obtain ⟨rfl,rfl⟩ := h;refine ⟨rfl,?_⟩;unfold R at hx;obtain ⟨ado,k,rfl,q2,q3,q4,q0,q567⟩ := hx;obtain ⟨m,b1,b2,b3,b4,b5,_⟩ := Gv (P := P) (cap := 0) q2 q3 h1 h2 h3 hb true
     have hs : sz = ei.size := by rw [← e4]; exact aa_ hsz
     obtain ⟨t1,t2⟩ := Gt hcs
     obtain _ | ad := ado
     ·have hk0 := q0 rfl
      have : m = l /\ hh - l = 0 /\ m - l = 0 := by omega
      refine ⟨.slice none (hh - l) (m - l),?_,?_⟩
      ·unfold Instr.sliceAt;simp only [Sem.run_bind,Aa hu,Result.andThen_ok];unfold Instr.slice;simp only [Sem.run_bind,Aa hu,Result.andThen_ok,b1,Ax e1,Sem.run_pure,gl_]
       split <;> rfl
      ·unfold R
       exact ⟨none,m - l,rfl,by omega,b5,t2,fun _ => this.2.2,fun ad ha => by cases ha⟩
     obtain ⟨q5,q6,q7⟩ := q567 ad rfl;refine ⟨.slice (if m = l then some ad else some (ad.add (l * ei.size))) (hh - l) (m - l),?_,?_⟩
     ·unfold Instr.sliceAt;simp only [Sem.run_bind,Aa hu,Result.andThen_ok];unfold Instr.slice;simp only [Sem.run_bind,Aa hu,Result.andThen_ok,b1,Ax e1,Sem.run_pure,df_]
     ·have hne : cs' ≠ [] -> ¬ m = l := fun hne hml => by
       apply hne
       have : hh - l = 0 := by omega
       rw [this] at t2; simp at t2; exact t2
      unfold R
      refine ⟨some (if m = l then ad else ad.add (l * ei.size)),m - l,by split <;> rfl,by omega,b5,t2,fun hh => (by cases hh),fun ad' ha => ?_⟩
      cases ha;refine ⟨fun dt => ?_,fun ep => ?_,?_⟩
      ·rw [if_neg Om];have := q5 Om;obtain ⟨b,o,sp⟩ := ad;simp only at this; subst this;rw [Fi]
      ·have nw : cs ≠ [] := fun h0 => by
        apply ep; rw [t1,h0]; simp
       rw [if_neg (hne ep)]
       have bn : 0 < k := by
        rcases cq_ k with h0 | h0
        ·exfalso; apply ep; have : hh - l = 0 := by omega
         rw [this] at t2; simpa using t2
        ·exact h0
       have := q5 bn;obtain ⟨b,o,sp⟩ := ad;simp only at this; subst this;rw [Fi];exact q6 nw
      ·by_cases ep : cs' = []
       ·rw [ep]; unfold RC; trivial
       ·rw [if_neg (hne ep)]
        have bn : 0 < k := by
         rcases cq_ k with h0 | h0
         ·exfalso; apply ep; have : hh - l = 0 := by omega
          rw [this] at t2; simpa using t2
         ·exact h0
        have := q5 bn;obtain ⟨b,o,sp⟩ := ad;simp only at this; subst this;rw [Fi,← hs];exact (q7.drop (l * sz)).take _ hcs
    ·cases h
   ·cases h
  ·cases h
 ·split at h
  ·rename_i b hb
   cases h;refine ⟨rfl,?_⟩;obtain ⟨l,hh,c⟩ := b;unfold R at hx;obtain ⟨rfl,hn⟩ := hx
   obtain ⟨m,b1,b2,b3,b4,b5,_⟩ := Gv (P := P) (cap := 0) (k := 0) nl (fun q hq => by cases hq; rfl) h1 h2 h3 hb true
   have : hh - l = 0 /\ m - l = 0 := by omega
   refine ⟨.slice none 0 0,?_,by unfold R; exact ⟨rfl,hn⟩⟩
   unfold Instr.sliceAt;simp only [Sem.run_bind,Aa hu,Result.andThen_ok];unfold Instr.slice;simp only [Sem.run_bind,Aa hu,Result.andThen_ok,b1,Ax e1,Sem.run_pure,gl_,this.1,this.2]
   split <;> rfl
  ·cases h
 ·cases h
theorem Xj (s : ByteArray) (l h : Nat) : Bl (s.extract l h) = ((Bl s).take h).drop l := by
 unfold Bl;rw [fn_]
 simp [ByteArray.data_extract,List.map_take,List.map_drop]
theorem Xk {J J' : Sto} {t : TypeId} {ti : TI} (hti : Aw P t = some ti) (hd : ti.desc = .string) {x : AV} {X : Value} (hx : R C N w x X) {lo hi : Option AV} {LO HI : Option Value}
  (h1 : RO C N w lo LO) (h2 : RO C N w hi HI) {v : AV} (h : Ly x lo hi J = some (v,J')) : J' = J /\ Cp P C N w (Instr.sliceAt t X LO HI none) v := by
 obtain ⟨_,d,_,g2,g3,_⟩ := Al hti
 have hu := g2.trans (by rw [← g3,hd])
 unfold Ly at h
 split at h
 ·rename_i l
  split at h
  ·rename_i a b c hb
   cases h;refine ⟨rfl,?_⟩;unfold R at hx;obtain ⟨s,rfl,rfl⟩ := hx
   obtain ⟨m,b1,b2,b3,b4,b5,_⟩ := Gv (P := P) (cap := 0) (k := (Bl s).length) nl (fun q hq => by cases hq; rfl) h1 h2 (show RO C N w none none by unfold RO; trivial) hb false
   rw [Ei] at b1
   refine ⟨.string (s.extract a b),?_,by unfold R; exact ⟨_,rfl,Xj s a b⟩⟩
   unfold Instr.sliceAt;simp only [Sem.run_bind,Aa hu,Result.andThen_ok];unfold Instr.slice;simp only [Sem.run_bind,Aa hu,Result.andThen_ok,Option.isSome_none,bf_,if_false,b1,Sem.run_pure]
  ·cases h
 ·cases h
theorem Yx {J J' : Sto} {i : Nat} {x : AV} {X : Value} (hx : R C N w x X) {v : AV} (h : L0 i x J = some (v,J')) : J' = J /\ Cp P C N w (Instr.extract X i) v := by
 unfold L0 at h
 split at h
 ·split at h
  ·rename_i vs u hu
   cases h;unfold R at hx;obtain ⟨a,rfl,q⟩ := hx;obtain ⟨z,k1,k2⟩ := q.get i _ hu
   have : a[i]? = some z := by simpa using k1
   exact ⟨rfl,z,by simp [Instr.extract,this],k2⟩
  ·cases h
 ·cases h
theorem Xl {J J' : Sto} {x : AV} {X : Value} (hx : R C N w x X) {v : AV} (h : Ib x J = some (v,J')) (dst : Option Tmp) (o : Operand) (ρ : Operand -> Value) (hρ : ρ o = X) (ty : TypeId) (pos : String) (after : Array Edge) (g : Option (Nat × Bool)) :
  J' = J /\ (execOp ρ ⟨dst,.nilCheck o,ty,pos,after,g⟩).run P w = .ok (.value X) w /\ R C N w v X := by
 unfold Ib at h
 split at h
 ·cases h;refine ⟨rfl,?_,hx⟩;unfold R at hx;obtain ⟨ad,rfl,_⟩ := hx
  simp [execOp,hρ]
 ·cases h;refine ⟨rfl,?_,hx⟩;unfold R at hx;obtain ⟨c,o',rfl,_⟩ := hx
  simp [execOp,hρ]
 ·cases h;refine ⟨rfl,?_,hx⟩;unfold R at hx;obtain ⟨a,b,rfl,_⟩ := hx
  simp [execOp,hρ]
 ·cases h
theorem Xm {J J' : Sto} {t e : TypeId} {n : Nat} {ti te : TI} (hti : Aw P t = some ti) (hd : ti.desc = .array n e) (hte : Aw P e = some te) {x : AV} {X : Value} (hx : R C N w x X) (nz : ∀ a vs,J.get a = some (.cells vs) -> vs ≠ [] -> ∃ c o,C.loc a = some (c,o) /\ o + vs.length <= csize w c)
  {lo hi mx : Option AV} {LO HI MX : Option Value}
  (h1 : RO C N w lo LO) (h2 : RO C N w hi HI) (h3 : RO C N w mx MX) {v : AV} (h : Lz n te.size x lo hi mx J = some (v,J')) : J' = J /\ Cp P C N w (Instr.sliceAt t X LO HI MX) v := by
 obtain ⟨_,d,_,g2,g3,_⟩ := Al hti;obtain ⟨ei,_,e1,_,_,e4,_⟩ := Al hte
 have hu := g2.trans (by rw [← g3,hd])
 unfold Lz at h
 split at h
 ·rename_i a off
  split at h
  ·rename_i vs hvs
   split at h
   ·rename_i cx
    split at h
    ·rename_i l hh c hb
     simp only [Ag,ac_,ax_] at h;obtain ⟨rfl,rfl⟩ := h;refine ⟨rfl,?_⟩;unfold R at hx;obtain ⟨ad,rfl,q1,q4⟩ := hx
     obtain ⟨m,b1,b2,b3,b4,b5,_⟩ := Gv (P := P) (cap := 0) (k := n) nl (fun q hq => by cases hq; rfl) h1 h2 h3 hb false
     refine ⟨.slice (some (if m = l then ad else ad.add (l * ei.size))) (hh - l) (m - l),?_,?_⟩
     ·unfold Instr.sliceAt;simp only [Sem.run_bind,Aa hu,Result.andThen_ok,Instr.sureAddr,b1,Ax e1,Sem.run_pure]
     ·unfold R
      refine ⟨_,m - l,rfl,q1,by omega,b5,fun c' o hc => ⟨fun dt => ?_,?_⟩⟩
      ·rw [if_neg Om,q4 c' o hc,Fi,e4]; congr 1; omega
      ·unfold Sto.cells at hvs
       split at hvs
       ·rename_i vs' hg
        cases hvs;rw [ae_] at cx;obtain ⟨hne,cx⟩ := cx
        obtain ⟨c2,o2,k1,k2⟩ := nz a _ hg (fun h0 => by rw [h0] at hne; cases hne)
        rw [hc] at k1; cases k1;have hr := ak_ cx
        have : (m - l) * te.size + l * te.size <= n * te.size := by rw [← ey_]; exact ea_ _ Om
        omega
       ·cases hvs
    ·cases h
   ·cases h
  ·cases h
 ·cases h
theorem RC.room : ∀ {vs : List AV} {c o : Nat},RC C N w c vs o -> vs ≠ [] -> o + vs.length <= csize w c
 | [x],c,o,h,_ => by
  unfold RC at h;obtain ⟨⟨v,h1,_⟩,_⟩ := h;unfold World.cell? at h1;unfold csize
  split at h1
  ·rename_i cs _ _ heq
   simp only [heq];simp only [Option.isSome_none,bf_,if_false] at h1;have := (at_.1 h1).1;simp only [dc_];omega
  ·cases h1
 | x :: y :: r,c,o,h,_ => by
  unfold RC at h
  have := RC.room h.2 (by simp)
  simp only [ap_] at *;omega
theorem Abj {J J' : Sto} {t xt : TypeId} {ti : TI} (hti : Aw P t = some ti) (hd : ∀ m,ti.desc ≠ .interface m) {ok : Bool} {x : AV} {X : Value} (hx : R C N w x X) {v : AV} (h : Mo t (Hr ti) ok x J = some (v,J')) :
  J' = J /\ Cp P C N w (Instr.typeAssert X xt t ok) v := by
 obtain ⟨i,d,g1,g2,g3,g4,_,g6,g7⟩ := Al hti
 have hnd : ∀ m,d ≠ .interface m := fun m => by rw [← g3]; exact hd m
 have fails : ok = true -> ∀ z,Hr ti = some z -> (∃ u y,X = .iface u y /\ u ≠ t) ∨ X = .nilIface -> Cp P C N w (Instr.typeAssert X xt t ok) (.tup [z,.bool false]) := by
  intro hok z hz hX;subst hok;obtain ⟨Z,q1,q2⟩ := Mr (P := P) (C := C) (N := N) (w := w) hti hz
  refine ⟨.tuple #[Z,.bool false],?_,by unfold R; exact ⟨_,rfl,by unfold RL; exact ⟨q2,by unfold RL; exact ⟨by unfold R; rfl,by unfold RL; trivial⟩⟩⟩⟩
  unfold Instr.typeAssert;simp only [Sem.run_bind,Aa g2,Result.andThen_ok]
  rcases hX with ⟨u,y,rfl,hne⟩ | rfl
  ·cases d <;> first | (exact absurd rfl (hnd _)) | simp [hne,q1]
  ·cases d <;> first | (exact absurd rfl (hnd _)) | simp [q1]
 unfold Mo at h
 split at h
 ·rename_i t' y
  unfold R at hx;obtain ⟨Y,rfl,hy⟩ := hx
  split at h
  ·rename_i ht
   have ht := aa_ ht;subst ht;cases h;refine ⟨rfl,?_⟩;cases ok
   ·refine ⟨Y,?_,hy⟩;unfold Instr.typeAssert;simp only [Sem.run_bind,Aa g2,Result.andThen_ok]
    cases d <;> first | (exact absurd rfl (hnd _)) | simp
   ·refine ⟨.tuple #[Y,.bool true],?_,by simp only [Ta]; unfold R; exact ⟨_,rfl,by unfold RL; exact ⟨hy,by unfold RL; exact ⟨by unfold R; rfl,by unfold RL; trivial⟩⟩⟩⟩
    unfold Instr.typeAssert;simp only [Sem.run_bind,Aa g2,Result.andThen_ok]
    cases d <;> first | (exact absurd rfl (hnd _)) | simp
  ·rename_i ht
   split at h
   ·rename_i z hz
    cases h
    exact ⟨rfl,fails rfl z hz (.inl ⟨t',Y,rfl,fun he => by rw [he] at ht; simp at ht⟩)⟩
   ·cases h
 ·unfold R at hx;obtain ⟨rfl,_⟩ := hx
  split at h
  ·rename_i z hz
   cases h;exact ⟨rfl,fails rfl z hz (.inr rfl)⟩
  ·cases h
 ·cases h
end
section
variable {P : Program} {C C' : Ctx} {N N' : Nat} {w w' : World}
theorem RL.of_get : ∀ {l : List AV} {vs : List Value},l.length = vs.length -> (∀ (i : Nat) (x : AV),l[i]? = some x -> ∃ v,vs[i]? = some v /\ R C N w x v) -> RL C N w l vs
 | [],[],_,_ => by unfold RL; trivial
 | x :: r,v :: s,hl,h => by
  unfold RL;obtain ⟨v',h1,h2⟩ := h 0 x rfl
  simp at h1; subst h1
  exact ⟨h2,RL.of_get (by simpa using hl) fun i y hy => by have := h (i + 1) y (by simpa using hy); simpa using this⟩
 | [],_ :: _,hl,_ => by simp at hl
 | _ :: _,[],hl,_ => by simp at hl
abbrev gm_ := @RL.of_get
theorem RC.of_get : ∀ {cs : List AV} {c o : Nat},(∀ (i : Nat) (x : AV),cs[i]? = some x -> ∃ v,w.cell? ⟨c,o + i,none⟩ = some v /\ v.oneCell = true /\ R C N w x v) -> RC C N w c cs o
 | [],_,_,_ => by unfold RC; trivial
 | x :: r,c,o,h => by
  unfold RC
  exact ⟨h 0 x rfl,RC.of_get fun i y hy => by have := h (i + 1) y (by simpa using hy); rwa [show o + 1 + i = o + (i + 1) by omega]⟩
abbrev gn_ := @RC.of_get
theorem Ms : ∀ {l : List AV} {off : Nat} {xs l' : List AV},setAt l off xs = some l' ->
  l'.length = l.length /\ off + xs.length <= l.length /\ ∀ j : Nat,l'[j]? = if off <= j /\ j < off + xs.length then xs[j - off]? else l[j]?
 | l,0,[],l',h => by
  have : l = l' := by cases l <;> simpa [setAt] using h
  subst this
  exact ⟨rfl,by simp,fun j => by rw [if_neg (by simp)]⟩
 | y :: r,0,x :: xs,l',h => by
  simp only [setAt] at h
  split at h
  ·rename_i m hm
   cases h;obtain ⟨h1,h2,h3⟩ := Ms hm
   refine ⟨by simp [h1],by simp at h2 ⊢; omega,fun j => ?_⟩
   cases j with
   | zero => rw [if_pos (by simp)]; rfl
   | succ j =>
    have := h3 j;simp only [bi_,this];simp only [ap_]
    by_cases hj : j < xs.length
    ·rw [if_pos Om,if_pos Om]; simp
    ·rw [if_neg Om,if_neg Om]
  ·cases h
 | y :: r,k + 1,xs,l',h => by
  have h' : ∃ m,setAt r k xs = some m /\ y :: m = l' := by
   cases xs with
   | nil =>
    simp only [setAt] at h;cases hm : setAt r k [] with
    | none => rw [hm] at h; cases h
    | some m => rw [hm] at h; simp only [ac_] at h; exact ⟨m,rfl,h⟩
   | cons x xs =>
    simp only [setAt] at h;cases hm : setAt r k (x :: xs) with
    | none => rw [hm] at h; cases h
    | some m => rw [hm] at h; simp only [ac_] at h; exact ⟨m,rfl,h⟩
  obtain ⟨m,hm,he⟩ := h';subst he
  ·obtain ⟨h1,h2,h3⟩ := Ms hm
   refine ⟨by simp [h1],by simp; omega,fun j => ?_⟩
   cases j with
   | zero => rw [if_neg Om]; rfl
   | succ j =>
    simp only [bi_,h3 j]
    by_cases hj : k <= j /\ j < k + xs.length
    ·rw [if_pos hj,if_pos Om,show j + 1 - (k + 1) = j - k by omega]
    ·rw [if_neg hj,if_neg Om]
 | [],0,x :: xs,l',h => by simp [setAt] at h
 | [],k + 1,xs,l',h => by cases xs <;> simp [setAt] at h
theorem RL.set {l xs l' : List AV} {off : Nat} {cs : Array Value} {vs : List Value} (h : RL C N w l cs.toList) (hx : RL C N w xs vs) (hs : setAt l off xs = some l') : RL C N w l' (Ve cs off vs).toList /\ off + vs.length <= cs.size := by
 obtain ⟨h1,h2,h3⟩ := Ms hs;have hl := h.length;have hxl := hx.length
 have hle : off + vs.length <= cs.size := by rw [← hxl]; simp at hl; omega
 refine ⟨gm_ (by rw [h1,hl]; simp [L3]) fun i x hi => ?_,hle⟩
 rw [h3 i] at hi;rw [bg_,O0 vs cs off hle]
 by_cases hc : off <= i /\ i < off + xs.length
 ·rw [if_pos hc] at hi;rw [if_pos Om];exact hx.get _ x hi
 ·rw [if_neg hc] at hi;rw [if_neg Om,← bg_];exact h.get i x hi
theorem Anz {vs : List Value} {cs : Array Value} {off : Nat} (h : ∀ x ∈ cs.toList,x.oneCell = true) (hv : ∀ x ∈ vs,x.oneCell = true) (hle : off + vs.length <= cs.size) : ∀ x ∈ (Ve cs off vs).toList,x.oneCell = true := by
 intro x hx;obtain ⟨i,hi⟩ := cr_.1 hx;rw [bg_,O0 vs cs off hle] at hi
 split at hi
 ·exact hv x (af_ hi)
 ·exact h x (by rw [← bg_] at hi; exact af_ hi)
theorem Ait (l : List Value) : ∀ (off k : Nat) (cs : Array Value),((l.zipIdx k).foldl (fun cs (x : Value × Nat) => cs.setIfInBounds (off + x.2) x.1) cs) = Ve cs (off + k) l := by
 induction l with
 | nil => intro off k cs; rfl
 | cons v r ih =>
  intro off k cs;simp only [List.zipIdx_cons,dk_,Ve];rw [ih off (k + 1)]
  rfl
def K6 (C : Ctx) (N : Nat) (w : World) (place : Nat -> Option (Nat × Nat)) : List (Nat × Nat × AV) -> List (Nat × Value) -> Prop
 | [],[] => True
 | x :: r,p :: s => (place p.1 = some (x.1,x.2.1) /\ R C N w x.2.2 p.2) /\ K6 C N w place r s
 | _,_ => False
theorem Mt {place : Nat -> Option (Nat × Nat)} : ∀ {ps : List (Nat × Nat × AV)} {vs : List (Nat × Value)} {l l' : List AV} {cs : Array Value},K6 C N w place ps vs -> RL C N w l cs.toList -> (∀ x ∈ cs.toList,x.oneCell = true) -> S0 l ps = some l' ->
  ∃ cs',Instr.fill place cs vs = some cs' /\ RL C N w l' cs'.toList /\ (∀ x ∈ cs'.toList,x.oneCell = true) /\ cs'.size = cs.size
 | [],[],l,l',cs,_,h1,h2,h => by
  simp only [S0,ac_] at h; subst h;exact ⟨cs,rfl,h1,h2,rfl⟩
 | x :: r,p :: s,l,l',cs,hp,h1,h2,h => by
  obtain ⟨off,size,v⟩ := x;obtain ⟨i,V⟩ := p;unfold K6 at hp;obtain ⟨⟨hp1,hp2⟩,hp3⟩ := hp;simp only [S0] at h
  split at h
  ·rename_i m hm
   split at h
   ·rename_i l1 hl1
    obtain ⟨q1,q2,q3,q4⟩ := Hy hm hp2;obtain ⟨k1,k2⟩ := h1.set q1 hl1;obtain ⟨cs',g1,g2,g3,g4⟩ := Mt hp3 k1 (Anz h2 q4 k2) h
    refine ⟨cs',?_,g2,g3,by rw [g4,L3]⟩
    have hsz : V.cells.toList.length = V.cells.size := by simp
    simp only [Instr.fill,hp1]
    rw [if_neg (by simp; exact ⟨q2,by omega⟩)]
    rw [← g1]
    congr 1
    have := Ait V.cells.toList off 0 cs;rw [dx_] at this;rw [← this,← fd_]
    congr 1
    simp
   ·cases h
  ·cases h
 | [],_ :: _,_,_,_,hp,_,_,_ => by unfold K6 at hp; exact hp.elim
 | _ :: _,[],_,_,_,hp,_,_,_ => by unfold K6 at hp; exact hp.elim
end
section
variable {P : Program} {C C' : Ctx} {N N' : Nat} {w w' : World} {J J' : Sto}
theorem Ig {c o : Nat} {cs : Array Value} {T : TypeId} {fz : Nat × Nat} (h : w.heap[c]? = some (.cells cs T fz)) : w.cell? ⟨c,o,none⟩ = cs[o]? := by
 unfold World.cell?; simp [h]
theorem Ep {c : Nat} {cs : Array Value} {T : TypeId} {fz : Nat × Nat} (h : w.heap[c]? = some (.cells cs T fz)) : csize w c = cs.size := by
 unfold csize; simp [h]
theorem RC.of_cells {c o : Nat} {cs : Array Value} {T : TypeId} {fz : Nat × Nat} {l : List AV} {vs : List Value} (hh : w.heap[c]? = some (.cells cs T fz)) (h : RL C N w l vs) (h1 : ∀ x ∈ vs,x.oneCell = true)
  (hv : ∀ (i : Nat) (v : Value),vs[i]? = some v -> cs[o + i]? = some v) : RC C N w c l o := by
 refine gn_ fun i x hi => ?_
 obtain ⟨v,k1,k2⟩ := h.get i x hi;exact ⟨v,(Ig hh).trans (hv i v k1),h1 v (af_ k1),k2⟩
abbrev fl_ := @RC.of_cells
theorem O6 (hs : Sim P C w J) {cs : Array Value} {T : TypeId} {l : List AV} {vs : List Value} (p : Pu w w' (.cells cs T (0,0))) (h : RL C (nx J) w l vs) (h1 : ∀ x ∈ vs,x.oneCell = true)
  (hv : ∀ (i : Nat) (v : Value),vs[i]? = some v -> cs[i]? = some v) :
  Sim P (C.add (nx J) w.heap.size 0) w' (J.new (.cells l)) /\ Ext C (nx J) w (C.add (nx J) w.heap.size 0) (nx J + 1) w' := by
 refine hs.new p (.cells l) rfl fun e => ?_
 refine ⟨w.heap.size,0,cs,T,by simp [Ctx.add],p.here,?_⟩
 rw [Ac]
 exact fl_ p.here (h.ext e) h1 fun i v hi => by rw [be_]; exact hv i v hi
theorem R.newPtr {c o N : Nat} {a : Nat} (ha : a < N) (hl : C.loc a = some (c,o)) : R C N w (.pr a 0) (.pointer (some ⟨c,o,none⟩)) := by
 unfold R;refine ⟨_,rfl,ha,fun c' o' hc => ?_⟩
 rw [hl] at hc; cases hc; simp
theorem R.newSlice {c o N len k sz : Nat} {a : Nat} {cap : Option Nat} (ha : a < N) (hl : C.loc a = some (c,o)) (h1 : len <= k) (h2 : ∀ q,cap = some q -> k = q) (h3 : o + k * sz <= csize w c) :
  R C N w (.sr a 0 sz len cap) (.slice (some ⟨c,o,none⟩) len k) := by
 unfold R;refine ⟨_,k,rfl,ha,h1,h2,fun c' o' hc => ?_⟩
 rw [hl] at hc; cases hc
 exact ⟨fun _ => by simp,by omega⟩
theorem Ctx.add_loc (C : Ctx) (a c o : Nat) : (C.add a c o).loc a = some (c,o) := by simp [Ctx.add]
abbrev el_ := @Ctx.add_loc
theorem Jp (w : World) (O : Obj) : Pu w { w with heap := w.heap.push O } O := fk_ rfl ⟨rfl,rfl⟩
theorem Aqt (w : World) (O : Obj) : Pu w { w with heap := w.heap.push O,drawn := w.drawn + 1 } O := fk_ rfl ⟨rfl,rfl⟩
theorem Cl {t : TypeId} {i : TypeInfo} {z : Value} (h : P.info? t = some i) (hz : i.zero = some z) (w : World) : (zeroValue t).run P w = .ok z w := by
 unfold zeroValue; simp [Ca h,hz]
theorem Aej (hs : Sim P C w J) {t : TypeId} {ti : TI} (hti : Aw P t = some ti) {z : List AV} (hz : ti.zero = some z) {v : AV} (h : Yh z J = some (v,J')) : Hx P C w J (Instr.alloc t true (.tuple #[])) v J' := by
 obtain ⟨i,d,g1,g2,g3,g4,_,g6,g7⟩ := Al hti;rw [g6] at hz;obtain ⟨Z,q1,q2,q3,_,_⟩ := Eu (C := C) (w := w) (N := nx J) hz;unfold Yh at h;cases h;have p := Jp w (.cells Z.cells t (0,0))
 obtain ⟨k1,k2⟩ := O6 hs p q2 q3 (fun i v hi => by rwa [bg_] at hi)
 refine ⟨_,_,_,_,?_,rfl,k1,by rw [Ac]; exact k2,by rw [Ac]; exact R.newPtr (bo_ _) (el_ ..)⟩
 unfold Instr.alloc
 simp [Cl g1 q1,newVar,newRow]
theorem Aiu (hs : Sim P C w J) {t : TypeId} {n : Nat} {x : AV} {X : Value} (hx : R C (nx J) w x X) {v : AV} (h : sBox n x J = some (v,J')) : Hx P C w J (Instr.box t X) v J' := by
 unfold sBox at h
 split at h
 ·rename_i cs hcs
  cases h;obtain ⟨q1,q2,q3,q4⟩ := Hy hcs hx;have p := Jp w (.cells X.cells t (0,0))
  obtain ⟨k1,k2⟩ := O6 hs p q1 q4 (fun i v hi => by rwa [bg_] at hi)
  refine ⟨_,_,_,_,?_,rfl,k1,by rw [Ac]; exact k2,by rw [Ac]; exact R.newPtr (bo_ _) (el_ ..)⟩
  unfold Instr.box
  simp [newVar,newRow]
 ·cases h
theorem Mu (z : List AV) : ∀ n,(rep z n).length = n * z.length
 | 0 => by simp [rep]
 | n + 1 => by simp [rep,Mu z n,fw_]; omega
theorem Akd (z : List AV) (hz : 0 < z.length) : ∀ (n i : Nat) (x : AV),(rep z n)[i]? = some x -> z[i % z.length]? = some x
 | 0,i,x,h => by simp [rep] at h
 | n + 1,i,x,h => by
  simp only [rep] at h
  by_cases hi : i < z.length
  ·rw [bb_ hi] at h;rw [gj_ hi]; exact h
  ·rw [cb_ Om] at h;have := Akd z hz n _ x h;rw [Nat.mod_eq_sub_mod Om]; exact this
theorem RL.rep {z : List AV} {zc : Array Value} (h : RL C N w z zc.toList) (n : Nat) : RL C N w (rep z n) ((Array.range (n * zc.size)).map (zc[· % zc.size]!)).toList := by
 have hl := h.length
 have hl' : z.length = zc.size := by simpa using hl
 refine gm_ (by rw [Mu]; simp [hl']) fun i x hi => ?_
 have hb := (ad_.1 hi).1;rw [Mu] at hb
 have hz : 0 < z.length := by
  rcases cq_ z.length with h0 | h0
  ·rw [h0] at hb; omega
  ·exact h0
 obtain ⟨v,k1,k2⟩ := h.get _ _ (Akd z hz n i x hi);refine ⟨v,?_,k2⟩;rw [hl'] at k1 hb
 have k1' : zc[i % zc.size]? = some v := by simpa using k1
 simp only [c_,az_,bg_,Array.getElem?_range]
 simp [hb,getElem!_def,k1']
theorem K7 {zc : Array Value} (h : ∀ x ∈ zc.toList,x.oneCell = true) (n : Nat) : ∀ x ∈ ((Array.range (n * zc.size)).map (zc[· % zc.size]!)).toList,x.oneCell = true := by
 intro x hx;simp only [c_,cf_] at hx;obtain ⟨i,h1,rfl⟩ := hx
 have hi : i < n * zc.size := by simpa using h1
 have hz : 0 < zc.size := by
  rcases cq_ zc.size with h0 | h0
  ·rw [h0] at hi; omega
  ·exact h0
 have hm : i % zc.size < zc.size := Nat.mod_lt _ hz;rw [getElem!_pos zc _ hm]
 exact h _ (by simp)
end
section
variable {P : Program} {C C' : Ctx} {N N' : Nat} {w w' : World} {J J' : Sto}
theorem Mv : ∀ {fs : List Field},P9 P fs = true -> ∃ places,fs.mapM (fun f => (P.info? f.type).map fun i => (f.offset,i.size)) = some places /\
  ∀ (i : Nat) (f : Field),fs[i]? = some f -> ∃ fi,P.info? f.type = some fi /\ places[i]? = some (f.offset,fi.size)
 | [],_ => ⟨[],by simp,fun i f h => by simp at h⟩
 | f :: r,h => by
  simp only [P9] at h
  split at h
  ·rename_i fi hfi
   obtain ⟨pl,h1,h2⟩ := Mv h
   refine ⟨(f.offset,fi.size) :: pl,by simp [gr_,hfi,h1],fun i g hg => ?_⟩
   cases i with
   | zero => simp at hg; subst hg; exact ⟨fi,hfi,rfl⟩
   | succ i => obtain ⟨gi,k1,k2⟩ := h2 i g (by simpa using hg); exact ⟨gi,k1,by simpa using k2⟩
  ·cases h
theorem Rd {E : Env} {tm : Tr AV} {a : Act} (hE : E.P = P) (hg : Fo C N w E) (ht : TR C N w tm a.tmps) {fs : List Field} {place : Nat -> Option (Nat × Nat)}
  (hp : ∀ (i : Nat) (f : Field),fs[i]? = some f -> ∃ fi,P.info? f.type = some fi /\ place i = some (f.offset,fi.size)) :
  ∀ {parts : List (Nat × Operand)} {ps : List (Nat × Nat × AV)},Ir P E tm fs parts = some ps -> K6 C N w place ps (parts.map fun (i,x) => (i,a.eval x))
 | [],ps,h => by simp only [Ir,ac_] at h; subst h; simp only [f_]; unfold K6; trivial
 | (i,x) :: r,ps,h => by
  simp only [Ir] at h
  split at h
  ·rename_i f l hf hl
   split at h
   ·rename_i ti hti
    cases h;obtain ⟨fi,d,g1,_,_,g4,_⟩ := Al hti;obtain ⟨fi',k1,k2⟩ := hp i f hf;rw [g1] at k1; cases k1;simp only [cd_];unfold K6
    exact ⟨⟨by rw [k2,g4],Bc hg ht x⟩,Rd hE hg ht hp hl⟩
   ·cases h
  ·cases h
theorem Ll {E : Env} {tm : Tr AV} {a : Act} (hg : Fo C N w E) (ht : TR C N w tm a.tmps) (size : Nat) :
  ∀ (parts : List (Nat × Operand)),K6 C N w (fun i => some (i * size,size)) (Ht E tm size parts) (parts.map fun (i,x) => (i,a.eval x))
 | [] => by simp only [Ht,f_]; unfold K6; trivial
 | (i,x) :: r => by
  simp only [Ht,cd_];unfold K6;exact ⟨⟨rfl,Bc hg ht x⟩,Ll hg ht size r⟩
theorem Tp {t : TypeId} {ti : TI} (hti : Aw P t = some ti) {fs : Array Field} (hd : ti.desc = .struct fs) {z : List AV} (hz : ti.zero = some z) (hi : P9 P fs.toList = true)
  {ps : List (Nat × Nat × AV)} {parts : Array (Nat × Value)} {place : Nat -> Option (Nat × Nat)}
  (i7 : ∀ places,fs.toList.mapM (fun f => (P.info? f.type).map fun i => (f.offset,i.size)) = some places -> place = (places.toArray[·]?))
  (hp : K6 C N w place ps parts.toList) {v : AV} (h : Lk z ps J = some (v,J')) : J' = J /\ Cp P C N w (Instr.build t parts) v := by
 obtain ⟨i,d,g1,g2,g3,g4,_,g6,g7⟩ := Al hti;rw [g6] at hz;obtain ⟨Z,q1,q2,q3,_,_⟩ := Eu (C := C) (w := w) (N := N) hz;obtain ⟨pl,h1,_⟩ := Mv hi
 have hu := g2.trans (by rw [← g3,hd])
 unfold Lk at h
 split at h
 ·rename_i cs hcs
  cases h;obtain ⟨cs',k1,k2,k3,_⟩ := Mt hp q2 q3 hcs
  refine ⟨rfl,.agg cs',?_,by unfold R; exact ⟨_,rfl,k2,k3⟩⟩
  rw [i7 pl h1] at k1;refine run_build w t parts cs' ?_;unfold Program.built;simp only [g1,hu,q1,h1];exact k1
 ·cases h
theorem Yy {t e : TypeId} {n : Nat} {ti te : TI} (hti : Aw P t = some ti) (hd : ti.desc = .array n e) (hte : Aw P e = some te) {z : List AV} (hz : ti.zero = some z)
  {ps : List (Nat × Nat × AV)} {parts : Array (Nat × Value)}
  (hp : K6 C N w (fun i => some (i * te.size,te.size)) ps parts.toList) {v : AV} (h : Lk z ps J = some (v,J')) : J' = J /\ Cp P C N w (Instr.build t parts) v := by
 obtain ⟨i,d,g1,g2,g3,g4,_,g6,g7⟩ := Al hti;obtain ⟨ei,_,e1,_,_,e4,_⟩ := Al hte;rw [g6] at hz;obtain ⟨Z,q1,q2,q3,_,_⟩ := Eu (C := C) (w := w) (N := N) hz
 have hu := g2.trans (by rw [← g3,hd])
 unfold Lk at h
 split at h
 ·rename_i cs hcs
  cases h;obtain ⟨cs',k1,k2,k3,_⟩ := Mt hp q2 q3 hcs
  refine ⟨rfl,.agg cs',?_,by unfold R; exact ⟨_,rfl,k2,k3⟩⟩
  unfold Instr.build;simp only [Sem.run_bind,Cl g1 q1,Result.andThen_ok,Aa hu,Ax e1];rw [e4] at k1;simp only [k1,Sem.run_pure]
 ·cases h
theorem Ab6 {e : TypeId} {ei : TypeInfo} {Z : Value} (h : P.info? e = some ei) (hz : ei.zero = some Z) (hsz : Z.cells.size = ei.size) (n : Nat) :
  ∃ zc,(∀ {α : Type} (K : Array Value -> Sem α),(if n * ei.size = 0 then do let zero ← pure #[]; K zero else do let l ← zeroValue e; let zero ← pure l.cells; K zero).run P w = (K zc).run P w) /\
   (Array.range (n * ei.size)).map (zc[· % zc.size]!) = (Array.range (n * Z.cells.size)).map (Z.cells[· % Z.cells.size]!) := by
 by_cases h0 : n * ei.size = 0
 ·refine ⟨#[],fun K => by rw [if_pos h0]; simp,?_⟩
  rw [hsz,h0]; simp
 ·refine ⟨Z.cells,fun K => by rw [if_neg h0]; simp [Cl h hz],by rw [hsz]⟩
theorem Tq (hs : Sim P C w J) {t e : TypeId} {len : Nat} {ti te : TI} (hti : Aw P t = some ti) (hd : ti.desc = .slice e) (hte : Aw P e = some te) {z : List AV} (hz : te.zero = some z) (hzl : z.length = te.size)
  (bo : len * te.size <= 16777216) {byref : Bool} {ps : List (Nat × Nat × AV)} {parts : Array (Nat × Value)}
  (hp : K6 C (nx J) w (fun i => some (i * te.size,te.size)) ps parts.toList) {v : AV} (h : Hj z te.size len byref ps J = some (v,J')) :
  Hx P C w J (Instr.buildSlice t len parts) v J' /\ (byref = false -> J' = J) := by
 obtain ⟨i,d,g1,g2,g3,g4,_,_,_⟩ := Al hti;obtain ⟨ei,ed,e1,e2,e3,e4,_,e6,e7⟩ := Al hte;rw [e6] at hz;obtain ⟨Z,q1,q2,q3,_,_⟩ := Eu (C := C) (w := w) (N := nx J) hz
 have hu := g2.trans (by rw [← g3,hd])
 have hZ : Z.cells.size = ei.size := by have := q2.length; simp at this; omega
 obtain ⟨zc,r1,r2⟩ := Ab6 (P := P) (w := w) e1 q1 hZ len;unfold Hj at h
 split at h
 ·rename_i cs hcs
  obtain ⟨cs',k1,k2,k3,k4⟩ := Mt hp (q2.rep len) (K7 q3 len) hcs
  have bl : (Instr.buildSlice t len parts).run P w = .ok (.slice (some ⟨w.heap.size,0,none⟩) len len) { w with heap := w.heap.push (.cells cs' e) } := by
   unfold Instr.buildSlice;simp only [Sem.run_bind,Result.andThen_ok,Aa hu,Ax e1]
   rw [Sem.run_ite,if_neg (by rw [← e4]; omega)]
   rw [r1];simp only [r2];rw [e4] at k1;simp only [k1]
   simp [newRow]
  have p := Jp w (.cells cs' e (0,0))
  have ev : cs'.size = len * te.size := by rw [k4]; simp [hZ,e4]
  cases byref with
  | true =>
   simp only [ac_,ax_] at h;obtain ⟨rfl,rfl⟩ := h
   obtain ⟨s1,s2⟩ := O6 hs p k2 k3 (fun i v hi => by rwa [bg_] at hi)
   refine ⟨⟨_,_,_,_,bl,rfl,s1,by rw [Ac]; exact s2,?_⟩,fun hh => by cases hh⟩
   rw [Ac]
   refine R.newSlice (bo_ _) (el_ ..) nl (fun q hq => by cases hq; rfl) ?_
   rw [Ep p.here,ev]; omega
  | false =>
   simp only [ac_,ax_] at h;obtain ⟨rfl,rfl⟩ := h;obtain ⟨s1,s2⟩ := hs.push p;refine ⟨⟨_,_,_,_,bl,rfl,s1,s2,?_⟩,fun _ => rfl⟩
   have hl := k2.length;unfold R
   refine ⟨some ⟨w.heap.size,0,none⟩,len,rfl,nl,fun q hq => by cases hq; rfl,by simp at hl; omega,fun hh => (by cases hh),fun ad ha => ?_⟩
   cases ha;refine ⟨fun _ => rfl,fun _ ho => ?_,?_⟩
   ·have := hs.own_lt ho; simp at this
   ·exact fl_ p.here (k2.ext s2) k3 fun i v hi => by simpa using hi
 ·cases h
end
section
variable {P : Program} {C C' : Ctx} {N N' : Nat} {w w' : World} {J J' : Sto}
theorem Sto.cells_get {a : Nat} {vs : List AV} (h : J.cells a = some vs) : J.get a = some (.cells vs) := by
 unfold Sto.cells at h
 split at h
 ·rename_i vs' hg; cases h; exact hg
 ·cases h
abbrev ep_ := @Sto.cells_get
theorem Mw (hs : Sim P C w J) {a off : Nat} {vs vs' l : List AV} {xs : List Value} (hg : J.get a = some (.cells vs)) (c8 : setAt vs off l = some vs') (hl : RL C (nx J) w l xs) (h1 : ∀ x ∈ xs,x.oneCell = true) :
  ∃ c o w',C.loc a = some (c,o) /\ (storeCells ⟨c,o + off,none⟩ xs).run P w = .ok () w' /\ Sim P C w' (J.set a (.cells vs')) /\ Ext C (nx J) w C (nx J) w' := by
 obtain ⟨c,o,cs,T,k1,k2,k3⟩ := hs.obj a _ hg;obtain ⟨s1,s2,s3⟩ := Ms c8;have bn := hl.length
 have cx : xs ≠ [] -> o + off + xs.length <= cs.size := fun hne => by
  have hv : vs ≠ [] := fun h0 => by
   apply hne
   have : l.length = 0 := by rw [h0] at s2; simp only [dr_] at s2; omega
   exact bk_ Om
  have := k3.room hv;rw [Ep k2] at this; omega
 have hw : ∃ w',(storeCells ⟨c,o + off,none⟩ xs).run P w = .ok () w' /\ Wr w w' c (.cells (Ve cs (o + off) xs) T (0,0)) := by
  by_cases hx : xs = []
  ·subst hx; exact ⟨w,by simp [storeCells],rfl,k2,fun _ _ => rfl,rfl,rfl⟩
  ·exact Jy xs w c (o + off) 0 cs T k2 h1 (cx hx)
 obtain ⟨w',r1,r2⟩ := hw;refine ⟨c,o,w',k1,r1,?_⟩
 refine hs.upd k1 r2 (by rw [Ep r2.here,Ep k2,L3]) hg (.cells vs') rfl (fun _ _ _ h => by cases h) fun e => ?_
 refine ⟨c,o,_,T,k1,r2.here,?_⟩;rw [Ae];refine gn_ fun i x hi => ?_
 rw [s3 i] at hi;rw [Ig r2.here]
 by_cases hx : xs = []
 ·subst hx
  simp at bn
  rw [if_neg (by simp [bn])] at hi
  obtain ⟨v,q1,q2,q3⟩ := k3.get i x hi;rw [Ig k2] at q1;exact ⟨v,q1,q2,R.ext e _ _ q3⟩
 ·have hr := cx hx;rw [O0 xs cs (o + off) hr]
  by_cases hc : off <= i /\ i < off + l.length
  ·rw [if_pos hc] at hi;rw [if_pos Om];obtain ⟨v,q1,q2⟩ := hl.get _ x hi
   exact ⟨v,by rw [← q1]; congr 1; omega,h1 v (af_ q1),R.ext e _ _ q2⟩
  ·rw [if_neg hc] at hi;rw [if_neg Om];obtain ⟨v,q1,q2,q3⟩ := k3.get i x hi;rw [Ig k2] at q1;exact ⟨v,q1,q2,R.ext e _ _ q3⟩
theorem Aek (hs : Sim P C w J) {t : TypeId} {ti : TI} (hti : Aw P t = some ti) {x v : AV} {X V : Value} (hx : R C (nx J) w x X) (hv : R C (nx J) w v V) {u : AV} (h : Uy ti.size x v J = some (u,J')) :
  u = An /\ ∃ w',(Instr.storeAt t X V).run P w = .ok () w' /\ Sim P C w' J' /\ Ext C (nx J) w C (nx J') w' := by
 obtain ⟨i,d,g1,g2,g3,g4,_⟩ := Al hti;unfold Uy at h
 split at h
 ·rename_i a off l hl
  split at h
  ·rename_i vs hvs
   split at h
   ·rename_i vs' c8
    cases h;obtain ⟨q1,q2,q3,q4⟩ := Hy hl hv;obtain ⟨c,o,w',r1,r2,r3,r4⟩ := Mw hs (ep_ hvs) c8 q1 q4
    refine ⟨rfl,w',?_,r3,by rw [Ae]; exact r4⟩
    unfold R at hx;obtain ⟨ad,rfl,_,hl⟩ := hx;rw [hl c o r1];unfold Instr.storeAt storeVar;simp only [Instr.sureAddr,Sem.run_bind,Sem.run_pure,Result.andThen_ok,Ax g1,Sem.run_ite]
    rw [if_neg (by rw [q2,g4]; simp)]
    first | exact r2 | (simp only [Sem.run_bind,Sem.run_pure,Result.andThen_ok]; exact r2)
   ·cases h
  ·cases h
 ·cases h
theorem F6 (z : Array Value) (n : Nat) : Builtin.zeroCells z n = (Array.range (n * z.size)).map (z[· % z.size]!) := rfl
theorem Ael (hs : Sim P C w J) {t e ty : TypeId} {ti te : TI} (hti : Aw P t = some ti) (hd : ti.desc = .slice e) (hte : Aw P e = some te) {z : List AV} (hz : te.zero = some z) (hzl : z.length = te.size)
  {x : AV} {X : Value} (hx : R C (nx J) w x X) {u : AV} (h : Ad9 z te.size x J = some (u,J')) :
  u = An /\ ∃ w',(Builtin.clear_ #[t] ty #[X]).run P w = .ok (.tuple #[]) w' /\ Sim P C w' J' /\ Ext C (nx J) w C (nx J') w' := by
 obtain ⟨i,d,g1,g2,g3,g4,_,_,_⟩ := Al hti;obtain ⟨ei,ed,e1,e2,e3,e4,_,e6,e7⟩ := Al hte;rw [e6] at hz;obtain ⟨Z,q1,q2,q3,_,_⟩ := Eu (C := C) (w := w) (N := nx J) hz
 have hu := g2.trans (by rw [← g3,hd])
 have hZ : z.length = Z.cells.size := by have := q2.length; simpa using this
 unfold Ad9 at h
 split at h
 ·rename_i a off sz len cap
  split at h
  ·rename_i vs hsz hvs
   split at h
   ·rename_i vs' c8
    cases h;refine ⟨rfl,?_⟩;obtain ⟨c,o,w',r1,r2,r3,r4⟩ := Mw (P := P) hs (ep_ hvs) c8 (q2.rep len) (K7 q3 len)
    refine ⟨w',?_,r3,by rw [Ae]; exact r4⟩
    unfold R at hx;obtain ⟨ad,k,rfl,_,hk,_,hl⟩ := hx;unfold Builtin.clear_;cases len with
    | zero =>
     have : w' = w := by
      have : ((Array.range (0 * Z.cells.size)).map (Z.cells[· % Z.cells.size]!)).toList = [] := by simp
      rw [this] at r2; simp [storeCells] at r2; exact r2.symm
     subst this
     simp [Aa hu]
    | succ n =>
     rw [(hl c o r1).1 Om];simp only [c_,Array.toList_range] at r2
     simp [Aa hu,Cl e1 q1,F6,r2]
   ·cases h
  ·cases h
 ·cases h;unfold R at hx;obtain ⟨rfl,_⟩ := hx;refine ⟨rfl,w,?_,hs,bz_ _ _ _⟩;unfold Builtin.clear_; simp [Aa hu]
 ·cases h;unfold R at hx;obtain ⟨ad,k,rfl,_⟩ := hx;refine ⟨rfl,w,?_,hs,bz_ _ _ _⟩;cases ad <;> (unfold Builtin.clear_; simp [Aa hu])
 ·cases h
theorem Qf {c b : Nat} (h : c * (b + 1) <= sizeLim) : c <= sizeLim /\ c * b <= sizeLim := by
 have h1 : c * 1 <= c * (b + 1) := Nat.mul_le_mul_left _ Om;have h2 : c * b <= c * (b + 1) := Nat.mul_le_mul_left _ Om
 constructor <;> omega
theorem Mx {n : Nat} (h : n <= sizeLim) : IntKind.i64.wrap (Int.ofNat n) = Int.ofNat n :=
 O3 .i64 _ (by simp only [Mj]; rw [gt_]; unfold sizeLim at h; omega)
theorem Vj (hs : Sim P C w J) {t e : TypeId} {ti te : TI} (hti : Aw P t = some ti) (hd : ti.desc = .slice e) (hte : Aw P e = some te) {z : List AV} (hz : te.zero = some z) (hzl : z.length = te.size)
  {l c : AV} {L K : Value} (hl : R C (nx J) w l L) (hc : R C (nx J) w c K) {v : AV} (h : Mk z te.size te.bytes l c J = some (v,J')) : Hx P C w J (Instr.makeSlice t L K) v J' := by
 obtain ⟨i,d,g1,g2,g3,g4,_,_,_⟩ := Al hti;obtain ⟨ei,ed,e1,e2,e3,e4,e5,e6,e7⟩ := Al hte;rw [e6] at hz;obtain ⟨Z,q1,q2,q3,_,_⟩ := Eu (C := C) (w := w) (N := nx J) hz
 have hu := g2.trans (by rw [← g3,hd])
 have hZ : Z.cells.size = ei.size := by have := q2.length; simp at this; omega
 unfold Mk at h
 split at h
 ·rename_i n m
  cases hb : (Nat.ble n m && Nat.ble (m * (te.bytes + 1)) sizeLim)
  ·simp [hb] at h
  ·simp only [hb,cond_true,ac_,ax_] at h;obtain ⟨rfl,rfl⟩ := h;simp only [ae_,gt_] at hb;obtain ⟨hb1,hb2⟩ := hb;obtain ⟨hb3,hb4⟩ := Qf hb2;unfold R at hl hc;subst hl hc;obtain ⟨zc,r1,r2⟩ := Ab6 (P := P) (w := w) e1 q1 hZ m;have p := Jp w (.cells ((Array.range (m * Z.cells.size)).map (Z.cells[· % Z.cells.size]!)) e (0,0))
   obtain ⟨s1,s2⟩ := O6 hs p (q2.rep m) (K7 q3 m) (fun i v hi => by rwa [bg_] at hi)
   refine ⟨.slice (some ⟨w.heap.size,0,none⟩) n m,_,_,_,?_,rfl,s1,by rw [Ac]; exact s2,?_⟩
   ·unfold Instr.makeSlice;simp only [Sem.run_bind,Result.andThen_ok,Aa hu,asInt,asIntOf,Sem.run_pure,Ca e1,Mx hb3,Mx (bc_ hb1 hb3)]
    have hm : ¬ ((ei.bytes : Int) * (m : Int) > 2 ^ 48) := by
     rw [e5] at hb4
     have h1 : ei.bytes * m <= sizeLim := by rw [Nat.mul_comm]; exact hb4
     have h2 := Int.ofNat_le.2 h1;rw [fu_] at h2
     have h3 : ((sizeLim : Nat) : Int) < 2 ^ 48 := by decide
     generalize (ei.bytes : Int) * (m : Int) = q at *
     generalize (2 : Int) ^ 48 = r at *
     omega
    rw [Sem.run_ite,if_neg]
    ·simp only [Sem.run_bind,run_askRoom,Result.andThen_ok,Ax e1,eq_,aj_,r1];rw [r2]
     simp [newRow]
    ·simp only [aj_,bh_,decide_eq_true_eq,not_or]
     refine ⟨⟨⟨by omega,hm⟩,by omega⟩,by omega⟩
   ·rw [Ac]
    refine R.newSlice (bo_ _) (el_ ..) hb1 (fun q hq => by cases hq; rfl) ?_
    rw [Ep p.here]
    simp [hZ,e4]
 ·cases h
end
section
variable {P : Program} {C C' : Ctx} {N N' : Nat} {w w' : World} {J J' : Sto}
theorem RL.take : ∀ (n : Nat) {l : List AV} {vs : List Value},RL C N w l vs -> RL C N w (l.take n) (vs.take n)
 | 0,_,_,_ => by simp only [List.take_zero]; unfold RL; trivial
 | n + 1,[],[],_ => by simp only [List.take_nil]; unfold RL; trivial
 | n + 1,x :: r,v :: s,h => by
  unfold RL at h;simp only [ft_]; unfold RL;exact ⟨h.1,RL.take n h.2⟩
 | _ + 1,[],_ :: _,h => by unfold RL at h; exact h.elim
 | _ + 1,_ :: _,[],h => by unfold RL at h; exact h.elim
theorem Aiv {t : TypeId} {tf : TI} (htf : Aw P t = some tf) {cs : List AV} {a : Array Value} (q1 : RL C N w cs a.toList) (q2 : ∀ x ∈ a.toList,x.oneCell = true) {off : Nat} {v : AV} (h : Eh tf (cs.drop off) = some v) :
  Cp P C N w (part t a off) v := by
 obtain ⟨fi,fd,g1,g2,g3,g4,_,_,g5⟩ := Al htf;unfold Eh at h;unfold part Cp;simp only [Sem.run_bind,Et g2,Result.andThen_ok];rw [← g5];have hd := q1.drop off;cases ha : tf.isAgg
 ·simp only [ha] at h;simp only [bf_,if_false]
  split at h
  ·rename_i u r he
   cases h
   have : (cs.drop off)[0]? = some v := by rw [he]; rfl
   obtain ⟨x,k1,k2⟩ := hd.get 0 v this
   have : a[off]? = some x := by simpa using k1
   exact ⟨x,by simp [this],k2⟩
  ·cases h
 ·simp only [ha] at h
  split at h
  ·rename_i l hl
   cases h
   refine ⟨.agg (a.extract off (off + fi.size)),by simp [Ax g1],?_⟩
   obtain ⟨t1,t2⟩ := Gt hl;unfold R;refine ⟨_,rfl,?_,?_⟩
   ·have e : (a.extract off (off + fi.size)).toList = (a.toList.drop off).take tf.size := by
     rw [g4]; simp [fn_]
    rw [e,t1];exact hd.take _
   ·intro y hy;refine q2 y ?_
    simp at hy
    have hm : y ∈ (a.toList.drop off).take fi.size := by simpa [fn_] using hy
    exact es_ (ct_ hm)
  ·cases h
theorem Xo {t e : TypeId} {len : Nat} {ti te : TI} (hti : Aw P t = some ti) (hd : ti.desc = .array len e) (hte : Aw P e = some te) {x i : AV} {X I : Value} (hx : R C N w x X) (hi : R C N w i I) {v : AV}
  (h : Ju te len x i J = some (v,J')) : J' = J /\ Cp P C N w (Instr.index t X I) v := by
 obtain ⟨_,d,_,h2,h3,_⟩ := Al hti;obtain ⟨ei,_,g1,_,_,g4,_⟩ := Al hte
 have hu := h2.trans (by rw [← h3,hd])
 unfold Ju at h
 split at h
 ·rename_i cs k n
  cases hb : Nat.blt n len
  ·simp [hb] at h
  ·simp only [hb,cond_true] at h
   split at h
   ·rename_i u hu'
    cases h;have hlt : n < len := ak_ hb;unfold R at hx hi;subst hi;obtain ⟨a,rfl,q1,q2⟩ := hx;obtain ⟨z,k1,k2⟩ := Aiv (P := P) hte q1 q2 hu';refine ⟨rfl,z,?_,k2⟩;unfold Instr.index;simp only [asIntOf,Sem.run_bind,Sem.run_pure,Result.andThen_ok,Aa hu]
    rw [if_pos ⟨by simp,by simpa using hlt⟩]
    rw [g4] at k1
    simp [Ax g1,k1]
   ·cases h
 ·cases h
theorem Wl : ∀ (l : List Nat) (i : Nat),(Hs l)[i]? = (l[i]?).map fun b => .int .u8 (.ofNat b)
 | [],i => by simp [Hs]
 | b :: r,0 => by simp [Hs]
 | b :: r,i + 1 => by simp [Hs,Wl r i]
theorem O7 (l : List Nat) : (Hs l).length = l.length := by induction l with | nil => rfl | cons b r ih => simp [Hs,ih]
theorem RL.bytes (s : ByteArray) : RL C N w (Hs (Bl s)) ((s.data.map fun b => Value.int .u8 b.toNat).toList) := by
 refine gm_ (by rw [O7]; simp [Bl]) fun i x hi => ?_
 rw [Wl] at hi;unfold Bl at hi;simp only [az_,Option.map_map,du_] at hi;obtain ⟨b,h1,h2⟩ := hi
 refine ⟨.int .u8 b.toNat,by simp only [c_,az_,h1]; rfl,?_⟩
 rw [← h2]; unfold R; rfl
theorem Re (s : ByteArray) : ∀ x ∈ (s.data.map fun b => Value.int .u8 b.toNat).toList,x.oneCell = true := by
 intro x hx;simp only [c_,cf_] at hx;obtain ⟨b,_,rfl⟩ := hx; rfl
theorem Ke : ∀ (cs : List AV) (c o i : Nat) (acc : Array Value),RC C N w c cs (o + i) ->
  ∃ l,(∀ k,(loadCellsFrom ⟨c,o,none⟩ i cs.length acc).run P { w with drawn := k } = .ok (acc ++ l.toArray) { w with drawn := k }) /\ RL C N w cs l /\ ∀ x ∈ l,x.oneCell = true
 | [],c,o,i,acc,_ => ⟨[],by simp [loadCellsFrom],by unfold RL; trivial,by simp⟩
 | x :: r,c,o,i,acc,h => by
  unfold RC at h;obtain ⟨⟨v,h1,h2,h3⟩,h4⟩ := h;obtain ⟨l,k1,k2,k3⟩ := Ke r c o (i + 1) (acc.push v) h4
  refine ⟨v :: l,fun k => ?_,by unfold RL; exact ⟨h3,k2⟩,by simpa [h2] using k3⟩
  have h1' : World.cell? { w with drawn := k } ⟨c,o + i,none⟩ = some v := h1;simp only [ap_,loadCellsFrom,Sem.run_bind,run_load,Fi,h1',Result.andThen_ok,k1]
  simp
theorem O8 {cs : List AV} {c o : Nat} (h : RC C N w c cs o) :
  ∃ a,(∀ k,(loadCells ⟨c,o,none⟩ cs.length).run P { w with drawn := k } = .ok a { w with drawn := k }) /\ RL C N w cs a.toList /\ ∀ x ∈ a.toList,x.oneCell = true := by
 obtain ⟨l,h1,h2,h3⟩ := Ke (P := P) cs c o 0 #[] h
 exact ⟨l.toArray,by simpa [loadCells] using h1,by simpa using h2,by simpa using h3⟩
theorem Ej (hs : Sim P C w J) {x : AV} {X : Value} (hx : R C (nx J) w x X) {sz n m : Nat} (hl : lenA x = some m) (hn : n <= m) {cs : List AV} (h : Dj J sz x n = some cs) :
  (∀ w',(Builtin.lenOf X).run P w' = .ok m w') /\ ∃ a,(∀ k,(Builtin.firstCells sz n X).run P { w with drawn := k } = .ok a { w with drawn := k }) /\ RL C (nx J) w cs a.toList /\ (∀ y ∈ a.toList,y.oneCell = true) /\ cs.length = n * sz := by
 unfold Dj at h
 split at h
 ·rename_i b off sz' len cap
  simp only [lenA,ac_] at hl; subst hl
  split at h
  ·rename_i vs hvs
   unfold R at hx;obtain ⟨ad,k,rfl,_,hk,_,bw⟩ := hx;refine ⟨fun _ => rfl,?_⟩
   have bn := (Gt h).2
   rcases cq_ n with h0 | h0
   ·subst h0;rw [em_] at h bn ⊢
    simp [Di] at h; subst h
    refine ⟨#[],fun _ => by unfold Builtin.firstCells; rw [em_]; rfl,by unfold RL; trivial,by simp,rfl⟩
   ·obtain ⟨c,o,cs',T,k1,k2,k3⟩ := hs.obj b _ (ep_ hvs);have e := (bw c o k1).1 Om;obtain ⟨a,r1,r2,r3⟩ := O8 (P := P) ((k3.drop off).take _ h);refine ⟨a,?_,r2,r3,bn⟩;unfold Builtin.firstCells;rw [e,← bn]; exact r1
  ·cases h
 ·rename_i cs' sz' len cap
  simp only [lenA,ac_] at hl; subst hl;unfold R at hx;obtain ⟨ado,k,rfl,hk,_,hcl,jo,bt⟩ := hx;refine ⟨fun _ => rfl,?_⟩
  have bn := (Gt h).2
  rcases cq_ n with h0 | h0
  ·subst h0;rw [em_] at h bn ⊢
   simp [Di] at h; subst h
   refine ⟨#[],fun _ => by cases ado <;> (unfold Builtin.firstCells; rw [em_]; rfl),by unfold RL; trivial,by simp,rfl⟩
  ·obtain _ | ad := ado
   ·have := jo rfl; omega
   obtain ⟨hsp,br,hrc⟩ := bt ad rfl;have e := hsp Om;obtain ⟨b,o,sp⟩ := ad;simp only at e; subst e;obtain ⟨a,r1,r2,r3⟩ := O8 (P := P) (hrc.take _ h);refine ⟨a,?_,r2,r3,bn⟩;unfold Builtin.firstCells;rw [← bn]; exact r1
 ·simp only [lenA,ac_] at hl; subst hl
  split at h
  ·cases h;unfold R at hx;obtain ⟨rfl,_⟩ := hx
   exact ⟨fun _ => rfl,#[],fun _ => rfl,by unfold RL; trivial,by simp,by simp⟩
  ·cases h
 ·rename_i l
  simp only [lenA,ac_] at hl; subst hl;unfold R at hx;obtain ⟨s,rfl,rfl⟩ := hx
  split at h
  ·refine ⟨fun _ => by unfold Builtin.lenOf; rw [Ei]; rfl,?_⟩
   obtain ⟨t1,t2⟩ := Gt h
   have e : ((s.extract 0 n).data.map fun b => Value.int .u8 b.toNat).toList = ((s.data.map fun b => Value.int .u8 b.toNat).toList).take n := by
    simp [ByteArray.data_extract,List.map_take]
   refine ⟨_,fun _ => rfl,by rw [e,t1]; exact (RL.bytes s).take n,Re _,by omega⟩
  ·cases h
 ·cases h
theorem Ts : ∀ {cs : List AV} {l : List Nat} {vs : List Value},S2 cs = some l -> RL C N w cs vs -> ∃ bs : List UInt8,vs = bs.map (fun b => Value.int .u8 b.toNat) /\ bs.map UInt8.toNat = l
 | [],l,vs,h,hr => by
  simp only [S2,ac_] at h; subst h;cases vs with
  | nil => exact ⟨[],rfl,rfl⟩
  | cons v s => unfold RL at hr; exact hr.elim
 | x :: r,l,vs,h,hr => by
  unfold S2 at h
  split at h
  ·rename_i heq; cases heq
  ·rename_i n r' heq
   cases heq
   split at h
   ·rename_i l' hl'
    cases hb : Nat.blt n 256
    ·simp [hb] at h
    ·simp only [hb,cond_true,ac_] at h; subst h;have hlt : n < 256 := ak_ hb;cases vs with
     | nil => unfold RL at hr; exact hr.elim
     | cons v s =>
      unfold RL at hr;obtain ⟨bs,k1,k2⟩ := Ts hl' hr.2;have hv := hr.1;unfold R at hv;refine ⟨UInt8.ofNat n :: bs,?_,?_⟩
      ·rw [hv,k1]; simp [gj_ hlt]
      ·simp [k2,gj_ hlt]
   ·cases h
  ·cases h
end
section
variable {P : Program} {C C' : Ctx} {N N' : Nat} {w w' : World} {J J' : Sto}
theorem Yz {s d : TypeId} {ts : TypeDesc} {k : IntKind} (hs : P.underlying s = some ts) (hd : P.underlying d = some (.int k)) {x : AV} {X : Value} (hx : R C N w x X) {v : AV} (h : S6 k x J = some (v,J')) :
  J' = J /\ Cp P C N w (convert s d X) v := by
 unfold S6 at h
 split at h
 ·cases h;unfold R at hx; subst hx
  refine ⟨rfl,_,?_,by rw [L5]; unfold R; rfl⟩
  unfold convert;simp only [Sem.run_bind,Aa hs,Aa hd,Result.andThen_ok,Conv.intToInt,Sem.run_pure]
 ·cases h
theorem Y0 {s d : TypeId} {ts : TypeDesc} {k : FloatKind} (hs : P.underlying s = some ts) (hd : P.underlying d = some (.float k)) {x : AV} {X : Value} (hx : R C N w x X) {v : AV} (h : S7 k x J = some (v,J')) :
  J' = J /\ Cp P C N w (convert s d X) v := by
 unfold S7 at h
 split at h
 ·rw [Ag] at h;cases h;unfold R at hx; subst hx
  refine ⟨rfl,_,?_,by unfold R; rfl⟩
  unfold convert;simp only [Sem.run_bind,Aa hs,Aa hd,Result.andThen_ok,Conv.intToFloat,Sem.run_pure]
 ·cases h
theorem Y1 {s d : TypeId} {ts : TypeDesc} (hs : P.underlying s = some ts) (hd : P.underlying d = some .string) {x : AV} {X : Value} (hx : R C N w x X) {v : AV} (h : S8 x J = some (v,J')) :
  J' = J /\ Cp P C N w (convert s d X) v := by
 unfold S8 at h
 split at h
 ·cases h;refine ⟨rfl,X,?_,hx⟩;unfold R at hx;obtain ⟨b,rfl,_⟩ := hx;unfold convert;simp only [Sem.run_bind,Aa hs,Aa hd,Result.andThen_ok,Sem.run_pure]
 ·cases h
theorem An0 {X : Value} {n : Nat} (h : lenA (.nil X) = some n) : X = .slice none 0 0 /\ n = 0 := by
 unfold lenA at h
 split at h
 ·rename_i heq; cases heq
 ·rename_i heq; cases heq
 ·rename_i heq; cases heq; cases h; exact ⟨rfl,rfl⟩
 ·rename_i heq; cases heq
 ·cases h
theorem Y2 (f : Value -> ByteArray -> Sem (ForInStep ByteArray)) (hf : ∀ (b : UInt8) (acc : ByteArray),f (.int .u8 b.toNat) acc = pure (ForInStep.yield (acc.push b))) : ∀ (bs : List UInt8) (acc : ByteArray),
  (forIn (bs.map fun b => Value.int .u8 b.toNat) acc f : Sem ByteArray).run P w = .ok ⟨acc.data ++ bs.toArray⟩ w
 | [],acc => by simp
 | b :: r,acc => by
  simp only [cd_,List.forIn_cons,hf,Sem.run_bind,Sem.run_pure,Result.andThen_ok];rw [Y2 f hf r]
  congr 1
  congr 1
  simp [ByteArray.push]
theorem Rs (hs : Sim P C w J) {s d e : TypeId} (hsu : P.underlying s = some (.slice e)) (hd : P.underlying d = some .string) (he : P.underlying e = some (.int .u8)) {x : AV} {X : Value} (hx : R C (nx J) w x X) {v : AV}
  (h : Jm x J = some (v,J')) : J' = J /\ Cp P C (nx J) w (convert s d X) v := by
 unfold Jm at h
 split at h
 ·rename_i n hns hn
  split at h
  ·rename_i cs hcs
   split at h
   ·rename_i l hl
    cases h;refine ⟨rfl,?_⟩;obtain ⟨_,a,q1,q2,_,_⟩ := Ej (P := P) hs hx hn nl hcs;obtain ⟨bs,k1,k2⟩ := Ts hl q2;have q1 := q1 w.drawn
    have ft : ∀ base len cap,X = .slice base len cap -> Cp P C (nx J) w (Conv.bytesToString X) (.str l) -> Cp P C (nx J) w (convert s d X) (.str l) := by
     rintro base len cap rfl ⟨z,z1,z2⟩;refine ⟨z,?_,z2⟩;unfold convert;simp only [Sem.run_bind,Aa hsu,Aa hd,Result.andThen_ok,Aa he];exact z1
    have main : ∀ base k,X = .slice base n k -> Cp P C (nx J) w (Conv.bytesToString X) (.str l) := by
     intro base k hX;subst hX;cases base with
     | none =>
      have : a = #[] := by
       have : (Builtin.firstCells 1 n (.slice none n k)).run P w = .ok #[] w := rfl;rw [this] at q1; cases q1; rfl
      subst this
      have hb : bs = [] := by simpa using k1.symm
      subst hb
      simp at k2; subst k2
      exact ⟨.string .empty,rfl,by unfold R; exact ⟨_,rfl,rfl⟩⟩
     | some ad =>
      refine ⟨.string ⟨bs.toArray⟩,?_,by unfold R; exact ⟨_,rfl,by simpa [Bl] using k2⟩⟩
      unfold Builtin.firstCells at q1;rw [ex_] at q1;unfold Conv.bytesToString;simp only [Sem.run_bind,q1,Result.andThen_ok];rw [← Array.forIn_toList,k1]
      rw [Y2 _ (fun b acc => by simp) bs]
      simp
    unfold R at hx
    split at hx <;> first | (simp [lenA] at hn; done) | (simp [Wh] at hns; done) | skip
    ·rename_i y
     obtain ⟨rfl,d6⟩ := hx;obtain ⟨rfl,rfl⟩ := An0 hn;exact ft _ _ _ rfl (main _ _ rfl)
    ·obtain ⟨ad,k,rfl,_⟩ := hx;simp only [lenA,ac_] at hn; subst hn;exact ft _ _ _ rfl (main _ _ rfl)
    ·obtain ⟨ad,k,rfl,_⟩ := hx;simp only [lenA,ac_] at hn; subst hn;exact ft _ _ _ rfl (main _ _ rfl)
   ·cases h
  ·cases h
 ·cases h
theorem O9 (w : World) (need old : Nat) (e : TypeId) : need <= grownCap w need old e := by
 unfold grownCap Question.cut; simp
theorem Rt (hs : Sim P C w J) {s d e : TypeId} (hsu : P.underlying s = some .string) (hd : P.underlying d = some (.slice e)) (he : P.underlying e = some (.int .u8)) {x : AV} {X : Value} (hx : R C (nx J) w x X) {v : AV}
  (h : Jl x J = some (v,J')) : J' = J /\ Hx P C w J (convert s d X) v J' := by
 unfold Jl at h
 split at h
 ·rename_i l
  unfold R at hx;obtain ⟨b,rfl,hb⟩ := hx
  have key : v = .sv (Hs l) 1 l.length none /\ J' = J := by
   split at h
   ·cases h; exact ⟨rfl,rfl⟩
   ·cases h; exact ⟨rfl,rfl⟩
  obtain ⟨rfl,rfl⟩ := key;refine ⟨rfl,?_⟩
  have hsz : l.length = b.size := by rw [← hb,Ei]
  let cs : Array Value := (b.data.map fun b => Value.int .u8 b.toNat) ++ Array.replicate (grownCap w b.size 0 e - b.size) (.int .u8 0)
  let w' : World := ({ w with heap := w.heap.push (.cells cs e (0,0)),drawn := w.drawn + 1 } : World).freeze ⟨w.heap.size,cs.size,none⟩ 1
  have bl : (convert s d (.string b)).run P w = .ok (.slice (some ⟨w.heap.size,0,none⟩) b.size (grownCap w b.size 0 e)) w' := by
   unfold convert;simp only [Sem.run_bind,Aa hsu,Aa hd,Result.andThen_ok,Aa he];unfold Conv.stringToBytes
   simp [-World.alloc_eq,-World.drew_eq,Question.forced,newRow,markStringish,World.shape?,grownCap,w',cs]
  have hp : ∃ fz,Pu w w' (.cells cs e fz) := by
   refine ⟨(cs.size,cs.size + 1),by simp [w',World.freeze],?_,fun x hx => ?_,by simp [w',World.freeze]⟩
   ·simp [w',World.freeze,Array.getElem_modify]
   ·simp only [w',World.freeze]
    rw [if_neg (by decide)]
    simp only [dw_];rw [if_neg Om];rw [ei_ hx]; exact (ce_ hx).symm
  obtain ⟨fz,p⟩ := hp;obtain ⟨s1,s2⟩ := hs.push p;refine ⟨_,_,w',C,bl,rfl,s1,s2,?_⟩;unfold R
  refine ⟨_,_,by rw [hsz],by rw [hsz]; exact O9 _ _ _ _,fun q hq => (by cases hq),by rw [O7,ex_],fun hh => (by cases hh),fun ad ha => ?_⟩
  cases ha;refine ⟨fun _ => rfl,fun _ ho => ?_,?_⟩
  ·have := hs.own_lt ho; simp at this
  ·refine fl_ p.here (vs := (b.data.map fun b => Value.int .u8 b.toNat).toList) (by rw [← hb]; exact RL.bytes b) (Re b) fun i v hi => ?_
   have hlt := (ad_.1 hi).1;rw [be_]
   rw [di_ (by simpa using hlt)]
   rwa [bg_] at hi
 ·cases h
end
end Go.AM
