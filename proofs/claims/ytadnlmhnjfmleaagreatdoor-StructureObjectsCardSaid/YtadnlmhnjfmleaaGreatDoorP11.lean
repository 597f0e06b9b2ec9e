/- A part of the proof; shortened by program. -/
import Derived.Test.YtadnlmhnjfmleaaGreatDoorP10
set_option maxRecDepth 100000
set_option maxHeartbeats 4000000
set_option linter.unusedSimpArgs false
set_option linter.unusedVariables false
namespace Go.AM
open Go
def Jg : List (Tr AV × AV) -> List (Ad × AV) -> Prop
 | [],[] => True
 | (tm,v) :: l,(ρ,u) :: m => Has tm ρ /\ v = u /\ Jg l m
 | _,_ => False
theorem Jg.append : ∀ {l l' : List (Tr AV × AV)} {m m' : List (Ad × AV)},Jg l m -> Jg l' m' -> Jg (l ++ l') (m ++ m')
 | [],l',[],m',_,h => h
 | (tm,v) :: l,l',(ρ,u) :: m,m',h,k => ⟨h.1,h.2.1,Jg.append h.2.2 k⟩
 | [],_,_ :: _,_,h,_ => h.elim
 | _ :: _,_,[],_,h,_ => h.elim
theorem Jg.reverse : ∀ {l : List (Tr AV × AV)} {m : List (Ad × AV)},Jg l m -> Jg l.reverse m.reverse
 | [],[],h => h
 | (tm,v) :: l,(ρ,u) :: m,h => by
  rw [dd_,dd_];exact Jg.append (Jg.reverse h.2.2) ⟨h.1,h.2.1,trivial⟩
 | [],_ :: _,h => h.elim
 | _ :: _,[],h => h.elim
theorem Jg.get : ∀ {l : List (Tr AV × AV)} {m : List (Ad × AV)},Jg l m -> ∀ (j : Nat) (t : Tr AV) (v : AV),l[j]? = some (t,v) -> ∃ ρ,m[j]? = some (ρ,v) /\ Has t ρ
 | [],[],_,j,t,v,h => by simp at h
 | (tm,v) :: l,(ρ,u) :: m,h,0,t,x,hj => by simp at hj; obtain ⟨rfl,rfl⟩ := hj; obtain ⟨h1,rfl,_⟩ := h; exact ⟨ρ,rfl,h1⟩
 | (tm,v) :: l,(ρ,u) :: m,h,j + 1,t,x,hj => by
  obtain ⟨ρ',h1,h2⟩ := Jg.get h.2.2 j t x (by simpa using hj)
  exact ⟨ρ',by simpa using h1,h2⟩
 | [],_ :: _,h,_,_,_,_ => h.elim
 | _ :: _,[],h,_,_,_,_ => h.elim
abbrev KD := Ad -> Sto -> List Sto -> List (Ad × AV) -> Prop
def TD (E : Env) (nt : Nat) (Rr : Rec) (ops r : List Oper) (K : KD) (ρ : Ad) (J : Sto) (eps : List Sto) (log : List (Ad × AV)) : Prop :=
 ∀ (tm : Tr AV) (df : List (Nat × List AV)) (dl : List (Tr AV × AV)),Has tm ρ -> Jg dl log -> ∃ d',L1 E ops Rr r ⟨⟨tm,nt,df,J⟩,eps,dl⟩ = some d' /\ d'.s.nt = nt /\ d'.s.df = df /\ ∃ ρ' log',Has d'.s.tm ρ' /\ Jg d'.log log' /\ K ρ' d'.s.sto d'.eps log'
section
variable {E : Env} {nt B : Nat} {df : List (Nat × List AV)} {Q : Cz} {Rr : Rec} {ops r : List Oper} {K : KD} {ρ : Ad} {J : Sto} {eps : List Sto} {log : List (Ad × AV)}
theorem Ii (h : K ρ J eps log) : TD E nt Rr ops [] K ρ J eps log := fun tm df dl ht hl => ⟨_,rfl,rfl,rfl,ρ,log,ht,hl,h⟩
theorem Aoi {o : Oper} {v : AV} {J₁ : Sto} {b : Bool} (hg : ∀ tm,Has tm ρ -> B7 ops o tm = some true) (he : Bv (A5 E o.op) = b) (hd : B9 nt o.dst = true) (h : A0 E Rr o.op ρ J v J₁)
  (k : TD E nt Rr ops r K (Dr o.dst v ρ) (cond b J₁ J) (cond b (J₁ :: eps) eps) ((ρ,v) :: log)) : TD E nt Rr ops (o :: r) K ρ J eps log := by
 intro tm df dl ht hl;obtain ⟨tm',h1,h2⟩ := C8 (dst := o.dst) hd ht v
 have : Qe E ops o Rr ⟨⟨tm,nt,df,J⟩,eps,dl⟩ = some ⟨⟨tm',nt,df,cond b J₁ J⟩,cond b (J₁ :: eps) eps,(tm,v) :: dl⟩ := by
  unfold Qe;simp only [hg tm ht,h tm ht,h1,he];cases b <;> rfl
 obtain ⟨d',k1,k2⟩ := k tm' df ((tm,v) :: dl) h2 ⟨ht,rfl,hl⟩
 exact ⟨d',by simp only [L1,this]; exact k1,k2⟩
theorem Akt {op : Op} {dst : Option Nat} {ty : Nat} {pos : String} {after : Array Edge} {v : AV} {J₁ : Sto} {b : Bool} (he : Bv (A5 E op) = b) (hd : B9 nt dst = true) (h : A0 E Rr op ρ J v J₁)
  (k : TD E nt Rr ops r K (Dr dst v ρ) (cond b J₁ J) (cond b (J₁ :: eps) eps) ((ρ,v) :: log)) : TD E nt Rr ops ({ dst := dst,op := op,type := ty,pos := pos,after := after,guard := none } :: r) K ρ J eps log :=
 Aoi (o := { dst := dst,op := op,type := ty,pos := pos,after := after,guard := none }) (fun _ _ => rfl) he hd h k
theorem Pk {o oj : Oper} {v : AV} {J₁ : Sto} {j d : Nat} {b want e : Bool} (hg : o.guard = some (j,want)) (hj : ops[j]? = some oj) (hdj : oj.dst = some d) (hb : Ad.at ρ d = some (.bool b)) (hw : cond b want (!want) = true)
  (he : Bv (A5 E o.op) = e) (hd : B9 nt o.dst = true) (h : A0 E Rr o.op ρ J v J₁)
  (k : TD E nt Rr ops r K (Dr o.dst v ρ) (cond e J₁ J) (cond e (J₁ :: eps) eps) ((ρ,v) :: log)) : TD E nt Rr ops (o :: r) K ρ J eps log :=
 Aoi (fun tm ht => by rw [F8 ht hg hj hdj hb,hw]) he hd h k
def Obl (E : Env) (eps : List Sto) : List Ann -> List Oper -> List (Ad × AV) -> Prop
 | a :: az,o :: os,(ρ,v) :: l => (match a.cls with
  | .read => ∀ J ∈ (eps.drop a.lo).take (a.hi + 1 - a.lo),∃ J',A0 E (fun _ _ _ => none) o.op ρ J v J'
  | _ => True) /\ Obl E eps az os l
 | _,_,_ => True
theorem Obl.get {E : Env} {eps : List Sto} : ∀ {az : List Ann} {os : List Oper} {l : List (Ad × AV)},Obl E eps az os l -> ∀ (j : Nat) (a : Ann) (o : Oper) (ρ : Ad) (v : AV),az[j]? = some a -> os[j]? = some o -> l[j]? = some (ρ,v) -> a.cls = .read ->
  ∀ J ∈ (eps.drop a.lo).take (a.hi + 1 - a.lo),∃ J',A0 E (fun _ _ _ => none) o.op ρ J v J'
 | a :: az,o :: os,(ρ,v) :: l,h,0,a',o',ρ',v',ha,ho,hl,hc => by
  simp at ha ho hl; obtain ⟨rfl,rfl⟩ := hl; subst ha ho
  have := h.1; rw [hc] at this; exact this
 | a :: az,o :: os,(ρ,v) :: l,h,j + 1,a',o',ρ',v',ha,ho,hl,hc => Obl.get h.2 j a' o' ρ' v' (by simpa using ha) (by simpa using ho) (by simpa using hl) hc
 | [],_,_,_,_,_,_,_,_,h,_,_,_ => by simp at h
 | _ :: _,[],_,_,_,_,_,_,_,_,h,_,_ => by simp at h
 | _ :: _,_ :: _,[],_,_,_,_,_,_,_,_,h,_ => by simp at h
theorem Ij {ops : Array Oper} {anns : List Ann} (h : Id E ops = some anns) : Hv ops (Region.before ops).toList = true /\ Jo ops = true /\ K3 (Region.before ops).toList (Bw E ops.toList 0) = true /\
  anns = Iw E (Region.before ops).toList (Bw E ops.toList 0) ops.toList 0 := by
 unfold Id at h;simp only at h
 split at h
 ·rename_i ec
  cases h;simp only [ae_] at ec;obtain ⟨⟨⟨c1,c2⟩,c3⟩,_⟩ := ec;exact ⟨c1,c2,c3,rfl⟩
 ·cases h
theorem Aje {id : Nat} {ops : Array Oper} {anns : List Ann} (hm : E.P.follows .mixedOrders = true) (hR : Ao E Rr) (ha : Id E ops = some anns)
  (h : TD E nt Rr ops.toList ops.toList (fun ρ' J' eps log => Obl E eps.reverse anns ops.toList log.reverse /\ Q .normal ρ' J') ρ J [J] []) : T E nt df B (.region id ops true) Q ρ J := by
 intro ro n hn C w tm a ht st hB;obtain ⟨c1,c2,c3,c4⟩ := Ij ha;obtain ⟨d,k1,k2,k3,ρ',log',k4,k5,k6,k7⟩ := h tm df [] ht trivial;refine wpIn_mono (Acp hm hR st c1 c2 c3 k1 fun j o t v ho hl hc hg Jk hJ => ?_) fun e a' w' he => ?_
 ·obtain ⟨ρj,q1,q2⟩ := k5.reverse.get j t v hl
  have ca := Gb (E := E) (b := (Region.before ops).toList) (effs := Bw E ops.toList 0) ops.toList 0 j o (by simpa using ho)
  rw [← c4] at ca;simp only [be_] at ca
  obtain ⟨J',hto⟩ := k6.get j _ o ρj v ca (by simpa using ho) q1 hc Jk (by simp only [E9]; exact hJ)
  have := hto t q2;refine ⟨J',?_⟩
  have hne : Bv (A5 E o.op) = false := by rw [hc]; rfl
  rw [← I2 (Rr := fun _ _ _ => none) hc]; exact this
 ·obtain ⟨y,hy,C',h1,h2,h3⟩ := he;rw [an_] at hy;subst hy;obtain ⟨⟨tm',nt',df',J'⟩,eps',dl'⟩ := d;simp only at k2 k3;subst k2 k3;exact ⟨.normal,tm',ρ',J',C',h1,k4,k7,h2,bc_ hB h3.next,h3.base hB⟩
def Aku (E : Env) (ops : List Oper) : Bool := ops.all fun o => !Bv (A5 E o.op)
def KD0 (Q : Cz) (J : Sto) : KD := fun ρ' J' eps _ => J' = J /\ eps = [J] /\ Q .normal ρ' J
theorem Ara {id : Nat} {ops : Array Oper} {anns : List Ann} (hm : E.P.follows .mixedOrders = true) (ha : Id E ops = some anns) (hc : Aku E ops.toList = true)
  (h : TD E nt (fun _ _ _ => none) ops.toList ops.toList (KD0 Q J) ρ J [J] []) : T E nt df B (.region id ops true) Q ρ J := by
 intro ro n hn C w tm a ht st hB;obtain ⟨c1,c2,c3,c4⟩ := Ij ha;obtain ⟨d,k1,k2,k3,ρ',log',k4,k5,k6,k7,k8⟩ := h tm df [] ht trivial;refine wpIn_mono (Acp hm do_ st c1 c2 c3 k1 fun j o t v ho hl hcl hg Jk hJ => ?_) fun e a' w' he => ?_
 ·rw [k7] at hJ
  have hJ' : Jk = J := by
   have := es_ (ct_ hJ)
   simpa using this
  subst hJ';obtain ⟨log,eps,lex,g2,g3,g4,g5⟩ := Kq k1;simp only [eg_,bt_,dd_] at g2 g3;obtain ⟨x1,x2,x3,x4,x5⟩ := Vs lex
  obtain ⟨t',v',t₁,J₀,J₁,y1,y2,y3,y4,y5,y6⟩ := x5 j o (by simpa using ho)
  rw [g2] at hl;rw [hl] at y1; cases y1
  have n7 : eps = [] := by
   rw [k7] at g3
   simpa using g3.symm
  rw [n7] at y3
  have hJ0 : J₀ = Jk := by
   have := (ad_.1 y3).1;simp only [dc_] at this
   have h0 : cnt E ops.toList j = 0 := by omega
   rw [h0] at y3; simpa using y3.symm
  subst hJ0
  have hne : Bv (A5 E o.op) = false := by rw [hcl]; rfl
  rcases y5 with ⟨z1,z2⟩ | ⟨z1,z2⟩
  ·exact ⟨J₁,by rw [← I2 (Rr := fun _ _ _ => none) hcl]; exact z2⟩
  ·rw [z1] at hg; cases hg
 ·obtain ⟨y,hy,C',h1,h2,h3⟩ := he;rw [an_] at hy;subst hy;obtain ⟨⟨tm',nt',df',J'⟩,eps',dl'⟩ := d;simp only at k2 k3 k6;subst k2 k3 k6;exact ⟨.normal,tm',ρ',J',C',h1,k4,k8,h2,bc_ hB h3.next,h3.base hB⟩
def Qp (E : Env) : List Ann -> List Oper -> Nat -> Bool
 | a :: az,o :: os,c => (match a.cls with
  | .read => Nat.beq a.lo c && Nat.beq a.hi c
  | _ => true) && Qp E az os (cond (Bv (A5 E o.op)) (c + 1) c)
 | _,_,_ => true
theorem W4 {E : Env} : ∀ {az : List Ann} {os : List Oper} {c : Nat},Qp E az os c = true -> ∀ (j : Nat) (a : Ann) (o : Oper),az[j]? = some a -> os[j]? = some o -> a.cls = .read -> a.lo = c + cnt E os j /\ a.hi = c + cnt E os j
 | a :: az,o :: os,c,h,0,a',o',ha,ho,hc => by
  simp at ha ho; subst ha ho
  simp only [Qp,hc,ae_] at h
  exact ⟨by simp only [cnt]; exact aa_ h.1.1,by simp only [cnt]; exact aa_ h.1.2⟩
 | a :: az,o :: os,c,h,j + 1,a',o',ha,ho,hc => by
  simp only [Qp,ae_] at h
  have := W4 h.2 j a' o' (by simpa using ha) (by simpa using ho) hc
  simp only [cnt];cases he : Bv (A5 E o.op) with
  | true => rw [he] at this; simp only [cond_true] at this; rw [if_pos rfl]; omega
  | false => rw [he] at this; simp only [cond_false] at this; rw [if_neg (by simp)]; omega
 | [],_,_,_,_,_,_,h,_,_ => by simp at h
 | _ :: _,[],_,_,_,_,_,_,h,_ => by simp at h
def KDS (Q : Cz) : KD := fun ρ' J' _ _ => Q .normal ρ' J'
theorem Arb {id : Nat} {ops : Array Oper} {anns : List Ann} (hm : E.P.follows .mixedOrders = true) (hR : Ao E Rr) (ha : Id E ops = some anns) (hp : Qp E anns ops.toList 0 = true)
  (h : TD E nt Rr ops.toList ops.toList (KDS Q) ρ J [J] []) : T E nt df B (.region id ops true) Q ρ J := by
 intro ro n hn C w tm a ht st hB;obtain ⟨c1,c2,c3,c4⟩ := Ij ha;obtain ⟨d,k1,k2,k3,ρ',log',k4,k5,k6⟩ := h tm df [] ht trivial;refine wpIn_mono (Acp hm hR st c1 c2 c3 k1 fun j o t v ho hl hcl hg Jk hJ => ?_) fun e a' w' he => ?_
 ·have ca := Gb (E := E) (b := (Region.before ops).toList) (effs := Bw E ops.toList 0) ops.toList 0 j o (by simpa using ho)
  rw [← c4] at ca;simp only [be_] at ca
  obtain ⟨q1,q2⟩ := W4 hp j _ o ca (by simpa using ho) hcl
  simp only [be_,E9] at q1 q2
  rw [q1,q2,show cnt E ops.toList j + 1 - cnt E ops.toList j = 1 by omega] at hJ
  obtain ⟨log,eps,lex,g2,g3,g4,g5⟩ := Kq k1;simp only [eg_,bt_,dd_] at g2 g3;obtain ⟨x1,x2,x3,x4,x5⟩ := Vs lex
  obtain ⟨t',v',t₁,J₀,J₁,y1,y2,y3,y4,y5,y6⟩ := x5 j o (by simpa using ho)
  rw [g2] at hl;rw [hl] at y1; cases y1
  have cd : Jk = J₀ := by
   rw [g3] at hJ;obtain ⟨i,hi⟩ := cr_.1 hJ;rw [dm_] at hi
   split at hi
   ·rename_i hlt
    have h0 : i = 0 := by omega
    subst h0;rw [fe_,dx_] at hi;have e1 : ([J] ++ eps)[cnt E ops.toList j]? = some J₀ := y3;rw [e1] at hi; cases hi; rfl
   ·cases hi
  subst cd
  have hne : Bv (A5 E o.op) = false := by rw [hcl]; rfl
  rcases y5 with ⟨z1,z2⟩ | ⟨z1,z2⟩
  ·rw [I2 hcl] at z2; exact ⟨J₁,z2⟩
  ·rw [z1] at hg; cases hg
 ·obtain ⟨y,hy,C',h1,h2,h3⟩ := he;rw [an_] at hy;subst hy;obtain ⟨⟨tm',nt',df',J'⟩,eps',dl'⟩ := d;simp only at k2 k3;subst k2 k3;exact ⟨.normal,tm',ρ',J',C',h1,k4,k6,h2,bc_ hB h3.next,h3.base hB⟩
theorem Bo {l : List (Nat × List AV × Sto × AV × Sto)} {f : Operand} {args : Array Operand} {tys : Array Nat} {k : Nat} {first cap vs : List AV} {v : AV} {J' : Sto} (hf : Ai E ρ f = some (.fn (.func k) first cap)) (ha : La E ρ args.toList = some vs)
  (hr : Eq l (.fn k) (first ++ vs ++ cap) J = some (v,J')) : A0 E (Eq l) (.call ⟨.value f,args,tys⟩) ρ J v J' := Aq3 hf ha rfl hr
theorem Bx {f : Nat} {a : List AV} {s : Sto} {v : AV} {s' : Sto} {r : List (Nat × List AV × Sto × AV × Sto)} : Eq ((f,a,s,v,s') :: r) (.fn f) a s = some (v,s') := by
 simp only [Eq,and_self,if_true]
end
section
variable {E : Env} {nt B : Nat} {df : List (Nat × List AV)} {ρ ρ' : Ad} {J J' : Sto} {K : Ad -> Sto -> Prop}
theorem Ajf {v : AV} {sz : Nat} {cs : List AV} (hc : v.cellsN sz = some cs) : cs.length = sz := by
 unfold AV.cellsN at hc
 split at hc <;> try (cases hc; done)
 ·cases hb' : Nat.beq ‹List AV›.length sz with
  | true => rw [hb'] at hc; cases hc; exact aa_ hb'
  | false => rw [hb'] at hc; cases hc
 ·cases hb' : Nat.beq sz 1 with
  | true => rw [hb'] at hc; cases hc; exact (aa_ hb').symm
  | false => rw [hb'] at hc; cases hc
theorem Ajg {v : AV} {sz N : Nat} {cs : List AV} (hc : v.cellsN sz = some cs) (hv : AV.und N v = true) : AV.unds N cs = true := by
 unfold AV.cellsN at hc
 split at hc <;> try (cases hc; done)
 ·cases hb' : Nat.beq ‹List AV›.length sz with
  | true => rw [hb'] at hc; cases hc; exact hv
  | false => rw [hb'] at hc; cases hc
 ·cases hb' : Nat.beq sz 1 with
  | true => rw [hb'] at hc; cases hc; simp only [AV.unds,hv,cy_]
  | false => rw [hb'] at hc; cases hc
theorem Ub {ops r : List Oper} {t d e sz : Nat} {agg : Bool} {x y : Operand} {ty ty' ty'' : Nat} {pos pos' pos'' : String} {after after' after'' : Array Edge} {z cs : List AV} {v u : AV} (hz : zI E.P t = some z) (hi : ldI E.P t = some (sz,agg)) (hl : Nat.beq z.length sz = true)
  (hy : Ai E ρ y = some u) (hy' : ∀ p,Ai E ((d,p) :: ρ) y = some u) (hv : Ai E ρ x = some v) (hx : ∀ p,Ai E ((e,u) :: (d,p) :: ρ) x = some v) (hde : Nat.beq e d = false) (hc : v.cellsN sz = some cs) (hd : Nat.blt d nt = true) (he : Nat.blt e nt = true) [Abw E] (hdf : df = [])
  (k : TO E nt df B ops r K ((e,u) :: (d,.pv cs) :: ρ) J) :
  TO E nt df B ops ({ dst := some d,op := .alloc t,type := ty,pos := pos,after := after,guard := none } :: { dst := some e,op := .assign y,type := ty'',pos := pos'',after := after'',guard := none } ::
   { dst := none,op := .store t (.tmp d) x,type := ty',pos := pos',after := after',guard := none } :: r) K ρ J := by
 subst hdf;intro ro n hn C w tm a ht st hB;have hwf := st.sim.wfs;have gp : ∀ i u,Ad.at ρ i = some u -> AV.und (nx J) u = true := fun i u hu => R.und _ _ (st.tmps i u (ht i u hu))
 have hou : ∀ (o : Operand) v,Ai E ρ o = some v -> AV.und (nx J) v = true := fun o v ho => by
  have hvR := Bc st.glob st.tmps o;rw [ht.opd ho] at hvR;exact R.und _ _ hvR
 have hcu := Ajg hc (hou x v hv)
 have hcs : cs.length = z.length := by rw [Ajf hc]; exact (aa_ hl).symm
 have key : TO E nt [] B ops ({ dst := some d,op := .alloc t,type := ty,pos := pos,after := after,guard := none } :: { dst := some e,op := .assign y,type := ty'',pos := pos'',after := after'',guard := none } ::
   { dst := none,op := .store t (.tmp d) x,type := ty',pos := pos',after := after',guard := none } :: r) K ρ J := by
  refine Rz noR (J₁ := J.new (.cells z)) (ρ₁ := (d,.pr (nx J) 0) :: ρ) (fun tm' ht' => ⟨_,Zq hz hd,ht'.put d _⟩) ?_
  refine Zo noR rfl he (L6 (hy' _)) ?_
  refine Zo noR rfl rfl (A6 (vs := z) (vs' := cs) (ad := nx J) (off := 0) (v := v) (cs := cs) hi (by simp [Ai,Dr,Ad.at,bm_,hde]) (hx _) hc Bj (Cx hcs)) ?_
  simp only [Dr];refine Aoc J ((e,u) :: (d,.pv cs) :: ρ) ?_ hB ?_ k
  ·refine ag_ hwf (by rw [Ae,Ac]; exact fm_ _) fun b hb => ?_
   rw [a_,if_neg Om,ab_,if_neg Om]
  ·intro i u' hu;simp only [Ad.at] at hu ⊢;cases hb : Nat.beq e i with
   | true =>
    rw [hb] at hu; simp only [cond_true,ac_] at hu ⊢;subst hu;exact ⟨_,rfl,.same (hou y _ hy)⟩
   | false =>
    rw [hb] at hu;simp only [cond_false] at hu ⊢;cases hb2 : Nat.beq d i with
    | true =>
     rw [hb2] at hu; simp only [cond_true,ac_] at hu ⊢;subst hu
     refine ⟨_,rfl,.pr (vs := cs) (by rw [a_,if_pos rfl]) ?_ (fy_ hcu)⟩
     cases hg : J.get (nx J) with
     | none => rfl
     | some O => exact absurd (hwf _ _ hg).1 (Nat.lt_irrefl _)
    | false => rw [hb2] at hu; exact ⟨u',hu,.same (gp i u' hu)⟩
 exact key ro n hn C w tm a ht st hB
def KDI (Q : Cz) (J : Sto) : KD := fun ρ' J' eps _ => J' = J /\ (∀ e ∈ eps,e = J) /\ Q .normal ρ' J
theorem Arc {Q : Cz} {Rr : Rec} {id : Nat} {ops : Array Oper} {anns : List Ann} (hm : E.P.follows .mixedOrders = true) (hR : Ao E Rr) (ha : Id E ops = some anns)
  (h : TD E nt Rr ops.toList ops.toList (KDI Q J) ρ J [J] []) : T E nt df B (.region id ops true) Q ρ J := by
 intro ro n hn C w tm a ht st hB;obtain ⟨c1,c2,c3,c4⟩ := Ij ha;obtain ⟨d,k1,k2,k3,ρ',log',k4,k5,k6,k7,k8⟩ := h tm df [] ht trivial;refine wpIn_mono (Acp hm hR st c1 c2 c3 k1 fun j o t v ho hl hcl hg Jk hJ => ?_) fun e a' w' he => ?_
 ·have hJ' : Jk = J := k7 Jk (by simpa using es_ (ct_ hJ))
  subst hJ';obtain ⟨log,eps,lex,g2,g3,g4,g5⟩ := Kq k1;simp only [eg_,bt_,dd_] at g2 g3;obtain ⟨x1,x2,x3,x4,x5⟩ := Vs lex
  obtain ⟨t',v',t₁,J₀,J₁,y1,y2,y3,y4,y5,y6⟩ := x5 j o (by simpa using ho)
  rw [g2] at hl;rw [hl] at y1; cases y1
  have hJ0 : J₀ = Jk := by
   refine k7 J₀ ?_
   have : J₀ ∈ d.eps.reverse := by rw [g3]; exact af_ y3
   simpa using this
  subst hJ0
  have hne : Bv (A5 E o.op) = false := by rw [hcl]; rfl
  rcases y5 with ⟨z1,z2⟩ | ⟨z1,z2⟩
  ·rw [I2 hcl] at z2; exact ⟨J₁,z2⟩
  ·rw [z1] at hg; cases hg
 ·obtain ⟨y,hy,C',h1,h2,h3⟩ := he;rw [an_] at hy;subst hy;obtain ⟨⟨tm',nt',df',J'⟩,eps',dl'⟩ := d;simp only at k2 k3 k6;subst k2 k3 k6;exact ⟨.normal,tm',ρ',J',C',h1,k4,k8,h2,bc_ hB h3.next,h3.base hB⟩
theorem Cc {f f' : Nat} {a a' : List AV} {s s' t : Sto} {v : AV} {r : List (Nat × List AV × Sto × AV × Sto)} {o : Option (AV × Sto)} (h : f' ≠ f) (k : Eq r (.fn f') a' t = o) : Eq ((f,a,s,v,s') :: r) (.fn f') a' t = o := by
 simp only [Eq]; rw [if_neg (fun hh => h hh.1)]; exact k
theorem Cy {a t b off sz : Nat} {agg : Bool} {vs : List AV} {v : AV} {r : List ResultVar} {l : List AV} (hi : ldI E.P t = some (sz,agg)) (ha : Ad.at ρ a = some (.pr b off)) (hc : J.cells b = some vs) (hv : Be sz agg (vs.drop off) = some v) (hr : T4 E ρ J r = some l) :
  T4 E ρ J (.cell a t :: r) = some (v :: l) := by
 obtain ⟨ti,h1,h2,h3⟩ := Qj hi;subst h2 h3;simp only [T4,h1,ha,hc,hv,hr]
theorem En {t : Nat} {v : AV} {r : List ResultVar} {l : List AV} (hv : Ad.at ρ t = some v) (hr : T4 E ρ J r = some l) : T4 E ρ J (.tmp t :: r) = some (v :: l) := by
 simp only [T4,hv,hr]
theorem Dd {J τ : Sto} {sz : Nat} : Fz J τ (.nil (.slice none 0 0)) (.sv [] sz 0 none) := .nils (fun q hq => by cases hq)
end
abbrev SM (α : Type) := List (Str × α)
def kS (s : Str) : Key := .str (s.map UInt8.toNat)
def B1 {α : Type} (enc : α -> AV) (m : SM α) : List (Key × AV) := m.map fun p => (kS p.1,enc p.2)
def SM.get {α : Type} : SM α -> Str -> Option α
 | [],_ => none
 | (k,v) :: r,s => if s = k then some v else SM.get r s
def SM.set {α : Type} : SM α -> Str -> α -> SM α
 | [],_,_ => []
 | (k,v) :: r,s,x => if s = k then (k,x) :: r else (k,v) :: SM.set r s x
def SM.ins {α : Type} : SM α -> Str -> α -> SM α
 | [],s,x => [(s,x)]
 | (k,v) :: r,s,x => if Key.lt (kS s) (kS k) then (s,x) :: (k,v) :: r else (k,v) :: SM.ins r s x
def SM.put {α : Type} (m : SM α) (s : Str) (x : α) : SM α := match m.get s with | some _ => m.set s x | none => m.ins s x
def SM.has (m : SM Bool) (s : Str) : Bool := (m.get s).getD false
theorem Acq (a b : Str) : Key.eq (kS a) (kS b) = decide (a = b) := by
 show Fl _ _ = _
 by_cases h : a = b
 ·rw [decide_eq_true h]; subst h; exact (Fp _ _).2 rfl
 ·rw [decide_eq_false h];cases hb : Fl (a.map UInt8.toNat) (b.map UInt8.toNat) with
  | true => exact absurd (Ev.1 ((Fp _ _).1 hb)) h
  | false => rfl
section
variable {α : Type} {enc : α -> AV} {m : SM α} {s t : Str} {x : α}
theorem Hm : ∀ {m : SM α},Dl (kS s) (B1 enc m) = (m.get s).map enc
 | [] => rfl
 | (k,v) :: r => by
  show cond (Key.eq (kS s) (kS k)) (some (enc v)) (Dl (kS s) (B1 enc r)) = _
  rw [Acq,SM.get]
  by_cases h : s = k
  ·rw [decide_eq_true h,cond_true,if_pos h]; rfl
  ·rw [decide_eq_false h,cond_false,if_neg h]; exact Hm
theorem Zz : ∀ {m : SM α},Q7 (kS s) (enc x) (B1 enc m) = B1 enc (m.set s x)
 | [] => rfl
 | (k,v) :: r => by
  show cond (Key.eq (kS s) (kS k)) ((kS k,enc x) :: B1 enc r) ((kS k,enc v) :: Q7 (kS s) (enc x) (B1 enc r)) = _
  rw [Acq,SM.set]
  by_cases h : s = k
  ·rw [decide_eq_true h,cond_true,if_pos h]; rfl
  ·rw [decide_eq_false h,cond_false,if_neg h,Zz]; rfl
theorem Z0 : ∀ {m : SM α},Ov (kS s) (enc x) (B1 enc m) = B1 enc (m.ins s x)
 | [] => rfl
 | (k,v) :: r => by
  show cond (Key.lt (kS s) (kS k)) ((kS s,enc x) :: (kS k,enc v) :: B1 enc r) ((kS k,enc v) :: Ov (kS s) (enc x) (B1 enc r)) = _
  rw [SM.ins];cases h : Key.lt (kS s) (kS k)
  ·rw [cond_false,if_neg (by simp),Z0]; rfl
  ·rw [cond_true,if_pos rfl]; rfl
theorem Aoj : mput (kS s) (enc x) (B1 enc m) = B1 enc (m.put s x) := by
 unfold mput SM.put;rw [Hm];cases m.get s with
 | none => exact Z0
 | some y => exact Zz
theorem SM.get_set : ∀ {m : SM α},(m.set s x).get t = if t = s /\ (m.get s).isSome then some x else m.get t
 | [] => by simp [SM.set,SM.get]
 | (k,v) :: r => by
  unfold SM.set
  by_cases h : s = k
  ·subst h;rw [if_pos rfl];simp only [SM.get,if_true,fz_,and_true]
   by_cases ht : t = s
   ·simp [ht]
   ·simp [ht]
  ·rw [if_neg h];simp only [SM.get,if_neg h]
   by_cases ht : t = k
   ·subst ht;rw [if_pos rfl,if_pos rfl,if_neg (fun hh => h hh.1.symm)]
   ·rw [if_neg ht,if_neg ht]; exact SM.get_set
theorem SM.get_ins : ∀ {m : SM α},m.get s = none -> (m.ins s x).get t = if t = s then some x else m.get t
 | [],_ => by simp [SM.ins,SM.get]
 | (k,v) :: r,hn => by
  have hk : s ≠ k := fun h => by simp [SM.get,h] at hn
  have hr : SM.get r s = none := by simpa [SM.get,hk] using hn
  unfold SM.ins
  split
  ·simp only [SM.get]
  ·simp only [SM.get]
   by_cases ht : t = k
   ·subst ht; rw [if_pos rfl,if_neg (fun h => hk h.symm),if_pos rfl]
   ·rw [if_neg ht,if_neg ht]; exact SM.get_ins hr
theorem SM.get_put : (m.put s x).get t = if t = s then some x else m.get t := by
 unfold SM.put;cases h : m.get s with
 | none => exact SM.get_ins h
 | some y => simp only [SM.get_set,h,fz_,and_true]
abbrev cc_ := @SM.get_put
theorem SM.len_set : ∀ {m : SM α},(m.set s x).length = m.length
 | [] => rfl
 | (k,v) :: r => by unfold SM.set; split <;> simp [SM.len_set]
theorem SM.len_ins : ∀ {m : SM α},(m.ins s x).length = m.length + 1
 | [] => rfl
 | (k,v) :: r => by unfold SM.ins; split <;> simp [SM.len_ins]
theorem SM.len_put : (m.put s x).length = if (m.get s).isSome then m.length else m.length + 1 := by
 unfold SM.put;cases h : m.get s with
 | none => exact SM.len_ins
 | some y => exact SM.len_set
theorem SM.has_put {m : SM Bool} : (m.put s true).has t = (decide (t = s) || m.has t) := by
 unfold SM.has;rw [cc_]
 by_cases h : t = s
 ·rw [if_pos h,decide_eq_true h]; rfl
 ·rw [if_neg h,decide_eq_false h]; rfl
theorem Acr {N : Nat} (h : ∀ a,AV.und N (enc a) = true) (m : SM α) : H9 N (B1 enc m) = true := by
 unfold H9 B1;rw [List.all_map,br_];intro p _;exact h p.2
end
def A8 {α : Type} (enc : α -> AV) (J : Sto) (r : Nat) (m : SM α) : Prop := ∃ ver,J.get r = some (.map 9 (B1 enc m) ver)
abbrev Eo (J : Sto) (r : Nat) (m : SM Bool) : Prop := A8 bV J r m
section
variable {E : Env} {ρ : Ad} {J J' : Sto} {Rr : Rec} {t : Nat} {x y w : Operand} {α : Type} {enc : α -> AV} {m : SM α} {s : Str} {r : Nat}
theorem keyS (h : Fb E.P 9 = true) : Hi E.P 9 (sV s) = some (kS s) := by
 unfold Fb at h
 split at h
 ·rename_i ti hti
  split at h
  ·rename_i hd
   unfold Hi;simp only [hti,hd]
   rfl
  ·cases h
 ·cases h
theorem Ae6 {z : AV} {sz : Nat} {agg : Bool} (h9 : Fb E.P 9 = true) (hi : mpI E.P t = some (9,z,sz,agg)) (hx : Ai E ρ x = some (.mp r)) (hm : A8 enc J r m) (hy : Ai E ρ y = some (sV s)) :
  A0 E Rr (.lookup t x y false) ρ J (((m.get s).map enc).getD z) J := by
 have := Amc (Rr := Rr) hi hx (show Acf J 9 (B1 enc m) (.mp r) from hm) hy (keyS h9)
 rwa [Hm] at this
theorem Qq {z : AV} {sz : Nat} {agg : Bool} (h9 : Fb E.P 9 = true) (hi : mpI E.P t = some (9,z,sz,agg)) (hx : Ai E ρ x = some (.mp r)) (hm : A8 enc J r m) (hy : Ai E ρ y = some (sV s)) :
  A0 E Rr (.lookup t x y true) ρ J (.tup [((m.get s).map enc).getD z,.bool (m.get s).isSome]) J := by
 have := Ai3 (Rr := Rr) hi hx (show Acf J 9 (B1 enc m) (.mp r) from hm) hy (keyS h9)
 rwa [Hm,Option.isSome_map] at this
theorem Cr {sz : Nat} {agg : Bool} {m : SM Bool} (h9 : Fb E.P 9 = true) (hi : mpI E.P t = some (9,.bool false,sz,agg)) (hx : Ai E ρ x = some (.mp r)) (hm : Eo J r m) (hy : Ai E ρ y = some (sV s)) :
  A0 E Rr (.lookup t x y false) ρ J (.bool (m.has s)) J := by
 have := Ae6 (Rr := Rr) h9 hi hx hm hy
 have e : ((m.get s).map bV).getD (.bool false) = .bool (m.has s) := by unfold SM.has; cases m.get s <;> rfl
 rwa [e] at this
theorem Ec {z : AV} {sz ver : Nat} {agg : Bool} {v : α} (h9 : Fb E.P 9 = true) (hi : mpI E.P t = some (9,z,sz,agg)) (hx : Ai E ρ x = some (.mp r)) (hm : J.get r = some (.map 9 (B1 enc m) ver))
  (hy : Ai E ρ y = some (sV s)) (hw : Ai E ρ w = some (enc v)) (hf : ∀ te : TI,te.size = sz -> te.isAgg = agg -> Q6 te (enc v) = true) :
  A0 E Rr (.mapUpdate t x y w) ρ J An (J.set r (.map 9 (B1 enc (m.put s v)) (ver + 1))) := by
 have := Amd (Rr := Rr) hi hx hm hy (keyS h9) hw hf
 rwa [Aoj] at this
end
theorem Ex {te : TI} {n : Nat} {b : Bool} (_ : te.size = n) (h : te.isAgg = false) : Q6 te (bV b) = true := by unfold bV Q6; rw [h]; rfl
theorem Ey {te : TI} {n : Nat} {s : Str} (_ : te.size = n) (h : te.isAgg = false) : Q6 te (sV s) = true := by unfold sV Q6; rw [h]; rfl
theorem Fc {te : TI} {n : Nat} {k : IntKind} {i : Int} (_ : te.size = n) (h : te.isAgg = false) : Q6 te (.int k i) = true := by unfold Q6; rw [h]; rfl
theorem Fe {te : TI} {n r : Nat} (_ : te.size = n) (h : te.isAgg = false) : Q6 te (.mp r) = true := by unfold Q6; rw [h]; rfl
theorem E1 {te : TI} {n : Nat} {cs : List AV} (hn : te.size = n) (h : te.isAgg = true) (hc : cs.length = n) : Q6 te (.agg cs) = true := by
 show (te.isAgg && Nat.beq cs.length te.size) = true
 rw [h,hn,hc,bm_]; rfl
section
variable {J J' : Sto} {α : Type} {enc : α -> AV} {m : SM α} {r a : Nat}
theorem A8.lt (hw : WFS J) (h : A8 enc J r m) : r < nx J := by obtain ⟨v,h⟩ := h; exact (hw _ _ h).1
theorem A8.of_get (h : A8 enc J r m) (hg : J'.get r = J.get r) : A8 enc J' r m := by obtain ⟨v,h⟩ := h; exact ⟨v,hg.trans h⟩
theorem A8.new (h : A8 enc J r m) (hw : r < nx J) {o : AO} : A8 enc (J.new o) r m := h.of_get (by rw [ab_,if_neg Om])
theorem A8.set (h : A8 enc J r m) {o : AO} (hne : r ≠ a) : A8 enc (J.set a o) r m := h.of_get (by rw [a_,if_neg Om])
theorem A8.put {ver : Nat} : A8 enc (J.set r (.map 9 (B1 enc m) ver)) r m := ⟨ver,by rw [a_,if_pos rfl]⟩
abbrev dj_ := @A8.put
theorem A8.fresh {ver : Nat} : A8 enc (J.new (.map 9 (B1 enc m) ver)) (nx J) m := ⟨ver,by rw [ab_,if_pos rfl]⟩
end
section
variable {E : Env} {nt B : Nat} {df : List (Nat × List AV)} {Q : Cz} {Rr : Rec} {ops r : List Oper} {K : KD} {ρ : Ad} {J τ : Sto} {eps : List Sto} {log : List (Ad × AV)}
theorem Akv {o : Oper} {b : Bool} (hg : ∀ tm,Has tm ρ -> B7 ops o tm = some false) (he : Bv (A5 E o.op) = b) (hd : B9 nt o.dst = true)
  (k : TD E nt Rr ops r K (Dr o.dst An ρ) J (cond b (J :: eps) eps) ((ρ,An) :: log)) : TD E nt Rr ops (o :: r) K ρ J eps log := by
 intro tm df dl ht hl;obtain ⟨tm',h1,h2⟩ := C8 (dst := o.dst) hd ht An
 have : Qe E ops o Rr ⟨⟨tm,nt,df,J⟩,eps,dl⟩ = some ⟨⟨tm',nt,df,J⟩,cond b (J :: eps) eps,(tm,An) :: dl⟩ := by
  unfold Qe;simp only [hg tm ht,h1,he];cases b <;> rfl
 obtain ⟨d',k1,k2⟩ := k tm' df ((tm,An) :: dl) h2 ⟨ht,rfl,hl⟩
 exact ⟨d',by simp only [L1,this]; exact k1,k2⟩
theorem Sc {o oj : Oper} {j d : Nat} {b want e : Bool} (hg : o.guard = some (j,want)) (hj : ops[j]? = some oj) (hdj : oj.dst = some d) (hb : Ad.at ρ d = some (.bool b)) (hw : cond b want (!want) = false)
  (he : Bv (A5 E o.op) = e) (hd : B9 nt o.dst = true)
  (k : TD E nt Rr ops r K (Dr o.dst An ρ) J (cond e (J :: eps) eps) ((ρ,An) :: log)) : TD E nt Rr ops (o :: r) K ρ J eps log :=
 Akv (fun tm ht => by rw [F8 ht hg hj hdj hb,hw]) he hd k
theorem X7 {o oj : Oper} {j d : Nat} {want e : Bool} (hg : o.guard = some (j,want)) (hj : ops[j]? = some oj) (hdj : oj.dst = some d) (hb : Ad.at ρ d = some An)
  (he : Bv (A5 E o.op) = e) (hd : B9 nt o.dst = true)
  (k : TD E nt Rr ops r K (Dr o.dst An ρ) J (cond e (J :: eps) eps) ((ρ,An) :: log)) : TD E nt Rr ops (o :: r) K ρ J eps log :=
 Akv (fun tm ht => by simp only [B7,hg,hj,hdj,ht d _ hb]; rfl) he hd k
theorem Ae7 {α : Type} {enc : α -> List AV} {t sz by' a : Nat} {zz : Option (List AV)} {l : List α} {x : Operand} {lo : Option Operand} {k : IntKind} (hel : elI E.P t = some (sz,by',zz)) (he : ∀ a,(enc a).length = sz)
  (hx : Ai E ρ x = some (slV enc sz l)) (h1 : Iy E ρ lo = some (some (.int k (.ofNat a)))) (ha : a <= l.length) : A0 E Rr (.slice t x lo none none) ρ J (slV enc sz (l.drop a)) J := by
 have hb : C1 l.length none (some (.int k (.ofNat a))) none none = some (a,l.length,none) := by
  have h2 : Nat.ble a l.length = true := bd_ ha;have h3 : Nat.ble l.length l.length = true := bd_ nl;simp only [C1,Lj,h2,Ow,h3,cond_true,cy_,Ox]
 have := Ajd (Rr := Rr) (J := J) (lo := lo) (hi := none) (mx := none) hel he hx h1 rfl rfl hb ha nl;rw [eh_] at this
 rwa [show slV enc sz (l.drop a) = .sv ((l.drop a).flatMap enc) sz (l.length - a) none by rw [← cz_]; rfl]
theorem Co {c : Code} (h : WFS J -> T E nt df B c Q ρ J) : T E nt df B c Q ρ J := fun ro n hn C w tm a ht st hB => h st.sim.wfs ro n hn C w tm a ht st hB
theorem Akw {c : Code} {i : Nat} {v : AV} (hi : Ad.at ρ i = some v) (h : AV.und (nx J) v = true -> T E nt df B c Q ρ J) : T E nt df B c Q ρ J := fun ro n hn C w tm a ht st hB => h (R.und _ _ (st.tmps i v (ht i v hi))) ro n hn C w tm a ht st hB
def cutQ (L : Ad) (τ : Sto) : Cz
 | .normal => fun ρ J => Lq L ρ /\ J = τ
 | _ => fun _ _ => False
theorem Ami {x y : Code} (L : Ad) (τ : Sto) (h : T E nt df B x (cutQ L τ) ρ J) (k : T E nt df B y Q L τ) : T E nt df B (.seq x y) Q ρ J := by
 refine Ach (h.mono fun e ρ' J' hq => ?_)
 cases e with
 | normal => obtain ⟨h1,rfl⟩ := hq; exact k.sub h1
 | exit _ => exact hq.elim
 | ret => exact hq.elim
theorem Ad.at_app : ∀ (L ρ : Ad) (i : Nat),Ad.at (L ++ ρ) i = (Ad.at L i).or (Ad.at ρ i)
 | [],ρ,i => rfl
 | (j,v) :: r,ρ,i => by
  show cond (Nat.beq j i) (some v) (Ad.at (r ++ ρ) i) = (cond (Nat.beq j i) (some v) (Ad.at r i)).or _
  cases Nat.beq j i with
  | true => rfl
  | false => exact Ad.at_app r ρ i
abbrev g_ := @Ad.at_app
def addQ (L ρ : Ad) (τ : Sto) : Cz
 | .normal => fun ρ' J => Lq L ρ' /\ H0 ρ ρ' /\ J = τ
 | _ => fun _ _ => False
theorem D3 {x y : Code} (L : Ad) (h : T E nt df B x (addQ L ρ J) ρ J) (k : T E nt df B y Q (L ++ ρ) J) : T E nt df B (.seq x y) Q ρ J := by
 refine Ach (h.mono fun e ρ' J' hq => ?_)
 cases e with
 | normal =>
  obtain ⟨h1,h2,rfl⟩ := hq;refine fun ro n hn C w tm a ht st hB => k ro n hn C w tm a (fun i v hv => ?_) st hB
  rw [g_] at hv;cases hL : Ad.at L i with
  | some u => rw [hL] at hv; cases hv; exact ht i _ (h1.at i _ hL)
  | none => rw [hL] at hv; exact ht i v (h2 i v hv)
 | exit _ => exact hq.elim
 | ret => exact hq.elim
def cutP (P : Ad -> Sto -> Prop) : Cz
 | .normal => fun ρ J => ∃ L,Lq L ρ /\ P L J
 | _ => fun _ _ => False
theorem Ajh {x y : Code} (P : Ad -> Sto -> Prop) (h : T E nt df B x (cutP P) ρ J) (k : ∀ L τ,P L τ -> T E nt df B y Q L τ) : T E nt df B (.seq x y) Q ρ J := by
 refine Ach (h.mono fun e ρ' J' hq => ?_)
 cases e with
 | normal => obtain ⟨L,h1,h2⟩ := hq; exact (k L J' h2).sub h1
 | exit _ => exact hq.elim
 | ret => exact hq.elim
end
def ltS (a b : Str) : Bool := Cq (a.map UInt8.toNat) (b.map UInt8.toNat)
section
variable {E : Env} {ρ : Ad} {J J' : Sto} {Rr : Rec} {t ty n : Nat} {x y : Operand}
theorem boolI {P : Program} (h : X3 P t = true) : ∃ ti,Aw P t = some ti /\ ti.desc = .bool := by
 unfold X3 at h
 split at h
 ·rename_i ti hti
  split at h
  ·rename_i hd; exact ⟨ti,hti,hd⟩
  ·cases h
 ·cases h
theorem As5 {a b : Bool} (hi : X3 E.P t = true) (hx : Ai E ρ x = some (.bool a)) (hy : Ai E ρ y = some (.bool b)) : A0 E Rr (.binOp .eql t x y ty) ρ J (.bool (a == b)) J := fun tm h => by
 obtain ⟨ti,h1,h2⟩ := boolI hi;simp only [opA,Ar,h.opd hx,h.opd hy,Yg,h1,h2,Uz];cases a <;> cases b <;> rfl
theorem Z1 {a b : Str} (hi : okI E.P t = true) (hx : Ai E ρ x = some (sV a)) (hy : Ai E ρ y = some (sV b)) : A0 E Rr (.binOp .geq t x y ty) ρ J (.bool (!ltS a b)) J := Ai0 hi hx hy rfl
theorem As6 {l m : List AV} {a b : Key} (hi : okI E.P t = true) (hx : Ai E ρ x = some (.agg l)) (hy : Ai E ρ y = some (.agg m)) (hcx : Ck x = false) (hcy : Ck y = false) (h1 : Hi E.P t (.agg l) = some a) (h2 : Hi E.P t (.agg m) = some b) :
  A0 E Rr (.binOp .neq t x y ty) ρ J (.bool (!Key.eq a b)) J := fun tm h => by
 obtain ⟨ti,hti⟩ := T1 hi;simp only [opA,Ar,h.opd hx,h.opd hy,hcx,hcy,Yg,hti,Jk,Bool.or_self,cond_false,S4,h1,h2,Uz]
theorem Aok {kt sz : Nat} {agg : Bool} {z : AV} (hi : mpI E.P t = some (kt,z,sz,agg)) : ∃ ti et,Aw E.P t = some ti /\ ti.desc = .map kt et := by
 obtain ⟨ti,et,te,h1,h2,_⟩ := Zk hi;exact ⟨ti,et,h1,h2⟩
theorem Ae8 {α : Type} {enc : α -> AV} {m : SM α} {r kt sz : Nat} {agg : Bool} {z : AV} (hi : mpI E.P t = some (kt,z,sz,agg)) (hx : Ai E ρ x = some (.mp r)) (hm : A8 enc J r m) :
  A0 E Rr (.call ⟨.builtin .len,#[x],#[t]⟩) ρ J (.int .i64 (.ofNat m.length)) J := fun tm h => by
 obtain ⟨ti,et,h1,h2⟩ := Aok hi;obtain ⟨ver,hv⟩ := hm;simp only [opA,Ar,h1,Dp,h2,h.opd hx,opds,Tb,hv,Ag,B1,by_]
theorem Aol {r kt sz : Nat} {agg : Bool} {z : AV} (hi : mpI E.P t = some (kt,z,sz,agg)) (hx : Ai E ρ x = some (.mp r)) : A0 E Rr (.binOp .eql t x (.const (.map none)) ty) ρ J (.bool false) J := fun tm h => by
 obtain ⟨ti,et,h1,h2⟩ := Aok hi;simp only [opA,Ar,h.opd hx,Ck,Yg,h1,Bool.or_true,Jk,cond_true];simp only [h2]
 rfl
theorem Aom {kt sz : Nat} {agg : Bool} {z : AV} (hi : mpI E.P t = some (kt,z,sz,agg)) (hx : Ai E ρ x = some (.nil (.map none))) : A0 E Rr (.binOp .eql t x (.const (.map none)) ty) ρ J (.bool true) J := fun tm h => by
 obtain ⟨ti,et,h1,h2⟩ := Aok hi;simp only [opA,Ar,h.opd hx,Ck,Yg,h1,Bool.or_true,Jk,cond_true];simp only [h2]
 rfl
theorem Amj {α : Type} {enc : α -> AV} {m : SM α} {r kt sz ver : Nat} {agg : Bool} {z : AV} (hi : mpI E.P t = some (kt,z,sz,agg)) (hx : Ai E ρ x = some (.mp r)) (hm : J.get r = some (.map 9 (B1 enc m) ver)) :
  A0 E Rr (.call ⟨.builtin .clear,#[x],#[t]⟩) ρ J An (J.set r (.map 9 [] (ver + 1))) := fun tm h => by
 obtain ⟨ti,et,h1,h2⟩ := Aok hi;simp only [opA,Ar,h1,Dp,h2,h.opd hx,opds,Qb,hm,Ag]
theorem Amk (a b : Int) : Jx a b = max a b := by
 unfold Jx;have := D1 (a := b) (b := a);rw [this]
 by_cases h : b <= a
 ·rw [decide_eq_true h,cond_true]; omega
 ·rw [decide_eq_false h,cond_false]; omega
theorem Aon {k : IntKind} {p q : Int} (hi : okI E.P t = true) {tys : Nat} (hx : Ai E ρ x = some (.int k p)) (hy : Ai E ρ y = some (.int k q)) : A0 E Rr (.call ⟨.builtin .max,#[x,y],#[t,tys]⟩) ρ J (.int k (max p q)) J := fun tm h => by
 obtain ⟨ti,hti⟩ := T1 hi;simp only [opA,Ar,hti,Dp,h.opd hx,h.opd hy,opds,Yl,Ws,cond_true,Amk]
end
section
variable {E : Env} {ρ : Ad} {J J' : Sto} {Rr : Rec} {t ty n a i : Nat} {x y : Operand} {α : Type} {enc : α -> List AV} {sz by' : Nat} {l : List α}
theorem Vv : ∀ {p q u v : List AV},u.length = q.length -> setAt (p ++ q ++ v) p.length u = some (p ++ u ++ v)
 | [],q,u,v,h => by
  simp only [bt_,dr_];exact go h
 | x :: p,q,u,v,h => by
  simp only [av_,ap_,setAt,Vv h]
 where
 go : ∀ {q u v : List AV},u.length = q.length -> setAt (q ++ v) 0 u = some (u ++ v)
  | [],[],v,_ => by cases v <;> rfl
  | y :: q,z :: u,v,h => by
   have := go (q := q) (u := u) (v := v) (by simpa using h)
   simp only [av_,setAt,this]
  | [],_ :: _,_,h => by simp at h
  | _ :: _,[],_,h => by simp at h
theorem Aoo (he : ∀ a,(enc a).length = sz) {b : α} (hi : i < l.length) (tl : List AV) : setAt (l.flatMap enc ++ tl) (i * sz) (enc b) = some ((l.set i b).flatMap enc ++ tl) := by
 have h1 : l = l.take i ++ l[i] :: l.drop (i + 1) := by rw [← ay_ hi,bx_]
 have h2 : l.set i b = l.take i ++ b :: l.drop (i + 1) := List.set_eq_take_append_cons_drop ▸ by rw [if_pos hi]
 have h3 : ((l.take i).flatMap enc).length = i * sz := by rw [D7 he,b_,dt_ (ga_ hi)]
 have h4 : l.flatMap enc ++ tl = (l.take i).flatMap enc ++ enc l[i] ++ ((l.drop (i + 1)).flatMap enc ++ tl) := by
  refine (congrArg (fun k => List.flatMap enc k ++ tl) h1).trans ?_
  simp only [da_,ch_,bu_]
 rw [h4,h2,← h3,Vv (by rw [he,he])]
 simp only [da_,ch_,bu_]
theorem Is {zz : Option (List AV)} {k : IntKind} {m : Nat} {cap : Option Nat} (hi : elI E.P t = some (sz,by',zz)) (hx : Ai E ρ x = some (.sr a 0 sz m cap)) (hy : Ai E ρ y = some (.int k (.ofNat i))) (hm : i < m) :
  A0 E Rr (.indexAddr t x y) ρ J (.pr a (i * sz)) J := by
 have h := Agi (Rr := Rr) (J := J) hi hx hy (m := m) rfl rfl hm
 have e : Agh (.sr a 0 sz m cap) (i * sz) = .pr a (i * sz) := by show AV.pr a (0 + i * sz) = _; rw [be_]
 rwa [e] at h
theorem Sd {u : α} {v : AV} {agg : Bool} {tl : List AV} (he : ∀ a,(enc a).length = sz) (hi : ldI E.P t = some (sz,agg)) (hx : Ai E ρ x = some (.pr a (i * sz))) (hg : J.get a = some (.cells (l.flatMap enc ++ tl))) (hu : l[i]? = some u) (hv : ∀ r,Be sz agg (enc u ++ r) = some v) :
  A0 E Rr (.load t x) ρ J v J := by
 refine Ah (cs := (l.flatMap enc ++ tl).drop (i * sz)) hi hx (by simp only [Cn,Sto.cells,hg]) ?_
 have hi := (ad_.1 hu).1
 have h0 : i * sz <= (l.flatMap enc).length := by rw [D7 he]; exact ea_ _ (ga_ hi)
 rw [fq_ h0,Akq he hu,bu_]; exact hv _
theorem Aji {u : α} {v : AV} {agg : Bool} {tl : List AV} (he : ∀ a,(enc a).length = sz) (hi : ldI E.P t = some (sz,agg)) (hx : Ai E ρ x = some (.pr a (i * sz))) (hy : Ai E ρ y = some v) (hc : v.cellsN sz = some (enc u)) (hg : J.get a = some (.cells (l.flatMap enc ++ tl))) (hl : i < l.length) :
  A0 E Rr (.store t x y) ρ J An (J.set a (.cells ((l.set i u).flatMap enc ++ tl))) :=
 A6 hi hx hy hc (by simp only [Sto.cells,hg]) (Aoo he hl tl)
theorem Ags {zz : Option (List AV)} {k : IntKind} {m b : Nat} {lo : Option Operand} (hel : elI E.P t = some (sz,by',zz)) (hx : Ai E ρ x = some (.sr a 0 sz m none)) (h1 : Iy E ρ lo = some (some (.int k (.ofNat b)))) (hb : b <= m) :
  A0 E Rr (.slice t x lo none none) ρ J (.sr a (b * sz) sz (m - b) none) J := fun tm h => by
 obtain ⟨ti,e,te,k1,k2,k3,k4,k5,k6⟩ := T0 hel;subst k4
 have hbd : C1 m none (some (.int k (.ofNat b))) none none = some (b,m,none) := by
  have h2 : Nat.ble b m = true := bd_ hb;have h3 : Nat.ble m m = true := bd_ nl;simp only [C1,Lj,h2,Ow,h3,cond_true,cy_,Ox]
 have e0 : opdO E tm none = none := rfl;simp only [opA,Ar,k1,k2,k3,h.opd hx,h.opdO h1,e0,Ml,bm_,hbd,Ag,be_]
theorem Z2 {zz : Option (List AV)} {k : IntKind} {m b : Nat} {hi : Option Operand} {cap : Option Nat} (hel : elI E.P t = some (sz,by',zz)) (hx : Ai E ρ x = some (.sr a 0 sz m cap)) (h1 : Iy E ρ hi = some (some (.int k (.ofNat b)))) (hb : b <= m) :
  A0 E Rr (.slice t x none hi none) ρ J (.sr a 0 sz b (Ox cap 0)) J := fun tm h => by
 obtain ⟨ti,e,te,k1,k2,k3,k4,k5,k6⟩ := T0 hel;subst k4
 have hbd : C1 m cap none (some (.int k (.ofNat b))) none = some (0,b,Ox cap 0) := by
  have h2 : Nat.ble b m = true := bd_ hb;have h3 : Nat.ble 0 b = true := bd_ (ca_ _);simp only [C1,Lj,h3,Ow,h2,cond_true,cy_]
 have e0 : opdO E tm none = none := rfl;simp only [opA,Ar,k1,k2,k3,h.opd hx,h.opdO h1,e0,Ml,bm_,hbd,Ag,em_,dx_,fa_]
theorem Akx {z : List AV} : ∀ n,(rep z n).length = n * z.length
 | 0 => by simp [rep]
 | n + 1 => by simp only [rep,aw_,Akx n,fw_]; omega
theorem Acs {z tl : List AV} {m b : Nat} {cap : Option Nat} (he : ∀ a,(enc a).length = sz) (hel : elI E.P t = some (sz,by',some z)) (hz : Nat.beq z.length sz = true) (hx : Ai E ρ x = some (.sr a (b * sz) sz m cap)) (hg : J.get a = some (.cells (l.flatMap enc ++ tl))) (hl : b + m = l.length) :
  A0 E Rr (.call ⟨.builtin .clear,#[x],#[t]⟩) ρ J An (J.set a (.cells ((l.take b).flatMap enc ++ (rep z m ++ tl)))) := fun tm h => by
 obtain ⟨ti,e,te,k1,k2,k3,k4,k5,k6⟩ := T0 hel;subst k4
 have h2 : l.flatMap enc ++ tl = (l.take b).flatMap enc ++ (l.drop b).flatMap enc ++ tl := by rw [← da_,bx_]
 have h3 : ((l.take b).flatMap enc).length = b * te.size := by rw [D7 he,b_]; congr 1; omega
 have h4 : (rep z m).length = ((l.drop b).flatMap enc).length := by rw [Akx,D7 he,cz_,aa_ hz]; congr 1; omega
 have h5 := Vv (p := (l.take b).flatMap enc) (v := tl) h4;rw [h3,← h2,bu_] at h5;simp only [opA,Ar,k1,Dp,k2,k3,k6,hz,h.opd hx,opds,Ad9,bm_,Sto.cells,hg,h5]
end
def Own (J : Sto) (N : Nat) {α : Type} (enc : α -> List AV) (sz : Nat) (l : List α) (v : AV) : Prop :=
 (l = [] /\ (v = .nil (.slice none 0 0) ∨ v = .sv [] sz 0 (some 0))) ∨ ∃ a tl,N <= a /\ a < nx J /\ v = .sr a 0 sz l.length none /\ J.get a = some (.cells (l.flatMap enc ++ tl))
section
variable {E : Env} {ρ : Ad} {J J' τ : Sto} {Rr : Rec} {t ty n a i N : Nat} {x y : Operand} {α : Type} {enc : α -> List AV} {sz by' : Nat} {l m : List α} {v : AV}
theorem Own.nil : Own J N enc sz ([] : List α) (.nil (.slice none 0 0)) := .inl ⟨rfl,.inl rfl⟩
theorem Own.emp : Own J N enc sz ([] : List α) (.sv [] sz 0 (some 0)) := .inl ⟨rfl,.inr rfl⟩
theorem Own.lenA (h : Own J N enc sz l v) : lenA v = some l.length /\ Wh v = true := by
 rcases h with ⟨rfl,rfl | rfl⟩ | ⟨a,tl,_,_,rfl,_⟩ <;> exact ⟨rfl,rfl⟩
theorem Own.mono (h : Own J N enc sz l v) (hn : nx J <= nx J') (hg : ∀ a tl,v = .sr a 0 sz l.length none -> N <= a -> a < nx J -> J.get a = some (.cells (l.flatMap enc ++ tl)) -> J'.get a = J.get a) : Own J' N enc sz l v := by
 rcases h with h | ⟨a,tl,h1,h2,h3,h4⟩
 ·exact .inl h
 ·exact .inr ⟨a,tl,h1,by omega,h3,(hg a tl h3 h1 h2 h4).trans h4⟩
theorem Own.app (he : ∀ a,(enc a).length = sz) (hN : N <= nx J) (h : Own J N enc sz l v) (m : List α) (bo : (l.length + m.length) * (by' + 1) <= sizeLim) :
  ∃ v' J',Cf J sz by' v m.length (m.flatMap enc) = some (v',J') /\ Own J' N enc sz (l ++ m) v' /\ Below N J J' /\
   (∀ b,b < nx J -> (∀ c,v = .sr c 0 sz l.length none -> b ≠ c) -> J'.get b = J.get b) := by
 cases m with
 | nil =>
  refine ⟨v,J,?_,by simpa using h,dv_,fun _ _ _ => rfl⟩
  simp only [dr_,Cf]
  rcases h with ⟨_,rfl | rfl⟩ | ⟨a,tl,_,_,rfl,_⟩ <;> rfl
 | cons b m =>
  have hb : Nat.ble ((l.length + (b :: m).length) * (by' + 1)) sizeLim = true := bd_ bo
  have fresh : ∀ (c : List α) (τ : Sto),N <= nx τ -> Own (τ.new (.cells (c.flatMap enc))) N enc sz c (.sr (nx τ) 0 sz c.length none) := fun c τ hτ =>
   .inr ⟨nx τ,[],hτ,by rw [Ac]; omega,rfl,by rw [ab_,if_pos rfl,cn_]⟩
  rcases h with ⟨rfl,rfl | rfl⟩ | ⟨a,tl,h1,h2,rfl,h3⟩
  ·have hb' : Nat.ble ((m.length + 1) * (by' + 1)) sizeLim = true := bd_ (by simpa using bo)
   refine ⟨.sr (nx J) 0 sz (b :: m).length none,J.new (.cells ((b :: m).flatMap enc)),?_,fresh _ _ hN,⟨by rw [Ac]; omega,fun c hc => by rw [ab_,if_neg Om]⟩,fun c hc _ => by rw [ab_,if_neg Om]⟩
   simp only [ap_,Cf,Jw,be_,hb',cond_true,Ag,bt_]
  ·have hb' : Nat.ble ((m.length + 1) * (by' + 1)) sizeLim = true := bd_ (by simpa using bo)
   have h0 : Nat.ble (m.length + 1) 0 = false := rfl
   refine ⟨.sr (nx J) 0 sz (b :: m).length none,J.new (.cells ((b :: m).flatMap enc)),?_,fresh _ _ hN,⟨by rw [Ac]; omega,fun c hc => by rw [ab_,if_neg Om]⟩,fun c hc _ => by rw [ab_,if_neg Om]⟩
   simp only [ap_,Cf,bm_,h0,gs_,cy_,cond_true,Jw,be_,hb',Ag,bt_]
  ·have fg : J.cells a = some (l.flatMap enc ++ tl) := by unfold Sto.cells; rw [h3]
   have dp : Di (l.length * sz) ((l.flatMap enc ++ tl).drop 0) = some (l.flatMap enc) := by
    have := E8 (l := l.flatMap enc) (r := tl)
    rwa [D7 he] at this
   simp only [ap_] at hb
   refine ⟨.sr (nx J) 0 sz (l ++ b :: m).length none,(J.kill a).new (.cells (l.flatMap enc ++ (b :: m).flatMap enc)),?_,?_,⟨by rw [Ac,By]; omega,fun c hc => ?_⟩,fun c hc hne => ?_⟩
   ·simp only [ap_,Cf,bm_,cond_true,fg,dp,Jw,hb,Ag,By,aw_]
   ·rw [← da_]
    have := fresh (l ++ b :: m) (J.kill a) (by rw [By]; exact hN)
    rwa [By] at this
   ·rw [ab_,By,if_neg Om,db_,if_neg Om]
   ·rw [ab_,By,if_neg Om,db_,if_neg (hne a rfl)]
abbrev ed_ := @Own.app
theorem Own.fz (he : ∀ a,(enc a).length = sz) (h : Own J N enc sz l v) (hτ : ∀ a,N <= a -> τ.get a = none) (hu : AV.unds (nx τ) (l.flatMap enc) = true) : Fz J τ v (slV enc sz l) := by
 rcases h with ⟨rfl,rfl | rfl⟩ | ⟨a,tl,h1,_,rfl,h3⟩
 ·exact .nils (fun q hq => by cases hq)
 ·exact .sv (fun q hq => by cases hq) .nil
 ·have dp : Di (l.length * sz) ((l.flatMap enc ++ tl).drop 0) = some (l.flatMap enc) := by
   have := E8 (l := l.flatMap enc) (r := tl)
   rwa [D7 he] at this
  exact .sr h3 (hτ a h1) dp (fy_ hu)
def Ajj (J : Sto) (N : Nat) {α : Type} (enc : α -> List AV) (sz : Nat) (l : List α) (v : AV) : Prop := v = .sv (l.flatMap enc) sz l.length (some l.length) ∨ Own J N enc sz l v
theorem Ajj.app (he : ∀ a,(enc a).length = sz) (hN : N <= nx J) (h : Ajj J N enc sz l v) (m : List α) (bo : (l.length + m.length) * (by' + 1) <= sizeLim) :
  ∃ v' J',Cf J sz by' v m.length (m.flatMap enc) = some (v',J') /\ Ajj J' N enc sz (l ++ m) v' /\ Below N J J' /\
   (∀ b,b < nx J -> (∀ c,v = .sr c 0 sz l.length none -> b ≠ c) -> J'.get b = J.get b) := by
 rcases h with rfl | h
 ·cases m with
  | nil => exact ⟨_,J,rfl,.inl (by rw [cn_]),dv_,fun _ _ _ => rfl⟩
  | cons b m =>
   have hb : Nat.ble ((l.length + (m.length + 1)) * (by' + 1)) sizeLim = true := bd_ bo
   have h0 : Nat.ble (l.length + (m.length + 1)) l.length = false := by
    cases hh : Nat.ble (l.length + (m.length + 1)) l.length with
    | true => exact absurd (ak_ hh) Om
    | false => rfl
   refine ⟨.sr (nx J) 0 sz (l ++ b :: m).length none,J.new (.cells ((l ++ b :: m).flatMap enc)),?_,.inr (.inr ⟨nx J,[],hN,by rw [Ac]; omega,rfl,by rw [ab_,if_pos rfl,cn_]⟩),⟨by rw [Ac]; omega,fun c hc => by rw [ab_,if_neg Om]⟩,fun c hc _ => by rw [ab_,if_neg Om]⟩
   simp only [ap_,Cf,bm_,h0,gs_,cy_,cond_true,Jw,hb,Ag,aw_,da_]
 ·obtain ⟨v',J',h1,h2,h3,h4⟩ := h.app he hN m bo;exact ⟨v',J',h1,.inr h2,h3,h4⟩
theorem Ajj.fz (he : ∀ a,(enc a).length = sz) (h : Ajj J N enc sz l v) (hτ : ∀ a,N <= a -> τ.get a = none) (hu : AV.unds (nx τ) (l.flatMap enc) = true) : Fz J τ v (slV enc sz l) := by
 rcases h with rfl | h
 ·exact .sv (fun q hq => by cases hq) (fy_ hu)
 ·exact h.fz he hτ hu
theorem WFS.none (hw : WFS J) {a : Nat} (h : nx J <= a) : J.get a = none := by
 cases hg : J.get a with
 | none => rfl
 | some O => exact absurd (hw a O hg).1 Om
theorem Uc (he : ∀ a,(enc a).length = sz) (J : Sto) (l : List α) : Dj J sz (slV enc sz l) l.length = some (l.flatMap enc) := by
 have := E8 (l := l.flatMap enc) (r := []);rw [D7 he,cn_] at this;exact this
end
def Ajk (P : Program) (t : Nat) : Bool := match Aw P t with | some ti => (match ti.desc with | .int _ => true | _ => false) | none => false
section
variable {E : Env} {ρ : Ad} {J J' τ : Sto} {Rr : Rec} {t t2 ty n a i N : Nat} {x y : Operand} {sz by' : Nat} {v : AV} {A B : AO}
theorem Aky (hi : Kj E.P t = true) (hx : Ai E ρ x = some (.nil (.slice none 0 0))) : A0 E Rr (.call ⟨.builtin .cap,#[x],#[t]⟩) ρ J (.int .i64 (.ofNat 0)) J := fun tm h => by
 unfold Kj at hi
 split at hi
 ·rename_i ti hti
  split at hi
  ·rename_i e hd
   simp only [opA,Ar,hti,Dp,hd,h.opd hx,opds,I6]
   rfl
  ·cases hi
 ·cases hi
theorem Ard {zz : Option (List AV)} {hi : Option Operand} {k : IntKind} (hel : elI E.P t = some (sz,by',zz)) (hx : Ai E ρ x = some (.nil (.slice none 0 0))) (h1 : Iy E ρ hi = some (some (.int k (.ofNat 0)))) :
  A0 E Rr (.slice t x none hi none) ρ J (.nil (.slice none 0 0)) J := fun tm h => by
 obtain ⟨ti,e,te,k1,k2,k3,k4,k5,k6⟩ := T0 hel;have e0 : opdO E tm none = none := rfl;have hb : C1 0 (some 0) none (some (.int k (.ofNat 0))) none = some (0,0,some 0) := rfl;simp only [opA,Ar,k1,k2,k3,h.opd hx,h.opdO h1,e0,Ml,hb]
theorem Aop {z : List AV} (hi : elI E.P t = some (sz,by',some z)) (hl : Nat.beq z.length sz = true) (h2 : Ajk E.P t2 = true) (hx : Ai E ρ x = some (.nil (.slice none 0 0))) (hy : Ai E ρ y = some (.int .i64 (.ofNat (n + 1)))) (hn : (n + 1) * (by' + 1) <= sizeLim) :
  A0 E Rr (.call ⟨.builtin .append,#[x,y],#[t,t2]⟩) ρ J (.sr (nx J) 0 sz (n + 1) none) (J.new (.cells (rep z (n + 1)))) := fun tm h => by
 obtain ⟨ti,e,te,h1,hd,h3,h4,h5,h6⟩ := T0 hi;subst h4 h5;have hb : Nat.ble ((n + 1) * (te.bytes + 1)) sizeLim = true := bd_ hn;unfold Ajk at h2
 split at h2
 ·rename_i t2i ht2
  split at h2
  ·rename_i k hd2
   simp only [opA,Ar,h1,Dp,hd,h3,ht2,h6,hl,hd2,h.opd hx,h.opd hy,opds,Td,hb,cond_true,Cf,Jw,be_,Ag,bt_]
  ·cases h2
 ·cases h2
theorem Asc : ((J.new A).new B).get (nx J) = some A := by rw [ab_,if_neg (by rw [Ac]; omega),ab_,if_pos rfl]
theorem get2b : ((J.new A).new B).get (nx (J.new A)) = some B := by rw [ab_,if_pos rfl]
theorem Agt {cs : List AV} (h : J.get a = some (.cells cs)) : J.cells a = some cs := by unfold Sto.cells; rw [h]
end
def Vw (J τ : Sto) : Prop := ∀ a O,J.get a = some O -> τ.get a = some O
theorem Vw.refl {J : Sto} : Vw J J := fun _ _ h => h
theorem Vw.below {J τ : Sto} (hw : WFS J) (h : Below (nx J) J τ) : Vw J τ := fun a O ha => (h.2 a (hw a O ha).1).trans ha
def rdOk : Op -> Bool
 | .load .. => true
 | .lookup .. => true
 | _ => false
theorem Aml {J τ : Sto} (h : Vw J τ) {a : Nat} {vs : List AV} (hc : J.cells a = some vs) : τ.cells a = some vs := by
 unfold Sto.cells at hc ⊢
 split at hc
 ·rename_i us hg; rw [h _ _ hg]; exact hc
 ·cases hc
theorem Amm {J τ J₁ : Sto} {ti : TI} {x v : AV} (h : Vw J τ) (hs : Lx ti x J = some (v,J₁)) : Lx ti x τ = some (v,τ) := by
 unfold Lx at hs ⊢
 split at hs
 ·split at hs
  ·rename_i vs hvs
   split at hs
   ·rename_i u hu; cases hs; simp only [Aml h hvs,hu]
   ·cases hs
  ·cases hs
 ·split at hs
  ·rename_i u hu; cases hs; simp only [hu]
  ·cases hs
 ·cases hs
theorem Agu {J τ J₁ : Sto} {kt : Nat} {key : Option Key} {z m v : AV} {ok : Bool} (h : Vw J τ) (hs : Jn kt key z ok m J = some (v,J₁)) : Jn kt key z ok m τ = some (v,τ) := by
 unfold Jn at hs ⊢
 split at hs
 ·split at hs
  ·split at hs
   ·rename_i kt' es ver hg
    rw [h _ _ hg];simp only
    split at hs
    ·rename_i hb
     try simp only [hb]
     split at hs <;> rename_i hf <;> cases hs <;> simp only [hb,hf]
    ·cases hs
   ·cases hs
  ·cases hs; rfl
  ·cases hs
 ·cases hs
theorem Aoq {E : Env} {J τ J₁ : Sto} {op : Op} {tm : Tr AV} {v : AV} (hr : rdOk op = true) (h : Vw J τ) (hs : Ar E op tm J = some (v,J₁)) : ∃ τ₁,Ar E op tm τ = some (v,τ₁) := by
 unfold rdOk at hr
 split at hr
 ·simp only [Ar] at hs ⊢
  split at hs
  ·rename_i ti hti; exact ⟨τ,Amm h hs⟩
  ·cases hs
 ·simp only [Ar] at hs ⊢
  split at hs
  ·rename_i ti hti
   split at hs
   ·rename_i kt et hd
    try simp only [hd]
    split at hs
    ·rename_i te hte
     try simp only [hd,hte]
     split at hs
     ·rename_i z hz
      try simp only [hd,hte,hz]
      exact ⟨τ,Agu h hs⟩
     ·cases hs
    ·cases hs
   ·cases hs
  ·cases hs
 ·cases hr
def Ik (E : Env) (m : Nat) : List Ann -> List Oper -> Bool -> Bool
 | a :: az,o :: os,late => (match a.cls with
  | .read => !late && Nat.ble a.hi m && rdOk o.op
  | _ => true) && Ik E m az os (late || Bv (A5 E o.op))
 | _,_,_ => true
theorem Pl {E : Env} {m : Nat} : ∀ {az : List Ann} {os : List Oper} {late : Bool},Ik E m az os late = true -> ∀ (j : Nat) (a : Ann) (o : Oper),az[j]? = some a -> os[j]? = some o -> a.cls = .read -> late = false /\ cnt E os j = 0 /\ a.hi <= m /\ rdOk o.op = true
 | a :: az,o :: os,late,h,0,a',o',ha,ho,hc => by
  simp at ha ho; subst ha ho
  simp only [Ik,hc,ae_] at h
  exact ⟨by simpa using h.1.1.1,rfl,ak_ h.1.1.2,h.1.2⟩
 | a :: az,o :: os,late,h,j + 1,a',o',ha,ho,hc => by
  simp only [Ik,ae_] at h
  obtain ⟨h1,h2,h3⟩ := Pl h.2 j a' o' (by simpa using ha) (by simpa using ho) hc
  simp only [cv_] at h1;refine ⟨h1.1,?_,h3⟩;simp only [cnt,h1.2,h2]
  simp
 | [],_,_,_,_,_,_,h,_,_ => by simp at h
 | _ :: _,[],_,_,_,_,_,_,h,_ => by simp at h
section
variable {E : Env} {nt B : Nat} {df : List (Nat × List AV)} {Q : Cz} {Rr : Rec} {ρ : Ad} {J : Sto}
def KDX (Q : Cz) (m : Nat) (J : Sto) : KD := fun ρ' J' eps _ => (∀ e ∈ eps.reverse.take (m + 1),Vw J e) /\ Q .normal ρ' J'
theorem Are (m : Nat) {id : Nat} {ops : Array Oper} {anns : List Ann} (hm : E.P.follows .mixedOrders = true) (hR : Ao E Rr) (ha : Id E ops = some anns) (hp : Ik E m anns ops.toList false = true)
  (h : TD E nt Rr ops.toList ops.toList (KDX Q m J) ρ J [J] []) : T E nt df B (.region id ops true) Q ρ J := by
 intro ro n hn C w tm a ht st hB;obtain ⟨c1,c2,c3,c4⟩ := Ij ha;obtain ⟨d,k1,k2,k3,ρ',log',k4,k5,k6,k7⟩ := h tm df [] ht trivial;refine wpIn_mono (Acp hm hR st c1 c2 c3 k1 fun j o t v ho hl hcl hg Jk hJ => ?_) fun e a' w' he => ?_
 ·have ca := Gb (E := E) (b := (Region.before ops).toList) (effs := Bw E ops.toList 0) ops.toList 0 j o (by simpa using ho)
  rw [← c4] at ca;simp only [be_] at ca
  obtain ⟨_,q1,q2,q3⟩ := Pl hp j _ o ca (by simpa using ho) hcl
  simp only [E9] at q2
  have b7 : Vw J Jk := by
   refine k6 Jk ?_;obtain ⟨i,hi⟩ := cr_.1 hJ;rw [dm_] at hi
   split at hi
   ·rename_i hlt
    rw [fe_] at hi;exact cr_.2 ⟨_,(List.getElem?_take_of_lt Om).trans hi⟩
   ·cases hi
  obtain ⟨log,eps,lex,g2,g3,g4,g5⟩ := Kq k1;simp only [eg_,bt_,dd_] at g2 g3;obtain ⟨x1,x2,x3,x4,x5⟩ := Vs lex
  obtain ⟨t',v',t₁,J₀,J₁,y1,y2,y3,y4,y5,y6⟩ := x5 j o (by simpa using ho)
  rw [g2] at hl;rw [hl] at y1; cases y1
  have h0 : J₀ = J := by
   rw [q1] at y3
   simpa using y3.symm
  subst h0
  have hne : Bv (A5 E o.op) = false := by rw [hcl]; rfl
  rcases y5 with ⟨z1,z2⟩ | ⟨z1,z2⟩
  ·rw [I2 hcl] at z2; exact Aoq q3 b7 z2
  ·rw [z1] at hg; cases hg
 ·obtain ⟨y,hy,C',h1,h2,h3⟩ := he;rw [an_] at hy;subst hy;obtain ⟨⟨tm',nt',df',J'⟩,eps',dl'⟩ := d;simp only at k2 k3;subst k2 k3;exact ⟨.normal,tm',ρ',J',C',h1,k4,k7,h2,bc_ hB h3.next,h3.base hB⟩
theorem H1 {o : AO} (hw : WFS J) : Vw J (J.new o) := Vw.below hw (Below.rfl'.new nl o)
def newQ (d : Nat) (z cs : List AV) (L ρ : Ad) (τ : Sto) : Cz
 | .normal => fun ρ' J' => Lq L ρ' /\ H0 ρ ρ' /\ Ad.at ρ' d = some (.pr (nx τ) 0) /\ J' = (τ.new (.cells z)).set (nx τ) (.cells cs)
 | _ => fun _ _ => False
theorem Ed [Abw E] {x y : Code} (d : Nat) (z cs : List AV) (L : Ad) (hu : AV.unds (nx J) cs = true) (hL : AV.unds (nx J) (L.map (·.2)) = true) (h : WFS J -> T E nt [] B x (newQ d z cs L ρ J) ρ J) (k : T E nt [] B y Q ((d,.pv cs) :: L ++ ρ) J) : T E nt [] B (.seq x y) Q ρ J := by
 intro ro n hn C w tm a ht st hB;have hwf := st.sim.wfs;have gp : ∀ i u,Ad.at ρ i = some u -> AV.und (nx J) u = true := fun i u hu => R.und _ _ (st.tmps i u (ht i u hu))
 have hLu : ∀ (L : Ad),AV.unds (nx J) (L.map (·.2)) = true -> ∀ i u,Ad.at L i = some u -> AV.und (nx J) u = true := by
  intro L
  induction L with
  | nil => intro _ i u hh; cases hh
  | cons p r ih =>
   obtain ⟨j,v⟩ := p;intro hL i u hh;simp only [cd_,AV.unds,ae_] at hL;simp only [Ad.at] at hh;cases hb : Nat.beq j i with
   | true => rw [hb] at hh; cases hh; exact hL.1
   | false => rw [hb] at hh; exact ih hL.2 i u hh
 refine Ach ((h hwf).mono fun e ρ' J' hq => ?_) ro n hn C w tm a ht st hB
 cases e with
 | exit _ => exact hq.elim
 | ret => exact hq.elim
 | normal =>
  obtain ⟨h1,h2,h3,rfl⟩ := hq
  have hf : Hl ((J.new (.cells z)).set (nx J) (.cells cs)) J := ag_ hwf (by rw [Ae,Ac]; exact fm_ _) fun b hb => by rw [a_,if_neg Om,ab_,if_neg Om]
  intro ro n hn C₁ w₁ tm₁ a₁ ht₁ st₁ hB₁;refine wpIn_mono (k ro n hn (C₁.keep J) w₁ _ a₁ (Pg _) (st₁.frz ht₁ hf fun i u hi => ?_) hB) fun e a' w' he => he.from (fg_ C₁ J B w₁)
  simp only [av_,Ad.at] at hi;cases hb : Nat.beq d i with
  | true =>
   rw [hb] at hi; cases hi;have := aa_ hb; subst this
   exact ⟨_,h3,.pr (vs := cs) (by rw [a_,if_pos rfl]) (hwf.none nl) (fy_ hu)⟩
  | false =>
   rw [hb] at hi;simp only [cond_false] at hi;rw [g_] at hi;cases hc : Ad.at L i with
   | some u' => rw [hc] at hi; cases hi; exact ⟨_,h1.at i _ hc,.same (hLu L hL i _ hc)⟩
   | none => rw [hc] at hi; exact ⟨_,h2 i u hi,.same (gp i u hi)⟩
end
end Go.AM
