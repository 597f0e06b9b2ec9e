/- A part of the proof; shortened by program. -/
import Derived.Test.YtadnlmhnjfmleaaGreatDoorP11
set_option maxRecDepth 100000
set_option maxHeartbeats 4000000
set_option linter.unusedSimpArgs false
set_option linter.unusedVariables false
namespace Go.AM
open Go
section
variable {E : Env} {nt B : Nat} {df : List (Nat × List AV)} {Q : Cz} {Rr : Rec} {ops r : List Oper} {K : KD} {ρ : Ad} {J τ : Sto} {eps : List Sto} {log : List (Ad × AV)}
theorem TD_opF {op : Op} {dst : Option Nat} {ty : Nat} {pos : String} {after : Array Edge} {v : AV} {J₁ : Sto} (he : Bv (A5 E op) = false) (hd : B9 nt dst = true) (h : A0 E Rr op ρ J v J₁)
  (k : TD E nt Rr ops r K (Dr dst v ρ) J eps ((ρ,v) :: log)) : TD E nt Rr ops ({ dst := dst,op := op,type := ty,pos := pos,after := after,guard := none } :: r) K ρ J eps log := Akt (b := false) he hd h k
theorem TD_opT {op : Op} {dst : Option Nat} {ty : Nat} {pos : String} {after : Array Edge} {v : AV} {J₁ : Sto} (he : Bv (A5 E op) = true) (hd : B9 nt dst = true) (h : A0 E Rr op ρ J v J₁)
  (k : TD E nt Rr ops r K (Dr dst v ρ) J₁ (J₁ :: eps) ((ρ,v) :: log)) : TD E nt Rr ops ({ dst := dst,op := op,type := ty,pos := pos,after := after,guard := none } :: r) K ρ J eps log := Akt (b := true) he hd h k
theorem TD_onF {o oj : Oper} {v : AV} {J₁ : Sto} {j d : Nat} {b want : Bool} (hg : o.guard = some (j,want)) (hj : ops[j]? = some oj) (hdj : oj.dst = some d) (hb : Ad.at ρ d = some (.bool b)) (hw : cond b want (!want) = true)
  (he : Bv (A5 E o.op) = false) (hd : B9 nt o.dst = true) (h : A0 E Rr o.op ρ J v J₁)
  (k : TD E nt Rr ops r K (Dr o.dst v ρ) J eps ((ρ,v) :: log)) : TD E nt Rr ops (o :: r) K ρ J eps log := Pk (e := false) hg hj hdj hb hw he hd h k
theorem Se {o oj : Oper} {v : AV} {J₁ : Sto} {j d : Nat} {b want : Bool} (hg : o.guard = some (j,want)) (hj : ops[j]? = some oj) (hdj : oj.dst = some d) (hb : Ad.at ρ d = some (.bool b)) (hw : cond b want (!want) = true)
  (he : Bv (A5 E o.op) = true) (hd : B9 nt o.dst = true) (h : A0 E Rr o.op ρ J v J₁)
  (k : TD E nt Rr ops r K (Dr o.dst v ρ) J₁ (J₁ :: eps) ((ρ,v) :: log)) : TD E nt Rr ops (o :: r) K ρ J eps log := Pk (e := true) hg hj hdj hb hw he hd h k
theorem TD_offF {o oj : Oper} {j d : Nat} {b want : Bool} (hg : o.guard = some (j,want)) (hj : ops[j]? = some oj) (hdj : oj.dst = some d) (hb : Ad.at ρ d = some (.bool b)) (hw : cond b want (!want) = false)
  (he : Bv (A5 E o.op) = false) (hd : B9 nt o.dst = true)
  (k : TD E nt Rr ops r K (Dr o.dst An ρ) J eps ((ρ,An) :: log)) : TD E nt Rr ops (o :: r) K ρ J eps log := Sc (e := false) hg hj hdj hb hw he hd k
theorem Qr {o oj : Oper} {j d : Nat} {b want : Bool} (hg : o.guard = some (j,want)) (hj : ops[j]? = some oj) (hdj : oj.dst = some d) (hb : Ad.at ρ d = some (.bool b)) (hw : cond b want (!want) = false)
  (he : Bv (A5 E o.op) = true) (hd : B9 nt o.dst = true)
  (k : TD E nt Rr ops r K (Dr o.dst An ρ) J (J :: eps) ((ρ,An) :: log)) : TD E nt Rr ops (o :: r) K ρ J eps log := Sc (e := true) hg hj hdj hb hw he hd k
end
theorem Z3 {N M : Nat} (h : N <= M) {es : List (Key × AV)} (k : H9 N es = true) : H9 M es = true := by
 unfold H9 at k ⊢;rw [br_] at k ⊢;exact fun x hx => AV.und_mono h x.2 (k x hx)
theorem Agv {N M : Nat} (h : N <= M) : ∀ {c : Option (Key × AV)},Ai8 N c = true -> Ai8 M c = true
 | none,_ => rfl
 | some x,k => AV.und_mono h x.2 k
theorem AO.und_mono {N M : Nat} (h : N <= M) : ∀ {O : AO},AO.und N O = true -> AO.und M O = true
 | .cells vs,k => AV.unds_mono h vs k
 | .map _ es _,k => Z3 h k
 | .iter none _ _ _,_ => rfl
 | .iter (some r) _ _ _,k => C6 (aq_ (Fu k) h)
 | .stamp _ _ _,k => C6 (aq_ (Fu k) h)
 | .loop _,_ => rfl
theorem WFS.new {J : Sto} (hw : WFS J) {X : AO} (hX : AO.und (nx J + 1) X = true) (hI : Ai9 (J.new X) X) : WFS (J.new X) := by
 intro a O hg;rw [ab_] at hg;rw [Ac]
 split at hg
 ·rename_i ha; cases hg; subst ha; exact ⟨bo_ _,hX,hI⟩
 ·obtain ⟨h1,h2,h3⟩ := hw a O hg;refine ⟨Nat.lt_succ_of_lt h1,AO.und_mono (fm_ _) h2,?_⟩;cases O with
  | iter m ver left cur =>
   cases m with
   | none => trivial
   | some r =>
    intro kt es hr;have hlt : r < nx J := Fu h2;rw [ab_,if_neg Om] at hr;obtain ⟨k1,k2⟩ := h3 kt es hr;rw [Ac];exact ⟨Z3 (fm_ _) k1,Agv (fm_ _) k2⟩
  | cells _ => trivial
  | map _ _ _ => trivial
  | stamp _ _ _ => trivial
  | loop _ => trivial
theorem Hl.newMap {J τ : Sto} {kt ver : Nat} {es : List (Key × AV)} (hw : WFS J) (hb : Below (nx J) J τ) (hg : τ.get (nx J) = some (.map kt es ver)) (hn : nx J < nx τ) (hu : H9 (nx J + 1) es = true) : Hl τ (J.new (.map kt es ver)) := by
 refine ag_ (hw.new hu trivial) (by rw [Ac]; omega) fun a ha => ?_
 rw [Ac] at ha;rw [ab_]
 split
 ·rename_i h; subst h; exact hg
 ·exact hb.2 a Om
def aP (i j : Nat) : Ann := ⟨.pure,i,j⟩
def aR (i j : Nat) : Ann := ⟨.read,i,j⟩
def aE (i j : Nat) : Ann := ⟨.eff,i,j⟩
theorem sb {ρ ρ' : Ad} (h : H0 ρ' ρ := by repeat (first | exact .refl | refine .cons rfl ?_)) : H0 ρ' ρ := h
section
variable {E : Env} {nt B : Nat} {df : List (Nat × List AV)} {Q : Cz} {ρ : Ad} {J : Sto} {K : Ad -> Sto -> Prop}
theorem O1 {ops r : List Oper} {op : Op} {dst : Option Nat} {ty : Nat} {pos : String} {after : Array Edge} {v : AV} {J₁ : Sto} (h : A0 E (fun _ _ _ => none) op ρ J v J₁)
  (k : TO E nt df B ops r K (Dr dst v ρ) J₁) (hn : Fw op = true := by exact rfl) (hd : B9 nt dst = true := by exact rfl) : TO E nt df B ops ({ dst := dst,op := op,type := ty,pos := pos,after := after,guard := none } :: r) K ρ J := Zo noR hn hd h k
theorem OM {ops r : List Oper} {x : Operand} {dst : Option Nat} {ty : Nat} {pos : String} {after : Array Edge} {v : AV} (h : Ai E ρ x = some v)
  (k : TO E nt df B ops r K (Dr dst v ρ) J) (hd : B9 nt dst = true := by exact rfl) : TO E nt df B ops ({ dst := dst,op := .move x,type := ty,pos := pos,after := after,guard := none } :: r) K ρ J := Zo noR rfl hd (Cm h) k
theorem OA {ops r : List Oper} {x : Operand} {dst : Option Nat} {ty : Nat} {pos : String} {after : Array Edge} {v : AV} (h : Ai E ρ x = some v)
  (k : TO E nt df B ops r K (Dr dst v ρ) J) (hd : B9 nt dst = true := by exact rfl) : TO E nt df B ops ({ dst := dst,op := .assign x,type := ty,pos := pos,after := after,guard := none } :: r) K ρ J := Zo noR rfl hd (L6 h) k
theorem Of {ops r : List Oper} {o oj : Oper} {j d : Nat} {b b' want : Bool} (hgb : b = b') (k : TO E nt df B ops r K (Dr o.dst An ρ) J) (hg : o.guard = some (j,want) := by exact rfl) (hj : ops[j]? = some oj := by exact rfl) (hdj : oj.dst = some d := by exact rfl) (hb : Ad.at ρ d = some (.bool b) := by exact rfl) (hw : cond b' want (!want) = false := by exact rfl)
  (hd : B9 nt o.dst = true := by exact rfl) : TO E nt df B ops (o :: r) K ρ J := R0 hg hj hdj hb (by rw [hgb]; exact hw) hd k
theorem On {ops r : List Oper} {o oj : Oper} {v : AV} {J₁ : Sto} {j d : Nat} {b b' want : Bool} (hgb : b = b') (h : A0 E (fun _ _ _ => none) o.op ρ J v J₁) (k : TO E nt df B ops r K (Dr o.dst v ρ) J₁) (hg : o.guard = some (j,want) := by exact rfl) (hj : ops[j]? = some oj := by exact rfl) (hdj : oj.dst = some d := by exact rfl) (hb : Ad.at ρ d = some (.bool b) := by exact rfl) (hw : cond b' want (!want) = true := by exact rfl)
  (hn : Fw o.op = true := by exact rfl) (hd : B9 nt o.dst = true := by exact rfl) : TO E nt df B ops (o :: r) K ρ J := Zp hg hj hdj hb (by rw [hgb]; exact hw) noR hn hd h k
theorem Ou {ops r : List Oper} {o oj : Oper} {j d : Nat} {want : Bool} (k : TO E nt df B ops r K (Dr o.dst An ρ) J) (hg : o.guard = some (j,want) := by exact rfl) (hj : ops[j]? = some oj := by exact rfl) (hdj : oj.dst = some d := by exact rfl) (hb : Ad.at ρ d = some An := by exact rfl) (hd : B9 nt o.dst = true := by exact rfl) : TO E nt df B ops (o :: r) K ρ J := Aq7 hg hj hdj hb hd k
theorem DF {Rr : Rec} {ops r : List Oper} {Kd : KD} {eps : List Sto} {log : List (Ad × AV)} {op : Op} {dst : Option Nat} {ty : Nat} {pos : String} {after : Array Edge} {v : AV} {J₁ : Sto} (h : A0 E Rr op ρ J v J₁)
  (k : TD E nt Rr ops r Kd (Dr dst v ρ) J eps ((ρ,v) :: log)) (he : Bv (A5 E op) = false := by exact rfl) (hd : B9 nt dst = true := by exact rfl) : TD E nt Rr ops ({ dst := dst,op := op,type := ty,pos := pos,after := after,guard := none } :: r) Kd ρ J eps log := Akt (b := false) he hd h k
theorem DT {Rr : Rec} {ops r : List Oper} {Kd : KD} {eps : List Sto} {log : List (Ad × AV)} {op : Op} {dst : Option Nat} {ty : Nat} {pos : String} {after : Array Edge} {v : AV} {J₁ : Sto} (h : A0 E Rr op ρ J v J₁)
  (k : TD E nt Rr ops r Kd (Dr dst v ρ) J₁ (J₁ :: eps) ((ρ,v) :: log)) (he : Bv (A5 E op) = true := by exact rfl) (hd : B9 nt dst = true := by exact rfl) : TD E nt Rr ops ({ dst := dst,op := op,type := ty,pos := pos,after := after,guard := none } :: r) Kd ρ J eps log := Akt (b := true) he hd h k
theorem A2 {fn : Func} {ρ' : Ad} {vs : List AV} {P : AV -> Prop} (hw : WFS J) (hr : T4 E ρ' J fn.results.toList = some vs) (h : P (Tk vs)) (hu : AV.und (nx J) (Tk vs) = true := by exact rfl) : Ae2 E fn (nx J) (fun v τ => P v /\ τ = J) ρ' J :=
 ⟨vs,hr,Tk vs,J,ag_ hw nl (fun _ _ => rfl),nl,.same hu,h,rfl⟩
theorem Dx {Rr : Rec} {ops r : List Oper} {Kd : KD} {eps : List Sto} {log : List (Ad × AV)} {o oj : Oper} {j d : Nat} {b want : Bool} (hg : o.guard = some (j,want)) (hj : ops[j]? = some oj) (hdj : oj.dst = some d) (hb : Ad.at ρ d = some (.bool b)) (hw : cond b want (!want) = false)
  (k : TD E nt Rr ops r Kd (Dr o.dst An ρ) J eps ((ρ,An) :: log)) (he : Bv (A5 E o.op) = false := by exact rfl) (hd : B9 nt o.dst = true := by exact rfl) : TD E nt Rr ops (o :: r) Kd ρ J eps log := Sc (e := false) hg hj hdj hb hw he hd k
theorem Dn {Rr : Rec} {ops r : List Oper} {Kd : KD} {eps : List Sto} {log : List (Ad × AV)} {o oj : Oper} {v : AV} {J₁ : Sto} {j d : Nat} {b want : Bool} (hg : o.guard = some (j,want)) (hj : ops[j]? = some oj) (hdj : oj.dst = some d) (hb : Ad.at ρ d = some (.bool b)) (hw : cond b want (!want) = true)
  (h : A0 E Rr o.op ρ J v J₁) (k : TD E nt Rr ops r Kd (Dr o.dst v ρ) J eps ((ρ,v) :: log)) (he : Bv (A5 E o.op) = false := by exact rfl) (hd : B9 nt o.dst = true := by exact rfl) : TD E nt Rr ops (o :: r) Kd ρ J eps log := Pk (e := false) hg hj hdj hb hw he hd h k
theorem Du {Rr : Rec} {ops r : List Oper} {Kd : KD} {eps : List Sto} {log : List (Ad × AV)} {o oj : Oper} {j d : Nat} {want : Bool} (k : TD E nt Rr ops r Kd (Dr o.dst An ρ) J eps ((ρ,An) :: log)) (hg : o.guard = some (j,want) := by exact rfl) (hj : ops[j]? = some oj := by exact rfl) (hdj : oj.dst = some d := by exact rfl) (hb : Ad.at ρ d = some An := by exact rfl)
  (he : Bv (A5 E o.op) = false := by exact rfl) (hd : B9 nt o.dst = true := by exact rfl) : TD E nt Rr ops (o :: r) Kd ρ J eps log := X7 (e := false) hg hj hdj hb he hd k
end
section
open Go Go.Proofs
instance : Abw Ew := ⟨fun g cs h => (by
 have h : glW g = some cs := h;unfold glW at h
 split at h
 ·cases h; rfl
 ·cases h),rfl⟩
theorem Ak {f : Nat} {fn : Func} {c : Code} {args : List AV} {J : Sto} {Post : AV -> Sto -> Prop} (hfn : Tryz.prog.funcs[f]? = some fn) (hc : fn.body = some c) (hle : Nat.ble args.length fn.ntmps = true)
  (h : WFS J -> AV.unds (nx J) args = true -> T Ew fn.ntmps [] (nx J) c (Amh (Ae2 Ew fn (nx J) Post)) (F9 args 0) J) : Aq Ew f args J Post :=
 callTo hfn (L7 f fn hfn) hc hle h
end
section
open Go Go.Proofs
theorem Kr {p : Prop} (h : p := by kernel_rfl) : p := h
theorem SL {p : Prop} (h : p := by repeat (first | exact trivial | refine ⟨rfl,?_⟩)) : p := h
class Ld (t : Nat) (s : outParam Nat) (g : outParam Bool) : Prop where
 h : ldI Ew.P t = some (s,g) := by kernel_rfl
class Fd (t i : Nat) (o s : outParam Nat) (g : outParam Bool) : Prop where
 h : fdI Ew.P t i = some (o,s,g) := by kernel_rfl
class Sl (t : Nat) : Prop where
 h : Kj Ew.P t = true := by kernel_rfl
class Ok (t : Nat) : Prop where
 h : okI Ew.P t = true := by kernel_rfl
class El (t : Nat) (s b : outParam Nat) (z : outParam (Option (List AV))) : Prop where
 h : elI Ew.P t = some (s,b,z) := by kernel_rfl
class Zi (t : Nat) (z : outParam (List AV)) : Prop where
 h : zI Ew.P t = some z := by kernel_rfl
class Bd (t : Nat) (z : outParam (List AV)) (l : outParam (List (Nat × Nat))) : Prop where
 h : bdI Ew.P t = some (z,l) := by kernel_rfl
theorem stZ : Fb Ew.P 9 = true := by kernel_rfl
theorem ldC {t s : Nat} {g : Bool} [i : Ld t s g] : ldI Ew.P t = some (s,g) := i.h
theorem fdC {t i o s : Nat} {g : Bool} [k : Fd t i o s g] : fdI Ew.P t i = some (o,s,g) := k.h
theorem slC {t : Nat} [i : Sl t] : Kj Ew.P t = true := i.h
theorem okC {t : Nat} [i : Ok t] : okI Ew.P t = true := i.h
theorem elC {t s b : Nat} {z : Option (List AV)} [i : El t s b z] : elI Ew.P t = some (s,b,z) := i.h
theorem ziC {t : Nat} {z : List AV} [i : Zi t z] : zI Ew.P t = some z := i.h
theorem bdC {t : Nat} {z : List AV} {l : List (Nat × Nat)} [i : Bd t z l] : bdI Ew.P t = some (z,l) := i.h
section
variable {nt B : Nat} {df : List (Nat × List AV)} {Q : Cz} {ρ : Ad} {J : Sto} {K : Ad -> Sto -> Prop} {Rr : Rec}
def anO (E : Env) (ops : Array Oper) (f : List Ann -> Bool) : Bool := match Id E ops with | some l => f l | none => false
theorem Ae9 {E : Env} {ops : Array Oper} {f : List Ann -> Bool} (h : anO E ops f = true) : ∃ l,Id E ops = some l /\ f l = true := by
 unfold anO at h
 split at h
 ·exact ⟨_,by assumption,h⟩
 ·cases h
theorem XI {id : Nat} {ops : Array Oper} {l : List (Nat × List AV × Sto × AV × Sto)} (hk : Acg Ew l) (h : TD Ew nt (Eq l) ops.toList ops.toList (KDI Q J) ρ J [J] []) (ha : anO Ew ops (fun _ => true) = true := by kernel_rfl) : T Ew nt df B (.region id ops true) Q ρ J := by
 obtain ⟨_,h1,_⟩ := Ae9 ha;exact Arc Cu (Fv hk) h1 h
theorem X0 {id : Nat} {ops : Array Oper} (h : TD Ew nt (fun _ _ _ => none) ops.toList ops.toList (KD0 Q J) ρ J [J] []) (ha : anO Ew ops (fun _ => Aku Ew ops.toList) = true := by kernel_rfl) : T Ew nt df B (.region id ops true) Q ρ J := by
 obtain ⟨_,h1,h2⟩ := Ae9 ha;exact Ara Cu h1 h2 h
theorem XS {id : Nat} {ops : Array Oper} {l : List (Nat × List AV × Sto × AV × Sto)} (hk : Acg Ew l) (h : TD Ew nt (Eq l) ops.toList ops.toList (KDS Q) ρ J [J] []) (ha : anO Ew ops (fun a => Qp Ew a ops.toList 0) = true := by kernel_rfl) : T Ew nt df B (.region id ops true) Q ρ J := by
 obtain ⟨_,h1,h2⟩ := Ae9 ha;exact Arb Cu (Fv hk) h1 h2 h
theorem XX (m : Nat) {id : Nat} {ops : Array Oper} {l : List (Nat × List AV × Sto × AV × Sto)} (hk : Acg Ew l) (h : TD Ew nt (Eq l) ops.toList ops.toList (KDX Q m J) ρ J [J] []) (ha : anO Ew ops (fun a => Ik Ew m a ops.toList false) = true := by kernel_rfl) : T Ew nt df B (.region id ops true) Q ρ J := by
 obtain ⟨_,h1,h2⟩ := Ae9 ha;exact Are m Cu (Fv hk) h1 h2 h
theorem TAn (n : Nat) {b : Bool} (q : Bool) {ops r r' : List Oper} {o : Oper} {t : Nat} {c x : Operand} 
  (hon : b = true -> TO Ew nt df B ops (r.take n) (fun ρ' J' => J' = J /\ H0 ρ ρ' /\ Ai Ew ρ' x = some (.bool q)) ρ J)
  (k : TO Ew nt df B ops r' K ((t,.bool (b && q)) :: ρ) J)
  (hr : r.drop n = o :: r' := by exact rfl) (hop : o.op = .pick c x (.const (.bool false)) := by exact rfl) (db : o.dst = some t := by exact rfl) (h0 : Ai Ew ρ c = some (.bool b) := by exact rfl) (ht : Nat.blt t nt = true := by exact rfl) (hg : o.guard = none := by exact rfl)
  (fb : b = false -> TO Ew nt df B ops (r.take n) (fun ρ' J' => J' = J /\ H0 ρ ρ') ρ J := by intro hg; (repeat (first | refine Of hg ?_ | refine Ou ?_)); exact Vo ⟨rfl,sb⟩) : TO Ew nt df B ops r K ρ J :=
 Ph n b q h0 hr hop db ht (L9 hg) hon fb k
theorem TOr (n : Nat) {b : Bool} (q : Bool) {ops r r' : List Oper} {o : Oper} {t : Nat} {c x : Operand} 
  (hon : b = false -> TO Ew nt df B ops (r.take n) (fun ρ' J' => J' = J /\ H0 ρ ρ' /\ Ai Ew ρ' x = some (.bool q)) ρ J)
  (k : TO Ew nt df B ops r' K ((t,.bool (b || q)) :: ρ) J)
  (hr : r.drop n = o :: r' := by exact rfl) (hop : o.op = .pick c (.const (.bool true)) x := by exact rfl) (db : o.dst = some t := by exact rfl) (h0 : Ai Ew ρ c = some (.bool b) := by exact rfl) (ht : Nat.blt t nt = true := by exact rfl) (hg : o.guard = none := by exact rfl)
  (fb : b = true -> TO Ew nt df B ops (r.take n) (fun ρ' J' => J' = J /\ H0 ρ ρ') ρ J := by intro hg; (repeat (first | refine Of hg ?_ | refine Ou ?_)); exact Vo ⟨rfl,sb⟩) : TO Ew nt df B ops r K ρ J :=
 Zt n b q h0 hr hop db ht (L9 hg) hon fb k
theorem Xf {ops r : List Oper} {Kd : KD} {eps : List Sto} {log : List (Ad × AV)} {o oj : Oper} {j d : Nat} {b want : Bool} (k : TD Ew nt Rr ops r Kd (Dr o.dst An ρ) J eps ((ρ,An) :: log)) (hg : o.guard = some (j,want) := by exact rfl) (hj : ops[j]? = some oj := by exact rfl) (hdj : oj.dst = some d := by exact rfl) (hb : Ad.at ρ d = some (.bool b) := by exact rfl) (hw : cond b want (!want) = false := by first | rfl | simp only [*] <;> rfl | simp [*] <;> fail)
  (he : Bv (A5 Ew o.op) = false := by exact rfl) (hd : B9 nt o.dst = true := by exact rfl) : TD Ew nt Rr ops (o :: r) Kd ρ J eps log := Dx hg hj hdj hb hw k he hd
theorem Xn {ops r : List Oper} {Kd : KD} {eps : List Sto} {log : List (Ad × AV)} {o oj : Oper} {v : AV} {J₁ : Sto} {j d : Nat} {b want : Bool} (h : A0 Ew Rr o.op ρ J v J₁) (k : TD Ew nt Rr ops r Kd (Dr o.dst v ρ) J eps ((ρ,v) :: log)) (hg : o.guard = some (j,want) := by exact rfl) (hj : ops[j]? = some oj := by exact rfl) (hdj : oj.dst = some d := by exact rfl) (hb : Ad.at ρ d = some (.bool b) := by exact rfl) (hw : cond b want (!want) = true := by first | rfl | simp only [*] <;> rfl | simp [*] <;> fail)
  (he : Bv (A5 Ew o.op) = false := by exact rfl) (hd : B9 nt o.dst = true := by exact rfl) : TD Ew nt Rr ops (o :: r) Kd ρ J eps log := Dn hg hj hdj hb hw h k he hd
end
theorem k_lss {Rr : Rec} {ρ : Ad} {J : Sto} {t ty : Nat} {x : Operand} {k : IntKind} {p q : Int} (hi : okI Ew.P t = true) (hx : Ai Ew ρ x = some (.int k p)) : A0 Ew Rr (.binOp .lss t x (.const (.int k q)) ty) ρ J (.bool (decide (p < q))) J := An8 hi hx (by cases q <;> simp [Ai,ofV,Xh,Ag,hdV])
theorem k_leq {Rr : Rec} {ρ : Ad} {J : Sto} {t ty : Nat} {x : Operand} {k : IntKind} {p q : Int} (hi : okI Ew.P t = true) (hx : Ai Ew ρ x = some (.int k p)) : A0 Ew Rr (.binOp .leq t x (.const (.int k q)) ty) ρ J (.bool (decide (p <= q))) J := Rx hi hx (by cases q <;> simp [Ai,ofV,Xh,Ag,hdV])
theorem k_gtr {Rr : Rec} {ρ : Ad} {J : Sto} {t ty : Nat} {x : Operand} {k : IntKind} {p q : Int} (hi : okI Ew.P t = true) (hx : Ai Ew ρ x = some (.int k p)) : A0 Ew Rr (.binOp .gtr t x (.const (.int k q)) ty) ρ J (.bool (decide (q < p))) J := Aev hi hx (by cases q <;> simp [Ai,ofV,Xh,Ag,hdV])
theorem k_geq {Rr : Rec} {ρ : Ad} {J : Sto} {t ty : Nat} {x : Operand} {k : IntKind} {p q : Int} (hi : okI Ew.P t = true) (hx : Ai Ew ρ x = some (.int k p)) : A0 Ew Rr (.binOp .geq t x (.const (.int k q)) ty) ρ J (.bool (decide (q <= p))) J := Ai1 hi hx (by cases q <;> simp [Ai,ofV,Xh,Ag,hdV])
theorem k_eqi {Rr : Rec} {ρ : Ad} {J : Sto} {t ty : Nat} {x : Operand} {k : IntKind} {p q : Int} (hi : okI Ew.P t = true) (hx : Ai Ew ρ x = some (.int k p)) : A0 Ew Rr (.binOp .eql t x (.const (.int k q)) ty) ρ J (.bool (decide (p = q))) J := Lp hi hx (by cases q <;> simp [Ai,ofV,Xh,Ag,hdV])
theorem k_nei {Rr : Rec} {ρ : Ad} {J : Sto} {t ty : Nat} {x : Operand} {k : IntKind} {p q : Int} (hi : okI Ew.P t = true) (hx : Ai Ew ρ x = some (.int k p)) : A0 Ew Rr (.binOp .neq t x (.const (.int k q)) ty) ρ J (.bool (!decide (p = q))) J := Pe hi hx (by cases q <;> simp [Ai,ofV,Xh,Ag,hdV])
theorem Ez {nt B : Nat} {df : List (Nat × List AV)} {ρ ρ' : Ad} {J : Sto} {ops : List Oper} {x : Operand} {q : Bool} (h1 : H0 ρ ρ' := by repeat (first | exact .refl | refine .cons rfl ?_)) (h2 : Ai Ew ρ' x = some (.bool q) := by exact rfl) : TO Ew nt df B ops [] (fun ρ'' J'' => J'' = J /\ H0 ρ ρ'' /\ Ai Ew ρ'' x = some (.bool q)) ρ' J := Vo ⟨rfl,h1,h2⟩
theorem Cb {a b : Bool} (h : a = b := by first | rfl | simp only [*] <;> rfl | simp [*] <;> fail) : some (AV.bool a) = some (AV.bool b) := congrArg (fun b => some (AV.bool b)) h
theorem Oq {Rr : Rec} {op : Op} {ρ : Ad} {J : Sto} {v : AV} {J₁ : Sto} (h : A0 Ew Rr op ρ J v J₁ := by first | exact Cm rfl | exact L6 rfl | exact Ah ldC rfl rfl rfl | exact Ah ldC rfl rfl (B0 (B2 _)) | exact B3 fdC rfl rfl | exact Aof slC rfl | exact Ai2 rfl rfl | exact Bn elC (fun _ => rfl) rfl rfl (by assumption) | exact Ek (q := 1) okC rfl rfl Om | exact M2 rfl | exact k_lss okC rfl | exact An8 okC rfl rfl | exact k_nei okC rfl | exact Pe okC rfl rfl | exact k_gtr okC rfl | exact Aev okC rfl rfl | exact k_eqi okC rfl | exact Lp okC rfl rfl | exact k_geq okC rfl | exact Ai1 okC rfl rfl | exact Aog bdC rfl rfl | exact Akn rfl rfl | exact Bo rfl rfl Bx | exact Amb rfl | exact Ama rfl | exact Aq8 stZ rfl | exact Sb (q := []) okC rfl rfl | exact Sb okC rfl rfl | exact E5 rfl (by first | rfl | simp only [*] <;> rfl | simp [*] <;> fail) rfl | exact Am rfl (by first | rfl | simp only [*] <;> rfl | simp [*] <;> fail) rfl | fail) : A0 Ew Rr op ρ J v J₁ := h
theorem G {P Q : Prop} (k : P) (h : P -> Q := by first | exact Ach | exact Vo | exact C7 | exact fun k => O1 Oq k | exact Aja | exact Ako | exact Ajb | exact fun k => Ql ldC rfl rfl rfl k | exact fun k => Ql ldC rfl (Bk (B2 _)) rfl k | exact fun k => Zr ziC ldC rfl (fun _ => rfl) rfl rfl rfl rfl k | exact Aoa | exact fun k => DF Oq k | exact fun k => DT Oq k | exact Ii | exact fun k => Xf k | exact fun k => Xn Oq k | exact fun k => Du k | fail) : Q := h k
theorem Gn {b b' : Bool} (hg : b = b') {P Q : Prop} (k : P) (h : P -> Q := by first | exact fun k => On hg Oq k | exact fun k => Of hg k | exact fun k => Ou k | exact Vo | fail) : Q := h k
theorem Gs {P Q : Prop} (h : P -> Q := by first | exact Ach | exact Vo | exact C7 | exact fun k => O1 Oq k | exact Aja | exact Ako | exact Ajb | exact fun k => Ql ldC rfl rfl rfl k | exact fun k => Ql ldC rfl (Bk (B2 _)) rfl k | exact fun k => Zr ziC ldC rfl (fun _ => rfl) rfl rfl rfl rfl k | exact Aoa | exact fun k => DF Oq k | exact fun k => DT Oq k | exact Ii | exact fun k => Xf k | exact fun k => Xn Oq k | exact fun k => Du k | fail) : P -> Q := h
theorem G2 {P Q R1 : Prop} (k : P) (h1 : R1 -> Q := by exact Gs) (h2 : P -> R1 := by exact Gs) : Q := h1 (h2 k)
theorem G3 {P Q R1 R2 : Prop} (k : P) (h1 : R1 -> Q := by exact Gs) (h2 : R2 -> R1 := by exact Gs) (h3 : P -> R2 := by exact Gs) : Q := h1 (h2 (h3 k))
theorem G4 {P Q R1 R2 R3 : Prop} (k : P) (h1 : R1 -> Q := by exact Gs) (h2 : R2 -> R1 := by exact Gs) (h3 : R3 -> R2 := by exact Gs) (h4 : P -> R3 := by exact Gs) : Q := h1 (h2 (h3 (h4 k)))
theorem G5 {P Q R1 R2 R3 R4 : Prop} (k : P) (h1 : R1 -> Q := by exact Gs) (h2 : R2 -> R1 := by exact Gs) (h3 : R3 -> R2 := by exact Gs) (h4 : R4 -> R3 := by exact Gs) (h5 : P -> R4 := by exact Gs) : Q := h1 (h2 (h3 (h4 (h5 k))))
theorem G6 {P Q R1 R2 R3 R4 R5 : Prop} (k : P) (h1 : R1 -> Q := by exact Gs) (h2 : R2 -> R1 := by exact Gs) (h3 : R3 -> R2 := by exact Gs) (h4 : R4 -> R3 := by exact Gs) (h5 : R5 -> R4 := by exact Gs) (h6 : P -> R5 := by exact Gs) : Q := h1 (h2 (h3 (h4 (h5 (h6 k)))))
theorem G7 {P Q R1 R2 R3 R4 R5 R6 : Prop} (k : P) (h1 : R1 -> Q := by exact Gs) (h2 : R2 -> R1 := by exact Gs) (h3 : R3 -> R2 := by exact Gs) (h4 : R4 -> R3 := by exact Gs) (h5 : R5 -> R4 := by exact Gs) (h6 : R6 -> R5 := by exact Gs) (h7 : P -> R6 := by exact Gs) : Q := h1 (h2 (h3 (h4 (h5 (h6 (h7 k))))))
theorem G8 {P Q R1 R2 R3 R4 R5 R6 R7 : Prop} (k : P) (h1 : R1 -> Q := by exact Gs) (h2 : R2 -> R1 := by exact Gs) (h3 : R3 -> R2 := by exact Gs) (h4 : R4 -> R3 := by exact Gs) (h5 : R5 -> R4 := by exact Gs) (h6 : R6 -> R5 := by exact Gs) (h7 : R7 -> R6 := by exact Gs) (h8 : P -> R7 := by exact Gs) : Q := h1 (h2 (h3 (h4 (h5 (h6 (h7 (h8 k)))))))
theorem G9 {P Q R1 R2 R3 R4 R5 R6 R7 R8 : Prop} (k : P) (h1 : R1 -> Q := by exact Gs) (h2 : R2 -> R1 := by exact Gs) (h3 : R3 -> R2 := by exact Gs) (h4 : R4 -> R3 := by exact Gs) (h5 : R5 -> R4 := by exact Gs) (h6 : R6 -> R5 := by exact Gs) (h7 : R7 -> R6 := by exact Gs) (h8 : R8 -> R7 := by exact Gs) (h9 : P -> R8 := by exact Gs) : Q := h1 (h2 (h3 (h4 (h5 (h6 (h7 (h8 (h9 k))))))))
theorem G10 {P Q R1 R2 R3 R4 R5 R6 R7 R8 R9 : Prop} (k : P) (h1 : R1 -> Q := by exact Gs) (h2 : R2 -> R1 := by exact Gs) (h3 : R3 -> R2 := by exact Gs) (h4 : R4 -> R3 := by exact Gs) (h5 : R5 -> R4 := by exact Gs) (h6 : R6 -> R5 := by exact Gs) (h7 : R7 -> R6 := by exact Gs) (h8 : R8 -> R7 := by exact Gs) (h9 : R9 -> R8 := by exact Gs) (h10 : P -> R9 := by exact Gs) : Q := h1 (h2 (h3 (h4 (h5 (h6 (h7 (h8 (h9 (h10 k)))))))))
theorem G11 {P Q R1 R2 R3 R4 R5 R6 R7 R8 R9 R10 : Prop} (k : P) (h1 : R1 -> Q := by exact Gs) (h2 : R2 -> R1 := by exact Gs) (h3 : R3 -> R2 := by exact Gs) (h4 : R4 -> R3 := by exact Gs) (h5 : R5 -> R4 := by exact Gs) (h6 : R6 -> R5 := by exact Gs) (h7 : R7 -> R6 := by exact Gs) (h8 : R8 -> R7 := by exact Gs) (h9 : R9 -> R8 := by exact Gs) (h10 : R10 -> R9 := by exact Gs) (h11 : P -> R10 := by exact Gs) : Q := h1 (h2 (h3 (h4 (h5 (h6 (h7 (h8 (h9 (h10 (h11 k))))))))))
theorem G12 {P Q R1 R2 R3 R4 R5 R6 R7 R8 R9 R10 R11 : Prop} (k : P) (h1 : R1 -> Q := by exact Gs) (h2 : R2 -> R1 := by exact Gs) (h3 : R3 -> R2 := by exact Gs) (h4 : R4 -> R3 := by exact Gs) (h5 : R5 -> R4 := by exact Gs) (h6 : R6 -> R5 := by exact Gs) (h7 : R7 -> R6 := by exact Gs) (h8 : R8 -> R7 := by exact Gs) (h9 : R9 -> R8 := by exact Gs) (h10 : R10 -> R9 := by exact Gs) (h11 : R11 -> R10 := by exact Gs) (h12 : P -> R11 := by exact Gs) : Q := h1 (h2 (h3 (h4 (h5 (h6 (h7 (h8 (h9 (h10 (h11 (h12 k)))))))))))
section
variable {nt : Nat} {ρ : Ad} {J : Sto} {Rr : Rec} {ops r : List Oper} {Kd : KD} {eps : List Sto} {log : List (Ad × AV)} {o oj : Oper} {j d : Nat} {b want : Bool}
theorem Wx (k : TD Ew nt Rr ops r Kd (Dr o.dst An ρ) J eps ((ρ,An) :: log)) (hg : o.guard = some (j,want) := by exact rfl) (hj : ops[j]? = some oj := by exact rfl) (hdj : oj.dst = some d := by exact rfl) (hb : Ad.at ρ d = some (.bool b) := by exact rfl) (he : Bv (A5 Ew o.op) = false := by exact rfl) (hd : B9 nt o.dst = true := by exact rfl) (w : cond b want (!want) = false) : TD Ew nt Rr ops (o :: r) Kd ρ J eps log := Dx hg hj hdj hb w k he hd
theorem Wn {v : AV} {J₁ : Sto} (h : A0 Ew Rr o.op ρ J v J₁) (k : TD Ew nt Rr ops r Kd (Dr o.dst v ρ) J eps ((ρ,v) :: log)) (hg : o.guard = some (j,want) := by exact rfl) (hj : ops[j]? = some oj := by exact rfl) (hdj : oj.dst = some d := by exact rfl) (hb : Ad.at ρ d = some (.bool b) := by exact rfl) (he : Bv (A5 Ew o.op) = false := by exact rfl) (hd : B9 nt o.dst = true := by exact rfl) (w : cond b want (!want) = true) : TD Ew nt Rr ops (o :: r) Kd ρ J eps log := Dn hg hj hdj hb w h k he hd
end
abbrev Cv (f : Nat) (a : List AV) (J : Sto) (x : AV) : Prop := Aq Ew f a J fun v τ => v = x /\ τ = J
end
structure Pr where
 a : Str
 b : Str
 deriving DecidableEq
structure Hp where
 label : Str
 floating : Bool
 text : List Str
structure Fr where
 label : Str
 thm : Bool
 hyps : List Hp
 apart : List Pr
 text : List Str
 dummies : List Hp
 wide : List Pr
 proof : List Str
structure Db where
 consts : List Str
 vars : List Str
 frames : List Fr
inductive As where
 | node (label : Str) (kids : List As)
structure Pt where
 symbol : Str
 sort : Str
 arg : Int
structure Rl where
 label : Str
 sort : Str
 parts : List Pt
 var : Bool
structure Gr where
 sorts : List Str
 rules : List Rl
abbrev Aj (l : List Str) : AV := slV (fun s => [sV s]) 1 l
def eP (p : Pr) : List AV := [sV p.a,sV p.b]
def eH (h : Hp) : List AV := [sV h.label,.bool h.floating,Aj h.text]
def eF (f : Fr) : List AV := [sV f.label,.bool f.thm,slV eH 3 f.hyps,slV eP 2 f.apart,Aj f.text,slV eH 3 f.dummies,slV eP 2 f.wide,Aj f.proof]
def dbV (d : Db) : AV := .agg [Aj d.consts,Aj d.vars,slV eF 8 d.frames]
mutual
def eT : As -> List AV
 | .node l ks => [sV l,.sv (eTs ks) 2 ks.length none]
def eTs : List As -> List AV
 | [] => []
 | t :: r => eT t ++ eTs r
end
theorem Agw : ∀ l : List As,eTs l = l.flatMap eT
 | [] => by simp [eTs]
 | t :: r => by simp [eTs,Agw r]
theorem Jr (l : Str) (ks : List As) : eT (.node l ks) = [sV l,slV eT 2 ks] := by simp [eT,slV,Agw]
theorem B2 (t : As) : (eT t).length = 2 := by cases t; simp [eT]
def Bp (t : As) : AV := .agg (eT t)
def ePt (p : Pt) : List AV := [sV p.symbol,sV p.sort,iV p.arg]
def eR (r : Rl) : List AV := [sV r.label,sV r.sort,slV ePt 3 r.parts,.bool r.var]
def grV (g : Gr) : AV := .agg [Aj g.sorts,slV eR 4 g.rules]
section
def Pm : List Nat -> Nat -> Option Nat
 | [],_ => none
 | x :: r,a => cond (Nat.beq x a) (some 0) (match Pm r a with | some i => some (i + 1) | none => none)
mutual
def AV.ren (L : List Nat) (b : Nat) : AV -> AV
 | .pr a off => match Pm L a with | some i => Bt (b + i) fun n => .pr n off | none => .any
 | .sr a off sz len cap => match Pm L a with | some i => Bt (b + i) fun n => .sr n off sz len cap | none => .any
 | .mp a => match Pm L a with | some i => Bt (b + i) fun n => .mp n | none => .any
 | .it _ => .any
 | .stp _ => .any
 | .yl _ => .any
 | .flt k n => .flt k n
 | .pv cs => .pv (AV.rens L b cs)
 | .sv cs sz len cap => .sv (AV.rens L b cs) sz len cap
 | .fn f p q => .fn f (AV.rens L b p) (AV.rens L b q)
 | .ifc t x => .ifc t (AV.ren L b x)
 | .agg cs => .agg (AV.rens L b cs)
 | .tup vs => .tup (AV.rens L b vs)
 | .any => .any
 | .bool x => .bool x
 | .int k n => .int k n
 | .str l => .str l
 | .nil v => .nil v
def AV.rens (L : List Nat) (b : Nat) : List AV -> List AV
 | [] => []
 | x :: r => AV.ren L b x :: AV.rens L b r
end
def Agx (L : List Nat) (b : Nat) : List (Key × AV) -> List (Key × AV)
 | [] => []
 | (k,v) :: r => (k,AV.ren L b v) :: Agx L b r
def AO.ren (L : List Nat) (b : Nat) : AO -> Option AO
 | .cells vs => some (.cells (AV.rens L b vs))
 | .map kt es ver => some (.map kt (Agx L b es) ver)
 | _ => none
def H2 (L : List Nat) (b : Nat) (J : Sto) : List Nat -> Option (List AO)
 | [] => some []
 | a :: r => match J.get a with
  | some o => match o.ren L b,H2 L b J r with
   | some o',some l => some (o' :: l)
   | _,_ => none
  | none => none
def Ff : List AO -> Sto -> Sto
 | [],J => J
 | o :: r,J => Ff r (J.new o)
theorem Acu : ∀ {L : List Nat} {a i : Nat},Pm L a = some i -> L[i]? = some a
 | [],a,i,h => by simp [Pm] at h
 | x :: r,a,i,h => by
  simp only [Pm] at h;cases hb : Nat.beq x a with
  | true =>
   have hxa := aa_ hb
   simp [hb] at h; subst h; simp [hxa]
  | false =>
   simp only [hb,cond_false] at h
   split at h
   ·rename_i j hj; cases h; simpa using Acu hj
   ·cases h
theorem Acv : ∀ (l : List AO) (J : Sto),nx (Ff l J) = nx J + l.length
 | [],J => rfl
 | o :: r,J => by simp only [Ff,Acv r,Ac,ap_]; omega
theorem Hd : ∀ (l : List AO) (J : Sto) (a : Nat),(Ff l J).get a = if a < nx J then J.get a else match l[a - nx J]? with | some o => some o | none => J.get a
 | [],J,a => by simp [Ff]
 | o :: r,J,a => by
  simp only [Ff];rw [Hd r,Ac,ab_]
  by_cases h : a < nx J
  ·rw [if_pos Om,if_neg Om,if_pos h]
  ·rw [if_neg h]
   by_cases h2 : a = nx J
   ·subst h2; rw [if_pos Om,if_pos rfl]; simp
   ·rw [if_neg Om,if_neg h2]
    have : a - nx J = (a - (nx J + 1)) + 1 := by omega
    rw [this,bi_]
section
variable {C₁ C' : Ctx} {N₁ N' b : Nat} {w : World} {L : List Nat}
structure Agy (L : List Nat) (b : Nat) (C₁ C' : Ctx) (N' : Nat) : Prop where
 at' : ∀ a i,Pm L a = some i -> b + i < N' /\ C'.loc (b + i) = C₁.loc a
 own : ∀ c,C'.own c -> C₁.own c
mutual
theorem R.ren (h : Agy L b C₁ C' N') : ∀ (x : AV) (v : Value),R C₁ N₁ w x v -> R C' N' w (x.ren L b) v
 | .pr a off,v,hr => by
  unfold AV.ren
  split
  ·rename_i i hi
   obtain ⟨k1,k2⟩ := h.at' a i hi;rw [Ag];unfold R at *;obtain ⟨ad,h1,h2,h3⟩ := hr
   exact ⟨ad,h1,k1,fun c o hc => h3 c o (by rw [← k2]; exact hc)⟩
  ·unfold R; trivial
 | .sr a off sz len cap,v,hr => by
  unfold AV.ren
  split
  ·rename_i i hi
   obtain ⟨k1,k2⟩ := h.at' a i hi;rw [Ag];unfold R at *;obtain ⟨ad,k,h1,h2,h3,h4,h5⟩ := hr
   exact ⟨ad,k,h1,k1,h3,h4,fun c o hc => h5 c o (by rw [← k2]; exact hc)⟩
  ·unfold R; trivial
 | .mp a,v,hr => by
  unfold AV.ren
  split
  ·rename_i i hi
   obtain ⟨k1,k2⟩ := h.at' a i hi;rw [Ag];unfold R at *;obtain ⟨c,h1,h2,h3⟩ := hr
   exact ⟨c,h1,k1,fun c' o hc => h3 c' o (by rw [← k2]; exact hc)⟩
  ·unfold R; trivial
 | .it _,v,hr => by unfold AV.ren R; trivial
 | .stp _,v,hr => by unfold AV.ren R; trivial
 | .yl _,v,hr => by unfold AV.ren R; trivial
 | .flt k n,v,hr => by unfold AV.ren; unfold R at *; exact hr
 | .pv cs,v,hr => by
  unfold AV.ren;unfold R at *;obtain ⟨c,o,h1,h2,h3⟩ := hr
  exact ⟨c,o,h1,fun hne ho => h2 (fun he => hne (by rw [he]; rfl)) (h.own c ho),RC.ren h cs c o h3⟩
 | .sv cs sz len cap,v,hr => by
  unfold AV.ren;unfold R at *;obtain ⟨ado,k,h1,h2,h3,h4,h0,hh⟩ := hr
  refine ⟨ado,k,h1,h2,h3,by rw [W5,h4],h0,fun ad ha => ?_⟩
  obtain ⟨h5,h6,h7⟩ := hh ad ha
  exact ⟨h5,fun hne ho => h6 (fun he => hne (by rw [he]; rfl)) (h.own _ ho),RC.ren h cs ad.block ad.off h7⟩
 | .fn f p q,v,hr => by
  unfold AV.ren;unfold R at *;obtain ⟨a,c,h1,h2,h3⟩ := hr;exact ⟨a,c,h1,RL.ren h p _ h2,RL.ren h q _ h3⟩
 | .ifc t x,v,hr => by
  unfold AV.ren;unfold R at *;obtain ⟨y,h1,h2⟩ := hr;exact ⟨y,h1,R.ren h x y h2⟩
 | .agg cs,v,hr => by
  unfold AV.ren;unfold R at *;obtain ⟨a,h1,h2,h3⟩ := hr;exact ⟨a,h1,RL.ren h cs _ h2,h3⟩
 | .tup vs,v,hr => by
  unfold AV.ren;unfold R at *;obtain ⟨a,h1,h2⟩ := hr;exact ⟨a,h1,RL.ren h vs _ h2⟩
 | .any,v,hr => by unfold AV.ren R; trivial
 | .bool x,v,hr => by unfold AV.ren; unfold R at *; exact hr
 | .int k n,v,hr => by unfold AV.ren; unfold R at *; exact hr
 | .str l,v,hr => by unfold AV.ren; unfold R at *; exact hr
 | .nil y,v,hr => by unfold AV.ren; unfold R at *; exact hr
theorem RC.ren (h : Agy L b C₁ C' N') : ∀ (cs : List AV) (c o : Nat),RC C₁ N₁ w c cs o -> RC C' N' w c (AV.rens L b cs) o
 | [],c,o,_ => by unfold AV.rens RC; trivial
 | x :: r,c,o,hr => by
  unfold AV.rens;unfold RC at *;obtain ⟨⟨v,h1,h2,h3⟩,h4⟩ := hr;exact ⟨⟨v,h1,h2,R.ren h x v h3⟩,RC.ren h r c (o + 1) h4⟩
theorem RL.ren (h : Agy L b C₁ C' N') : ∀ (l : List AV) (vs : List Value),RL C₁ N₁ w l vs -> RL C' N' w (AV.rens L b l) vs
 | [],[],_ => by unfold AV.rens RL; trivial
 | x :: r,v :: s,hr => by
  unfold AV.rens;unfold RL at *;exact ⟨R.ren h x v hr.1,RL.ren h r s hr.2⟩
 | [],_ :: _,hr => by unfold RL at hr; exact hr.elim
 | _ :: _,[],hr => by unfold RL at hr; exact hr.elim
theorem W5 {L : List Nat} {b : Nat} : ∀ (l : List AV),(AV.rens L b l).length = l.length
 | [] => rfl
 | x :: r => by unfold AV.rens; simp [W5 r]
end
theorem ER.ren (h : Agy L b C₁ C' N') : ∀ (l : List (Key × AV)) (E : List MapEntry),ER C₁ N₁ w l E -> ER C' N' w (Agx L b l) E
 | [],[],_ => by unfold Agx ER; trivial
 | (k,v) :: r,e :: s,hr => by
  unfold Agx;unfold ER at *;exact ⟨⟨hr.1.1,R.ren h v _ hr.1.2⟩,ER.ren h r s hr.2⟩
 | [],_ :: _,hr => by unfold ER at hr; exact hr.elim
 | _ :: _,[],hr => by unfold ER at hr; exact hr.elim
end
theorem M5 {L : List Nat} {b : Nat} {J : Sto} : ∀ {M : List Nat} {l : List AO},H2 L b J M = some l -> l.length = M.length /\ ∀ (i a : Nat),M[i]? = some a -> ∃ o o',J.get a = some o /\ o.ren L b = some o' /\ l[i]? = some o'
 | [],l,h => by simp [H2] at h; subst h; simp
 | a :: M,l,h => by
  simp only [H2] at h
  split at h
  ·rename_i o ho
   split at h
   ·rename_i o' l' h1 h2
    cases h;obtain ⟨k1,k2⟩ := M5 h2
    refine ⟨by simp [k1],fun i x hx => ?_⟩
    cases i with
    | zero => simp at hx; subst hx; exact ⟨o,o',ho,h1,rfl⟩
    | succ i => exact k2 i x (by simpa using hx)
   ·cases h
  ·cases h
def Ctx.iso (C : Ctx) : Ctx := ⟨fun _ => none,C.stm,C.own,C.lr⟩
theorem Ctx.iso_own (C : Ctx) : C.iso.own = C.own := by
 funext c
 simp [Ctx.own,Ctx.iso]
theorem Sim.iso {P : Program} {C : Ctx} {w : World} {J : Sto} (h : Sim P C w J) : Sim P C.iso w ⟨.e,0⟩ where
 obj a O hg := by simp [Sto.get,Tr.get] at hg
 bound a O hg := by simp [Sto.get,Tr.get] at hg
 dom a p hp := by simp [Ctx.iso] at hp
 inj a b c o o' ha := by simp [Ctx.iso] at ha
 lt a c o ha := by simp [Ctx.iso] at ha
 rlt b hb := h.own_lt hb
 rdis a c o ha := by simp [Ctx.iso] at ha
def Ctx.lay (C : Ctx) (b : Nat) (C₁ : Ctx) (L : List Nat) : Ctx :=
 { C with loc := fun a => if a < b then C.loc a else match L[a - b]? with | some x => C₁.loc x | none => none }
theorem Amn {L : List Nat} (h : L.Nodup) {i j a : Nat} (hi : L[i]? = some a) (hj : L[j]? = some a) : i = j := by
 obtain ⟨h1,h2⟩ := ad_.1 hi;obtain ⟨h3,h4⟩ := ad_.1 hj;exact (List.getElem_inj h).1 (h2.trans h4.symm)
theorem Agz {P : Program} {C Cs C₁ : Ctx} {w w' : World} {J J₁ : Sto} {v : AV} {x : Value} {L : List Nat} {objs : List AO}
  (hs : Sim P C w J) (h1 : Sim P C₁ w' J₁) (gz : Cs.res = C.own) (bw : Cs.loc = fun _ => none) (he : Ext Cs 0 w C₁ (nx J₁) w') (hr : R C₁ (nx J₁) w' v x)
  (hn : L.Nodup) (ho : H2 L (nx J) J₁ L = some objs) :
  ∃ C',Sim P C' w' (Ff objs J) /\ Ext C (nx J) w C' (nx (Ff objs J)) w' /\ R C' (nx (Ff objs J)) w' (v.ren L (nx J)) x := by
 obtain ⟨bn,kr⟩ := M5 ho;have hC₁res : C₁.res = C.own := he.res.1.trans gz
 have c7 : ∀ c,C.own c -> w'.heap[c]? = w.heap[c]? := fun c hc => he.res.2 c (by rw [gz]; exact hc)
 have jm : ∀ c,Cs.own c ↔ C.own c := fun c => by
  unfold Ctx.own;rw [gz,bw]
  simp [Ctx.own]
 have hnx : nx (Ff objs J) = nx J + L.length := by rw [Acv,bn]
 have dq : ∀ a,a < nx J -> (C.lay (nx J) C₁ L).loc a = C.loc a := fun a ha => by simp [Ctx.lay,ha]
 have gy : ∀ (i a : Nat),L[i]? = some a -> (C.lay (nx J) C₁ L).loc (nx J + i) = C₁.loc a := fun i a hi => by
  simp only [Ctx.lay]
  rw [if_neg Om,show nx J + i - nx J = i by omega,hi]
 have cr : ∀ a p,(C.lay (nx J) C₁ L).loc a = some p -> (a < nx J /\ C.loc a = some p) ∨ ∃ i x,a = nx J + i /\ L[i]? = some x /\ C₁.loc x = some p := fun a p hp => by
  by_cases ha : a < nx J
  ·rw [dq a ha] at hp; exact .inl ⟨ha,hp⟩
  ·simp only [Ctx.lay,if_neg ha] at hp
   split at hp
   ·rename_i y hy; exact .inr ⟨a - nx J,y,by omega,hy,hp⟩
   ·cases hp
 have br : ∀ c,(C.lay (nx J) C₁ L).own c -> C₁.own c := fun c hc => by
  rcases hc with hc | ⟨a,o,hc⟩
  ·exact .inl (by rw [hC₁res]; exact .inl hc)
  ·rcases cr a _ hc with ⟨_,h2⟩ | ⟨i,y,_,_,h4⟩
   ·exact .inl (by rw [hC₁res]; exact .inr ⟨a,o,h2⟩)
   ·exact .inr ⟨y,o,h4⟩
 have hmv : Agy L (nx J) C₁ (C.lay (nx J) C₁ L) (nx (Ff objs J)) := ⟨fun a i hi => by
  have hi' := Acu hi;have := (ad_.1 hi').1
  exact ⟨by rw [hnx]; omega,gy i a hi'⟩,br⟩
 have e : Ext C (nx J) w (C.lay (nx J) C₁ L) (nx (Ff objs J)) w' := ⟨by omega,he.size,
  fun c hc ho => by
   obtain ⟨k1,k2⟩ := he.keep c hc (fun hh => ho ((jm c).1 hh))
   exact ⟨fun hh => k1 (br c hh),k2⟩,
  fun a ha p hp => by rwa [dq a ha] at hp,fun _ _ => rfl,fun _ _ => rfl,
  fun a ha c o hc => by
   rw [dq a ha] at hc;unfold csize;rw [c7 c (.inr ⟨a,o,hc⟩)],
  ⟨rfl,fun c hc => c7 c (.inl hc)⟩,he.os⟩
 refine ⟨C.lay (nx J) C₁ L,⟨fun a O hg => ?_,fun a O hg => ?_,fun a p hp => ?_,fun a d c o o' ha hd => ?_,fun a c o ha => ?_,fun c hc => ?_,fun a c o ha hc => ?_⟩,e,R.ren hmv v x hr⟩
 ·rw [Hd] at hg
  by_cases ha : a < nx J
  ·rw [if_pos ha] at hg;refine (hs.obj a O hg).ext e ha (dq a ha) (fun c o hc => c7 c (.inr ⟨a,o,hc⟩)) fun m hm kt es' v' hg' => ?_
   rw [Hd,if_pos hm] at hg';exact ⟨kt,es',v',hg',nl,fun _ => ⟨dq m hm,fun c o hc => c7 c (.inr ⟨m,o,hc⟩)⟩⟩
  ·rw [if_neg ha] at hg
   split at hg
   ·rename_i o' ho'
    cases hg
    have hi : a - nx J < L.length := by
     have := (ad_.1 ho').1; omega
    have hLi : L[a - nx J]? = some L[a - nx J] := ao_ hi;obtain ⟨o₁,o₂,g1,g2,g3⟩ := kr _ _ hLi;rw [ho'] at g3; cases g3;have hl := gy _ _ hLi
    rw [show nx J + (a - nx J) = a by omega] at hl
    have hor := h1.obj _ _ g1;cases o₁ with
    | cells vs =>
     simp only [AO.ren,ac_] at g2; subst g2;obtain ⟨c,o,cs,T,q1,q2,q3⟩ := hor;exact ⟨c,o,cs,T,hl.trans q1,q2,RC.ren hmv vs c o q3⟩
    | map kt es ver =>
     simp only [AO.ren,ac_] at g2; subst g2;obtain ⟨c,E,clock,q1,q2,q3⟩ := hor;obtain ⟨P1,p2,p3⟩ := q3.perm;exact ⟨c,E,clock,hl.trans q1,q2,q3.typed,⟨P1,p2,ER.ren hmv es P1 p3⟩,q3.keys,q3.born,q3.apart⟩
    | iter _ _ _ _ => simp [AO.ren] at g2
    | stamp _ _ _ => simp [AO.ren] at g2
    | loop _ => simp [AO.ren] at g2
   ·exact absurd (hs.bound a O hg) ha
 ·rw [hnx];rw [Hd] at hg
  by_cases ha : a < nx J
  ·omega
  ·rw [if_neg ha] at hg
   split at hg
   ·rename_i o' ho'
    have := (ad_.1 ho').1; omega
   ·have := hs.bound a O hg; omega
 ·rw [Hd]
  rcases cr a p hp with ⟨ha,hc⟩ | ⟨i,y,rfl,hi,hc⟩
  ·rw [if_pos ha]; exact hs.dom a p hc
  ·obtain ⟨o₁,o₂,g1,g2,g3⟩ := kr i y hi
   rw [if_neg Om,show nx J + i - nx J = i by omega,g3]
   refine ⟨o₂,rfl,?_⟩;cases o₁ with
   | cells vs => simp only [AO.ren,ac_] at g2; subst g2; rfl
   | map kt es ver => simp only [AO.ren,ac_] at g2; subst g2; rfl
   | iter _ _ _ _ => simp [AO.ren] at g2
   | stamp _ _ _ => simp [AO.ren] at g2
   | loop _ => simp [AO.ren] at g2
 ·rcases cr a _ ha with ⟨ha1,hc⟩ | ⟨i,y,rfl,hi,hc⟩ <;> rcases cr d _ hd with ⟨hd1,kc⟩ | ⟨j,z,rfl,hj,kc⟩
  ·exact hs.inj a d c o o' hc kc
  ·exact absurd (show C₁.res c by rw [hC₁res]; exact .inr ⟨a,o,hc⟩) (h1.rdis z c o' kc)
  ·exact absurd (show C₁.res c by rw [hC₁res]; exact .inr ⟨d,o',kc⟩) (h1.rdis y c o hc)
  ·have := h1.inj y z c o o' hc kc;subst this;rw [Amn hn hi hj]
 ·rcases cr a _ ha with ⟨_,hc⟩ | ⟨i,y,_,_,hc⟩
  ·exact aq_ (hs.lt a c o hc) he.size
  ·exact h1.lt y c o hc
 ·exact aq_ (hs.rlt c hc) he.size
 ·rcases cr a _ ha with ⟨_,hk⟩ | ⟨i,y,_,_,hk⟩
  ·exact hs.rdis a c o hk hc
  ·exact h1.rdis y c o hk (by rw [hC₁res]; exact .inl hc)
mutual
def AV.closed : AV -> Bool
 | .pr _ _ => false
 | .sr _ _ _ _ _ => false
 | .mp _ => false
 | .it _ => false
 | .stp _ => false
 | .yl _ => false
 | .pv cs => AV.closeds cs
 | .sv cs _ _ _ => AV.closeds cs
 | .fn _ p q => AV.closeds p && AV.closeds q
 | .ifc _ x => AV.closed x
 | .agg cs => AV.closeds cs
 | .tup vs => AV.closeds vs
 | _ => true
def AV.closeds : List AV -> Bool
 | [] => true
 | x :: r => AV.closed x && AV.closeds r
end
section
variable {C C' : Ctx} {N N' : Nat} {w : World}
mutual
theorem R.closed (h : ∀ c,C'.own c -> C.own c) : ∀ (x : AV) (v : Value),x.closed = true -> R C N w x v -> R C' N' w x v
 | .pr _ _,_,k,_ => by simp [AV.closed] at k
 | .sr _ _ _ _ _,_,k,_ => by simp [AV.closed] at k
 | .mp _,_,k,_ => by simp [AV.closed] at k
 | .it _,_,k,_ => by simp [AV.closed] at k
 | .stp _,_,k,_ => by simp [AV.closed] at k
 | .yl _,_,k,_ => by simp [AV.closed] at k
 | .flt _ _,v,k,hr => by unfold R at *; exact hr
 | .pv cs,v,k,hr => by
  simp only [AV.closed] at k;unfold R at *;obtain ⟨c,o,h1,h2,h3⟩ := hr;exact ⟨c,o,h1,fun hne ho => h2 hne (h c ho),RC.closed h cs c o k h3⟩
 | .sv cs sz len cap,v,k,hr => by
  simp only [AV.closed] at k;unfold R at *;obtain ⟨ado,q,h1,h2,h3,h4,h0,hh⟩ := hr;refine ⟨ado,q,h1,h2,h3,h4,h0,fun ad ha => ?_⟩
  obtain ⟨h5,h6,h7⟩ := hh ad ha;exact ⟨h5,fun hne ho => h6 hne (h _ ho),RC.closed h cs ad.block ad.off k h7⟩
 | .fn f p q,v,k,hr => by
  simp only [AV.closed,ae_] at k;unfold R at *;obtain ⟨a,c,h1,h2,h3⟩ := hr;exact ⟨a,c,h1,RL.closed h p _ k.1 h2,RL.closed h q _ k.2 h3⟩
 | .ifc t x,v,k,hr => by
  simp only [AV.closed] at k;unfold R at *;obtain ⟨y,h1,h2⟩ := hr;exact ⟨y,h1,R.closed h x y k h2⟩
 | .agg cs,v,k,hr => by
  simp only [AV.closed] at k;unfold R at *;obtain ⟨a,h1,h2,h3⟩ := hr;exact ⟨a,h1,RL.closed h cs _ k h2,h3⟩
 | .tup vs,v,k,hr => by
  simp only [AV.closed] at k;unfold R at *;obtain ⟨a,h1,h2⟩ := hr;exact ⟨a,h1,RL.closed h vs _ k h2⟩
 | .any,v,k,hr => by unfold R; trivial
 | .bool x,v,k,hr => by unfold R at *; exact hr
 | .int k' n,v,k,hr => by unfold R at *; exact hr
 | .str l,v,k,hr => by unfold R at *; exact hr
 | .nil y,v,k,hr => by unfold R at *; exact hr
theorem RC.closed (h : ∀ c,C'.own c -> C.own c) : ∀ (cs : List AV) (c o : Nat),AV.closeds cs = true -> RC C N w c cs o -> RC C' N' w c cs o
 | [],c,o,_,_ => by unfold RC; trivial
 | x :: r,c,o,k,hr => by
  simp only [AV.closeds,ae_] at k;unfold RC at *;obtain ⟨⟨v,h1,h2,h3⟩,h4⟩ := hr;exact ⟨⟨v,h1,h2,R.closed h x v k.1 h3⟩,RC.closed h r c (o + 1) k.2 h4⟩
theorem RL.closed (h : ∀ c,C'.own c -> C.own c) : ∀ (l : List AV) (vs : List Value),AV.closeds l = true -> RL C N w l vs -> RL C' N' w l vs
 | [],[],_,_ => by unfold RL; trivial
 | x :: r,v :: s,k,hr => by
  simp only [AV.closeds,ae_] at k;unfold RL at *;exact ⟨R.closed h x v k.1 hr.1,RL.closed h r s k.2 hr.2⟩
 | [],_ :: _,_,hr => by unfold RL at hr; exact hr.elim
 | _ :: _,[],_,hr => by unfold RL at hr; exact hr.elim
end
end
def Akz (L : List Nat) (b : Nat) : List AO -> Option (List AO)
 | [] => some []
 | o :: r => match o.ren L b,Akz L b r with
  | some o',some l => some (o' :: l)
  | _,_ => none
theorem Sf {L : List Nat} {b : Nat} {J : Sto} : ∀ (M : List Nat) (l : List AO),M.length = l.length -> (∀ (i a : Nat),M[i]? = some a -> J.get a = l[i]?) -> H2 L b J M = Akz L b l
 | [],[],_,_ => rfl
 | a :: M,o :: l,hl,h => by
  have h0 := h 0 a rfl;simp only [H2,Akz];rw [h0];simp only [List.getElem?_cons_zero]
  rw [Sf M l (by simpa using hl) fun i x hx => by simpa using h (i + 1) x (by simpa using hx)]
 | [],_ :: _,hl,_ => by simp at hl
 | _ :: _,[],hl,_ => by simp at hl
def Sg (L : List Nat) (r : Res) : Option (AV × List AO) :=
 match r with
 | some (v,J) => match H2 L 0 J L with
  | some l => some (v.ren L 0,l)
  | none => none
 | none => none
def Fx (a₀ : List AV) (v₀ : AV) (o₀ : List AO) (args : List AV) (J : Sto) : Res :=
 match AV.beqs args a₀ with
 | true => match Akz (List.range o₀.length) (nx J) o₀ with
  | some l => some (v₀.ren (List.range o₀.length) (nx J),Ff l J)
  | none => none
 | false => none
theorem W6 {L : List Nat} {b : Nat} {J : Sto} {M : List Nat} {l : List AO} (h : H2 L b J M = some l) : l.length = M.length := (M5 h).1
theorem Ajl {E : Env} {lf n f : Nat} {a₀ : List AV} {L : List Nat} {v₀ : AV} {o₀ : List AO} (dg : Ao E (Dy E lf n)) (hgl : ∀ g,E.gl g = none) (hlp : E.loops = []) (hcl : AV.closeds a₀ = true) (hL : L.Nodup)
  (bl : Sg L (Dy E lf n (.fn f) a₀ ⟨.e,0⟩) = some (v₀,o₀)) : A7 E f (Fx a₀ v₀ o₀) := by
 intro C w J args vs v J' hs hg bg h;unfold Fx at h
 split at h
 ·rename_i hb
  have := AV.beqs_eq _ _ hb;subst this
  split at h
  ·rename_i l hl
   cases h;unfold Sg at bl
   split at bl
   ·rename_i v₁ J₁ c6
    split at bl
    ·rename_i l₀ hl₀
     cases bl
     obtain ⟨gn,hc⟩ := dg.fn f C.iso w ⟨.e,0⟩ args vs v₁ J₁ hs.iso ⟨fun g cs hh => (by rw [hgl g] at hh; cases hh),fun c P hc => by rw [C.iso_own]; exact hg.2.1 c P hc,fun L hL => by rw [hlp] at hL; cases hL⟩
      (RL.closed (fun c hc => by rwa [C.iso_own] at hc) _ _ hcl bg) c6
     refine ⟨gn,hc.mono fun e w' he => ?_⟩
     cases e with
     | returned x =>
      obtain ⟨C₁,h1,h2,h3⟩ := he;obtain ⟨C₂,k1,k2,k3⟩ := Agz hs.iso h1 (C.iso_own).symm rfl h2 h3 hL hl₀;have bn := W6 hl₀
      have hl2 : H2 (List.range o₀.length) (nx J) (Ff o₀ ⟨.e,0⟩) (List.range o₀.length) = some l := by
       rw [Sf _ o₀ (by simp) fun i a ha => ?_]
       ·exact hl
       ·obtain ⟨g1,g2⟩ := ad_.1 ha
        simp at g1 g2
        subst g2
        rw [Hd,if_neg (by simp [nx])]
        simp only [nx,fa_];rw [ao_ g1]
      exact Agz hs k1 rfl rfl k2 k3 List.nodup_range hl2
     | panicked _ => exact he.elim
     | outgrown => exact he.elim
    ·cases bl
   ·cases bl
  ·cases h
 ·cases h
def Lb (a₀ : List AV) (v₀ : AV) (args : List AV) (J : Sto) : Res :=
 match AV.beqs args a₀ with
 | true => some (v₀,J)
 | false => none
mutual
theorem M6 {L : List Nat} {b : Nat} : ∀ (x : AV),x.closed = true -> x.ren L b = x
 | .pr _ _,k => by simp [AV.closed] at k
 | .sr _ _ _ _ _,k => by simp [AV.closed] at k
 | .mp _,k => by simp [AV.closed] at k
 | .it _,k => by simp [AV.closed] at k
 | .stp _,k => by simp [AV.closed] at k
 | .yl _,k => by simp [AV.closed] at k
 | .flt _ _,_ => by unfold AV.ren; rfl
 | .pv cs,k => by simp only [AV.closed] at k; unfold AV.ren; rw [Fy cs k]
 | .sv cs _ _ _,k => by simp only [AV.closed] at k; unfold AV.ren; rw [Fy cs k]
 | .fn f p q,k => by simp only [AV.closed,ae_] at k; unfold AV.ren; rw [Fy p k.1,Fy q k.2]
 | .ifc t x,k => by simp only [AV.closed] at k; unfold AV.ren; rw [M6 x k]
 | .agg cs,k => by simp only [AV.closed] at k; unfold AV.ren; rw [Fy cs k]
 | .tup cs,k => by simp only [AV.closed] at k; unfold AV.ren; rw [Fy cs k]
 | .any,_ => by unfold AV.ren; rfl
 | .bool _,_ => by unfold AV.ren; rfl
 | .int _ _,_ => by unfold AV.ren; rfl
 | .str _,_ => by unfold AV.ren; rfl
 | .nil _,_ => by unfold AV.ren; rfl
theorem Fy {L : List Nat} {b : Nat} : ∀ (l : List AV),AV.closeds l = true -> AV.rens L b l = l
 | [],_ => by unfold AV.rens; rfl
 | x :: r,k => by
  simp only [AV.closeds,ae_] at k;unfold AV.rens;rw [M6 x k.1,Fy r k.2]
end
theorem Ag0 {E : Env} {lf n f : Nat} {a₀ : List AV} {v₀ : AV} (dg : Ao E (Dy E lf n)) (hgl : ∀ g,E.gl g = none) (hlp : E.loops = []) (hcl : AV.closeds a₀ = true) (hv : v₀.closed = true)
  (bl : Sg [] (Dy E lf n (.fn f) a₀ ⟨.e,0⟩) = some (v₀,[])) : A7 E f (Lb a₀ v₀) := by
 intro C w J args vs v J' hs hg bg h;refine Ajl dg hgl hlp hcl et_ bl C w J args vs v J' hs hg bg ?_;unfold Lb at h;unfold Fx
 split at h
 ·rename_i hb
  cases h;rw [M6 _ hv]
  rfl
 ·cases h
theorem A7.env {E E' : Env} (hP : E.P = E'.P) (hg : E.gl = E'.gl) (hh : E.hold = E'.hold) (hl : E.loops = E'.loops) {f : Nat} {g : List AV -> Sto -> Res} (h : A7 E f g) : A7 E' f g := by
 obtain ⟨P,gl,s,d,b,o,lp,rg⟩ := E;obtain ⟨P',gl',s',d',b',o',lp',rg'⟩ := E';simp only at hP hg hh hl;subst hP hg hh hl;exact h
end
end Go.AM
