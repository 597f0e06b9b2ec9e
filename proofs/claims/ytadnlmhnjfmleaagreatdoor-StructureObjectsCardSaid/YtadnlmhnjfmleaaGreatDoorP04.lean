/- A part of the proof; shortened by program. -/
import Derived.MapKept
import Derived.Test.YtadnlmhnjfmleaaGreatDoorP03
set_option maxRecDepth 100000
set_option maxHeartbeats 4000000
set_option linter.unusedSimpArgs false
set_option linter.unusedVariables false
namespace Go.AM
open Go
section
variable {P : Program} {C C' : Ctx} {N N' : Nat} {w w' : World} {J J' : Sto}
def Ake (P : Program) (w : World) (e : TypeId) (ei : TypeInfo) (Z : Value) (t2 : TypeId) (x : Value) (n : Nat) (new : Array Value) : Prop :=
 (∃ d2,P.underlying t2 = some d2 /\ (∀ k,d2 ≠ .int k) /\ (∀ k,(Builtin.lenOf x).run P { w with drawn := k } = .ok n { w with drawn := k }) /\ ∀ k,(Builtin.firstCells ei.size n x).run P { w with drawn := k } = .ok new { w with drawn := k }) ∨
 (∃ k,P.underlying t2 = some (.int k) /\ x = .int .i64 (.ofNat n) /\ n * (ei.bytes + 1) <= sizeLim /\ new = Builtin.zeroCells Z.cells n)
theorem Wm {d : TypeDesc} (h : ∀ k,d ≠ .int k) : (match d with | .int _ => true | _ => false) = false := by
 cases d <;> first | rfl | exact absurd rfl (h _)
theorem Kf {t t2 ty e : TypeId} {ei : TypeInfo} {Z : Value} (ht : P.underlying t = some (.slice e)) (he : P.info? e = some ei) (hz : ei.zero = some Z) (hZ : Z.cells.size = ei.size) {base : Option Addr} {sLen I6 n : Nat} {x : Value} {new : Array Value}
  (hg : Ake P w e ei Z t2 x n new) (cf : sLen + n <= I6) {w' : World}
  (hst : ∀ a,base = some a -> (storeCells (a.add (sLen * ei.size)) new.toList).run P w = .ok () w') (hno : base = none -> w' = w) :
  (Builtin.append_ #[t,t2] ty #[.slice base sLen I6,x]).run P w = .ok (.slice base (sLen + n) I6) w' := by
 rcases hg with ⟨d2,h1,h2,h3,h4⟩ | ⟨k,h1,rfl,h3,rfl⟩
 ·have hl := h3 w.drawn;have hf := h4 w.drawn;have hm := Wm h2;cases base with
  | none =>
   rw [hno rfl]
   simp [Builtin.append_,Aa ht,Aa h1,hm,Ax he,hl,cf,hf]
  | some a =>
   have := hst a rfl
   simp [Builtin.append_,Aa ht,Aa h1,hm,Ax he,hl,cf,hf,this]
 ·obtain ⟨h5,h6⟩ := Qf h3;have hw := Mx h5
  have hb : ¬ (281474976710656 < (n : Int) * (ei.bytes : Int)) := by
   have h2 := Int.ofNat_le.2 h6;rw [fu_] at h2
   have h7 : ((sizeLim : Nat) : Int) <= 281474976710656 := by decide
   generalize (n : Int) * (ei.bytes : Int) = q at *
   omega
  have hn0 : ¬ ((n : Int) < 0) := by omega
  simp only [aj_] at hw
  by_cases h0 : n * ei.size = 0
  ·have hz0 : Builtin.zeroCells Z.cells n = #[] := by rw [F6,hZ,h0]; simp
   rw [hz0] at hst;cases base with
   | none =>
    rw [hno rfl]
    simp [Builtin.append_,Aa ht,Aa h1,Ax he,Ca he,asInt,asIntOf,hw,hn0,hb,cf,h0]
   | some a =>
    have := hst a rfl
    simp [Builtin.append_,Aa ht,Aa h1,Ax he,Ca he,asInt,asIntOf,hw,hn0,hb,cf,h0,this]
  ·cases base with
   | none =>
    rw [hno rfl]
    simp [Builtin.append_,Aa ht,Aa h1,Ax he,Ca he,asInt,asIntOf,hw,hn0,hb,cf,h0,Cl he hz]
   | some a =>
    have := hst a rfl
    simp [Builtin.append_,Aa ht,Aa h1,Ax he,Ca he,asInt,asIntOf,hw,hn0,hb,cf,h0,Cl he hz,this]
theorem Xp {t t2 ty e : TypeId} {ei : TypeInfo} {Z : Value} (ht : P.underlying t = some (.slice e)) (he : P.info? e = some ei) (hz : ei.zero = some Z) (hZ : Z.cells.size = ei.size) {base : Option Addr} {sLen I6 n : Nat} {x : Value} {old new : Array Value}
  (hg : Ake P w e ei Z t2 x n new) (fu : I6 < sLen + n) (bo : (sLen + n) * (ei.bytes + 1) <= sizeLim)
  (hold : ∀ k,(Builtin.firstCells ei.size sLen (.slice base sLen I6)).run P { w with drawn := k } = .ok old { w with drawn := k }) :
  ∃ rest,(Builtin.append_ #[t,t2] ty #[.slice base sLen I6,x]).run P w = .ok (.slice (some ⟨w.heap.size,0,none⟩) (sLen + n) (grownCap w (sLen + n) I6 e))
   { w with heap := w.heap.push (.cells (old ++ new ++ rest) e),drawn := w.drawn + 1 } /\ rest.size = (grownCap w (sLen + n) I6 e - (sLen + n)) * ei.size := by
 refine ⟨Builtin.zeroCells Z.cells (grownCap w (sLen + n) I6 e - (sLen + n)),?_,by rw [F6,hZ]; simp⟩
 obtain ⟨l1,l2⟩ := Qf bo
 have hn : ¬ (sLen + n <= I6) := by omega
 have h63' : ¬ (9223372036854775807 < ((sLen : Int) + (n : Int))) := by unfold sizeLim at l1; omega
 have cf : Builtin.nextslicecap (sLen + n) I6 * ei.bytes <= 281474976710656 := growslice_fits fu (by unfold sizeLim at l2; omega)
 have h48' : ¬ (281474976710656 < Builtin.nextslicecap (sLen + n) I6 * ei.bytes) := by omega
 have ho : ∀ k,(Builtin.firstCells ei.size sLen (.slice base sLen I6)).run P { w with drawn := k } = .ok old { w with drawn := k } := hold
 rcases hg with ⟨d2,h1,h2,h3,h4⟩ | ⟨k,h1,rfl,h3,rfl⟩
 ·have hl := h3 w.drawn;have hf := h4 (w.drawn + 1);have ho' := ho (w.drawn + 1);have hm := Wm h2
  simp [-World.drew_eq,Builtin.append_,Aa ht,Aa h1,hm,Ax he,Ca he,hl,hn,h63',h48',Question.forced,hf,ho',newRow,grownCap,Cl he hz]
  rfl
 ·obtain ⟨h5,h6⟩ := Qf h3;have hw := Mx h5
  have hb : ¬ (281474976710656 < (n : Int) * (ei.bytes : Int)) := by
   have h2 := Int.ofNat_le.2 h6;rw [fu_] at h2
   have h7 : ((sizeLim : Nat) : Int) <= 281474976710656 := by decide
   generalize (n : Int) * (ei.bytes : Int) = q at *
   omega
  have hn0 : ¬ ((n : Int) < 0) := by omega
  have ho' := ho (w.drawn + 1);simp only [aj_] at hw
  by_cases h0 : n * ei.size = 0
  ·have hz0 : Builtin.zeroCells Z.cells n = #[] := by rw [F6,hZ,h0]; simp
   rw [hz0]
   simp [-World.drew_eq,Builtin.append_,Aa ht,Aa h1,Ax he,Ca he,asInt,asIntOf,hw,hn0,hb,hn,h63',h48',Question.forced,ho',newRow,grownCap,Cl he hz,h0]
   rfl
  ·simp [-World.drew_eq,Builtin.append_,Aa ht,Aa h1,Ax he,Ca he,asInt,asIntOf,hw,hn0,hb,hn,h63',h48',Question.forced,ho',newRow,grownCap,Cl he hz,h0]
   rfl
end
section
variable {P : Program} {C C' : Ctx} {N N' : Nat} {w w' : World} {J J' : Sto}
theorem My (hs : Sim P C w J) {t t2 ty e : TypeId} {ei : TypeInfo} {Z : Value} {sz bytes : Nat} (ht : P.underlying t = some (.slice e)) (he : P.info? e = some ei) (hsz : sz = ei.size) (hby : bytes = ei.bytes) (hz : ei.zero = some Z) (hZ : Z.cells.size = ei.size)
  {base : Option Addr} {sLen I6 n : Nat} {y : Value} {old new : Array Value} {oldA newA : List AV} (hg : Ake P w e ei Z t2 y n new)
  (hold : ∀ k,(Builtin.firstCells ei.size sLen (.slice base sLen I6)).run P { w with drawn := k } = .ok old { w with drawn := k })
  (ho : RL C (nx J) w oldA old.toList) (ho1 : ∀ x ∈ old.toList,x.oneCell = true) (hol : oldA.length = sLen * sz)
  (hn : RL C (nx J) w newA new.toList) (hn1 : ∀ x ∈ new.toList,x.oneCell = true) (hnl : newA.length = n * sz)
  (fu : I6 < sLen + n) {v : AV} (h : Jw sz bytes n newA oldA sLen J = some (v,J')) :
  Hx P C w J (Builtin.append_ #[t,t2] ty #[.slice base sLen I6,y]) v J' := by
 unfold Jw at h;cases hb : Nat.ble ((sLen + n) * (bytes + 1)) sizeLim
 ·simp [hb] at h
 ·simp only [hb,cond_true,Ag,ac_,ax_] at h;obtain ⟨rfl,rfl⟩ := h
  have bo : (sLen + n) * (ei.bytes + 1) <= sizeLim := by rw [← hby]; exact ak_ hb
  obtain ⟨rest,r1,r2⟩ := Xp (ty := ty) ht he hz hZ hg fu bo hold;have p := Aqt w (.cells (old ++ new ++ rest) e (0,0))
  obtain ⟨s1,s2⟩ := O6 hs p (ho.append hn) (fun x hx => (bq_.1 hx).elim (ho1 x) (hn1 x)) (fun i v hi => by
   have hlt := (ad_.1 hi).1
   rw [di_ (by simpa using hlt)]
   rw [← bg_,cs_]; exact hi)
  refine ⟨_,_,_,_,r1,rfl,s1,by rw [Ac]; exact s2,?_⟩
  rw [Ac]
  refine R.newSlice (bo_ _) (el_ ..) (O9 _ _ _ _) (fun q hq => by cases hq) ?_
  rw [Ep p.here];have h1 := ho.length;have h2 := hn.length;have h3 := O9 w (sLen + n) I6 e;simp only [bv_] at h1 h2;simp only [Array.size_append,r2];rw [← h1,← h2,hol,hnl,← hsz,be_,← ey_,← ey_];exact ea_ _ Om
theorem RL.nil_iff {vs : List Value} : RL C N w [] vs -> vs = [] := by
 cases vs with
 | nil => intro; rfl
 | cons v r => intro h; unfold RL at h; exact h.elim
abbrev gf_ := @RL.nil_iff
theorem Abk {vs old : List AV} {a b : Nat} (h : Di b (vs.drop a) = some old) : ∀ (i : Nat) (x : AV),old[i]? = some x -> vs[a + i]? = some x := by
 intro i x hi;rw [(Gt h).1,dm_] at hi
 split at hi
 ·rwa [fe_] at hi
 ·cases hi
theorem Rf (hs : Sim P C w J) {t t2 ty e : TypeId} {ei : TypeInfo} {Z : Value} {sz bytes : Nat} (ht : P.underlying t = some (.slice e)) (he : P.info? e = some ei) (hsz : sz = ei.size) (hby : bytes = ei.bytes) (hz : ei.zero = some Z) (hZ : Z.cells.size = ei.size)
  {d : AV} {D y : Value} {n : Nat} {new : Array Value} {newA : List AV} (hd : R C (nx J) w d D) (hg : Ake P w e ei Z t2 y n new)
  (hn : RL C (nx J) w newA new.toList) (hn1 : ∀ x ∈ new.toList,x.oneCell = true) (hnl : newA.length = n * sz) {v : AV} (h : Cf J sz bytes d n newA = some (v,J')) :
  Hx P C w J (Builtin.append_ #[t,t2] ty #[D,y]) v J' := by
 cases n with
 | zero =>
  have fh : new.toList = [] := gf_ (C := C) (N := nx J) (w := w) (by rwa [show newA = [] from bk_ Om] at hn)
  have same : ∀ base len k,D = .slice base len k -> len <= k -> Hx P C w J (Builtin.append_ #[t,t2] ty #[D,y]) d J := by
   rintro base len k rfl hk
   refine ⟨_,_,w,C,Kf (ty := ty) (w' := w) ht he hz hZ hg Om (fun a _ => by rw [fh]; simp [storeCells]) (fun _ => rfl),rfl,hs,bz_ _ _ _,hd⟩
  simp only [Cf] at h
  split at h
  ·cases h; unfold R at hd; obtain ⟨rfl,_⟩ := hd; exact same _ _ _ rfl nl
  ·cases h;have hd' := hd;unfold R at hd'; obtain ⟨ad,k,rfl,hk,_⟩ := hd'; exact same _ _ _ rfl hk
  ·cases h;have hd' := hd;unfold R at hd'; obtain ⟨ad,k,rfl,_,hk,_⟩ := hd'; exact same _ _ _ rfl hk
  ·cases h
 | succ n' =>
  simp only [Cf] at h
  split at h
  ·unfold R at hd; obtain ⟨rfl,_⟩ := hd
   exact My (old := #[]) hs ht he hsz hby hz hZ hg (fun k => rfl) (by unfold RL; trivial) (by simp) (by simp) hn hn1 hnl Om h
  ·rename_i cs sz' len q
   cases hb : (Nat.beq sz' sz && !Nat.ble (len + (n' + 1)) q)
   ·simp [hb] at h
   ·simp only [hb,cond_true] at h;simp only [ae_,bl_] at hb;have ev := aa_ hb.1
    have hq : ¬ (len + (n' + 1) <= q) := fun hle => by have := bd_ hle; rw [this] at hb; cases hb.2
    have hd' := hd;unfold R at hd';obtain ⟨ad,k,rfl,hk,fp,hcl,_⟩ := hd';have hkq := fp q rfl
    have fa : Dj J ei.size (.sv cs sz' len (some q)) len = some cs := by
     have : Di (len * ei.size) cs = some cs := by
      have key : ∀ (l : List AV),Di l.length l = some l := by
       intro l; induction l with
       | nil => rfl
       | cons x r ih => simp [Di,ih]
      rw [← hsz,← ev,← hcl]; exact key cs
     exact this
    obtain ⟨_,old,o1,o2,o3,o4⟩ := Ej (P := P) hs hd (m := len) rfl nl fa
    exact My hs ht he hsz hby hz hZ hg o1 o2 o3 (by rw [hsz]; exact o4) hn hn1 hnl Om h
  ·rename_i a off sz' len cap
   cases hb : Nat.beq sz' sz
   ·simp [hb] at h
   ·simp only [hb,cond_true] at h;have ev := aa_ hb
    split at h
    ·cases h
    ·rename_i vs hvs
     split at h
     ·cases h
     ·rename_i oldA hold
      have hgo := ep_ hvs;have hd' := hd;unfold R at hd';obtain ⟨ad,k,rfl,han,hk,fp,bw⟩ := hd'
      have fa : Dj J ei.size (.sr a off sz' len cap) len = some oldA := by
       simp only [Dj,hvs,← hsz]; exact hold
      obtain ⟨_,old,o1,o2,o3,o4⟩ := Ej (P := P) hs hd (m := len) rfl nl fa;rw [← hsz] at o4;obtain ⟨c,o,cs,T,l1,l2,l3⟩ := hs.obj a _ hgo;obtain ⟨had,cx⟩ := bw c o l1
      split at h
      ·rename_i q
       have hkq := fp q rfl;subst hkq
       split at h
       ·rename_i cf
        have cf := ak_ cf
        split at h
        ·rename_i vs' c8
         simp only [Ag,ac_,ax_] at h;obtain ⟨rfl,rfl⟩ := h;obtain ⟨c',o',w',r1,r2,r3,r4⟩ := Mw hs hgo c8 hn hn1;rw [l1] at r1; cases r1;have e := had Om
         refine ⟨_,_,w',C,Kf (ty := ty) ht he hz hZ hg cf (fun b hb' => ?_) (fun hb' => by cases hb'),rfl,r3,by rw [Ae]; exact r4,?_⟩
         ·cases hb';rw [e,Fi,← hsz]; rw [gi_]; exact r2
         ·rw [Ae];unfold R
          refine ⟨ad,k,rfl,han,cf,fun q hq => by cases hq; rfl,fun c' o' hc' => ?_⟩
          rw [l1] at hc'; cases hc'
          exact ⟨fun _ => e,by rw [← ev,r4.bsz a han c o l1]; exact cx⟩
        ·cases h
       ·rename_i cf
        have hq : ¬ (len + (n' + 1) <= k) := fun hle => by have := bd_ hle; rw [this] at cf; cases cf
        exact My hs ht he hsz hby hz hZ hg o1 o2 o3 o4 hn hn1 hnl Om h
      ·by_cases cf : len + (n' + 1) <= k
       ·-- in place: the object is renamed
        unfold Jw at h;cases hb2 : Nat.ble ((len + (n' + 1)) * (bytes + 1)) sizeLim
        ·simp [hb2] at h
        ·simp only [hb2,cond_true,Ag,ac_,ax_] at h;obtain ⟨rfl,rfl⟩ := h;have e := had Om;have ny := hn.length;simp only [bv_] at ny;have hcs : csize w c = cs.size := Ep l2;rw [hcs] at cx;have hm1 : (len + (n' + 1)) * sz <= k * sz := ea_ _ cf;rw [ey_] at hm1
         have ew : o + (off + len * sz) + 0 + new.toList.length <= cs.size := by
          simp only [bv_]; rw [ev] at cx; omega
         obtain ⟨w',r1,r2⟩ := Jy (P := P) new.toList w c (o + (off + len * sz)) 0 cs T l2 hn1 ew;rw [dx_] at r2 ew
         have nr : csize w' c = cs.size := by rw [Ep r2.here,L3]
         obtain ⟨s1,s2⟩ := hs.replace l1 r2 hgo (.cells (oldA ++ newA)) rfl (o' := o + off) (fun ex => by
          refine ⟨c,o + off,_,T,by simp [Ctx.add],r2.here,?_⟩
          rw [Ac,By];refine gn_ fun i x hi => ?_
          rw [Ig r2.here,O0 _ _ _ ew]
          by_cases hlt : i < oldA.length
          ·rw [bb_ hlt] at hi;rw [if_neg Om];obtain ⟨u,q1,q2,q3⟩ := l3.get _ x (Abk hold i x hi);rw [Ig l2] at q1
           exact ⟨u,by rw [← q1]; congr 1; omega,q2,R.ext ex _ _ q3⟩
          ·rw [cb_ Om] at hi;have bz := (ad_.1 hi).1
           rw [if_pos (by simp only [bv_]; omega)]
           obtain ⟨u,q1,q2⟩ := hn.get _ x hi
           exact ⟨u,by rw [← q1]; congr 1; omega,hn1 u (af_ q1),R.ext ex _ _ q2⟩)
         have j0 : nx ((J.kill a).new (.cells (oldA ++ newA))) = nx J + 1 := by rw [Ac,By]
         refine ⟨_,_,w',_,Kf (ty := ty) ht he hz hZ hg cf (fun b hb' => ?_) (fun hb' => by cases hb'),rfl,s1,by rw [j0]; exact s2,?_⟩
         ·cases hb';rw [e,Fi,← hsz,gi_]; exact r1
         ·rw [j0,By];unfold R
          refine ⟨ad,k,rfl,bo_ _,cf,fun q hq => (by cases hq),fun c' o' hc' => ?_⟩
          simp only [Ctx.add,if_true] at hc';cases hc'
          exact ⟨fun _ => by rw [e,dx_],by rw [nr,← ev]; omega⟩
       ·obtain ⟨k1,k2⟩ := hs.kill a;have hnk : nx (J.kill a) = nx J := By J a
        obtain ⟨yy,xx,w',C2,g1,g2,g3,g4,g5⟩ := My (J := J.kill a) (J' := J') k1 ht he hsz hby hz hZ hg o1 (by rw [hnk]; exact o2.ext k2) o3 o4 (by rw [hnk]; exact hn.ext k2) hn1 hnl Om h
        exact ⟨yy,xx,w',C2,g1,g2,g3,k2.trans (by rwa [hnk] at g4),g5⟩
  ·cases h
theorem Ab7 {e : TypeId} {te : TI} (hte : Aw P e = some te) {z : List AV} (hz : te.zero = some z) (hzl : z.length = te.size) :
  ∃ ei Z,P.info? e = some ei /\ te.size = ei.size /\ te.bytes = ei.bytes /\ ei.zero = some Z /\ Z.cells.size = ei.size /\ (∀ x ∈ Z.cells.toList,x.oneCell = true) /\ ∀ (C : Ctx) (N : Nat) (w : World),RL C N w z Z.cells.toList := by
 obtain ⟨ei,ed,e1,e2,e3,e4,e5,e6,e7⟩ := Al hte;rw [e6] at hz;obtain ⟨Z,q1,q2,q3,_,_⟩ := Eu (C := ⟨fun _ => none,fun _ => 0,fun _ => False,fun _ => none⟩) (w := default) (N := 0) hz
 refine ⟨ei,Z,e1,e4,e5,q1,?_,q3,fun C N w => ?_⟩
 ·have := q2.length; simp at this; omega
 ·obtain ⟨Z',q1',q2',_⟩ := Eu (C := C) (w := w) (N := N) hz;rw [q1] at q1'; cases q1'; exact q2'
theorem Rg (hs : Sim P C w J) {t t2 ty e : TypeId} {d2 : TypeDesc} {te : TI} (ht : P.underlying t = some (.slice e)) (hte : Aw P e = some te) {z : List AV} (hz : te.zero = some z) (hzl : z.length = te.size)
  (h2 : P.underlying t2 = some d2) (hd2 : ∀ k,d2 ≠ .int k) {d s : AV} {D S : Value} (hd : R C (nx J) w d D) (hS : R C (nx J) w s S) {v : AV} (h : Tc te.size te.bytes d s J = some (v,J')) :
  Hx P C w J (Builtin.append_ #[t,t2] ty #[D,S]) v J' := by
 obtain ⟨ei,Z,e1,e2,e3,e4,e5,e6,e7⟩ := Ab7 hte hz hzl;unfold Tc at h
 split at h
 ·rename_i n hn
  split at h
  ·rename_i new fh
   obtain ⟨f1,a,f2,f3,f4,f5⟩ := Ej (P := P) hs hS hn nl fh
   exact Rf hs ht e1 e2 e3 e4 e5 hd (.inl ⟨d2,h2,hd2,fun k => f1 _,fun k => by rw [← e2]; exact f2 k⟩) f3 f4 f5 h
  ·cases h
 ·cases h
theorem Y3 (hs : Sim P C w J) {t t2 ty e : TypeId} {k : IntKind} {te : TI} (ht : P.underlying t = some (.slice e)) (hte : Aw P e = some te) {z : List AV} (hz : te.zero = some z) (hzl : z.length = te.size)
  (h2 : P.underlying t2 = some (.int k)) {d s : AV} {D S : Value} (hd : R C (nx J) w d D) (hS : R C (nx J) w s S) {v : AV} (h : Td z te.size te.bytes d s J = some (v,J')) :
  Hx P C w J (Builtin.append_ #[t,t2] ty #[D,S]) v J' := by
 obtain ⟨ei,Z,e1,e2,e3,e4,e5,e6,e7⟩ := Ab7 hte hz hzl;unfold Td at h
 split at h
 ·rename_i n
  cases hb : Nat.ble (n * (te.bytes + 1)) sizeLim
  ·simp [hb] at h
  ·simp only [hb,cond_true] at h;unfold R at hS; subst hS
   refine Rf hs ht e1 e2 e3 e4 e5 hd (.inr ⟨k,h2,rfl,by rw [← e3]; exact ak_ hb,rfl⟩) ?_ ?_ ?_ h
   ·rw [F6]; exact (e7 C _ w).rep n
   ·rw [F6]; exact K7 e6 n
   ·rw [Mu,hzl]
 ·cases h
theorem Af7 (hs : Sim P C w J) {t t2 ty e : TypeId} {te : TI} (ht : P.underlying t = some (.slice e)) (hte : Aw P e = some te) {d s : AV} {D S : Value} (hd : R C (nx J) w d D) (hS : R C (nx J) w s S) {v : AV}
  (h : Aj7 te.size d s J = some (v,J')) : Hx P C w J (Builtin.copy_ #[t,t2] ty #[D,S]) v J' := by
 obtain ⟨ei,ed,e1,_,_,e4,_⟩ := Al hte;unfold Aj7 at h
 split at h
 ·rename_i dl sl hdl hsl
  split at h
  ·rename_i cs hcs
   obtain ⟨f1,a,f2,f3,f4,f5⟩ := Ej (P := P) hs hS hsl (Nat.min_le_left sl dl) hcs;have f1' := f1 w;have f2' := f2 w.drawn;rw [e4] at f2'
   split at h
   ·rename_i b off sz len cap
    simp only [lenA,ac_] at hdl; subst hdl
    split at h
    ·rename_i vs hsz hvs
     split at h
     ·rename_i vs' c8
      simp only [Ag,ac_,ax_] at h;obtain ⟨rfl,rfl⟩ := h;obtain ⟨c,o,w',r1,r2,r3,r4⟩ := Mw hs (ep_ hvs) c8 f3 f4;unfold R at hd;obtain ⟨ad,k,rfl,_,hk,_,bw⟩ := hd
      refine ⟨_,_,w',C,?_,rfl,r3,by rw [Ae]; exact r4,by unfold R; rfl⟩
      rcases cq_ k with h0 | h0
      ·have hl0 : len = 0 := by omega
       subst hl0
       have : a.toList = [] := by
        have := f3.length; rw [f5] at this; simp at this; simpa using this.symm
       rw [this] at r2
       have hw : w' = w := by simpa [storeCells] using r2.symm
       subst hw;rw [show min sl 0 = 0 from Nat.min_zero sl] at f2'
       simp [Builtin.copy_,Aa ht,f1',Ax e1,f2',this,storeCells,goInt]
      ·rw [(bw c o r1).1 h0]
       simp [Builtin.copy_,Aa ht,f1',Ax e1,f2',r2,goInt]
     ·cases h
    ·cases h
   ·cases h;simp only [lenA,ac_] at hdl; subst hdl;unfold R at hd; obtain ⟨rfl,_⟩ := hd
    refine ⟨_,_,w,C,?_,rfl,hs,bz_ _ _ _,by unfold R; rfl⟩
    rw [show min sl 0 = 0 from Nat.min_zero sl] at f2'
    simp [Builtin.copy_,Aa ht,f1',Ax e1,f2',goInt]
   ·cases h
  ·cases h
 ·cases h
end
section
variable {P : Program} {C C' : Ctx} {N N' : Nat} {w w' : World} {J J' : Sto}
theorem An1 {d : TypeDesc} {v : Value} (h : KS d v) : ∃ k,KV k v := by
 unfold KS at h
 split at h
 ·obtain ⟨n,rfl⟩ := h; exact ⟨.int _ n,by unfold KV; rfl⟩
 ·obtain ⟨s,rfl⟩ := h; exact ⟨.str (Bl s),by unfold KV; exact ⟨s,rfl,rfl⟩⟩
 ·obtain ⟨b,rfl⟩ := h; exact ⟨.bool b,by unfold KV; rfl⟩
 ·exact h.elim
theorem Akf : ∀ {fs : List Field} {vs : List Value},KFs P fs vs -> ∃ ks,KVs ks vs
 | [],[],_ => ⟨[],by unfold KVs; trivial⟩
 | f :: fs,v :: vs,h => by
  unfold KFs at h;obtain ⟨⟨i,d,_,_,_,_,hk,_⟩,h2⟩ := h;obtain ⟨k,hk⟩ := An1 hk;obtain ⟨ks,hks⟩ := Akf h2
  exact ⟨k :: ks,by unfold KVs; exact ⟨hk,hks⟩⟩
 | [],_ :: _,h => by unfold KFs at h; exact h.elim
 | _ :: _,[],h => by unfold KFs at h; exact h.elim
theorem Asb {kt : TypeId} {v : Value} (h : KT P kt v) : ∃ k,KV k v := by
 rcases h with ⟨d,_,h⟩ | ⟨fs,a,_,rfl,h,_⟩ | ⟨_,_,a,d,_,_,rfl,_,_,_,_,_,_,h⟩
 ·exact An1 h
 ·obtain ⟨ks,hk⟩ := Akf h
  exact ⟨.agg ks,by unfold KV; exact ⟨a,rfl,hk⟩⟩
 ·have key : ∀ l : List Value,(∀ x ∈ l,KS d x) -> ∃ ks,KVs ks l := by
   intro l
   induction l with
   | nil => intro _; exact ⟨[],by unfold KVs; trivial⟩
   | cons x l ih =>
    intro hl
    obtain ⟨k,hk⟩ := An1 (hl x (by simp))
    obtain ⟨ks,hks⟩ := ih fun y hy => hl y (by simp [hy])
    exact ⟨k :: ks,by unfold KVs; exact ⟨hk,hks⟩⟩
  obtain ⟨ks,hk⟩ := key a.toList h
  exact ⟨.agg ks,by unfold KV; exact ⟨a,rfl,hk⟩⟩
theorem Y4 {d : TypeDesc} {v : Value} (h : KS d v) : v.oneCell = true := by
 unfold KS at h
 split at h
 ·obtain ⟨n,rfl⟩ := h; rfl
 ·obtain ⟨s,rfl⟩ := h; rfl
 ·obtain ⟨b,rfl⟩ := h; rfl
 ·exact h.elim
theorem Wo : ∀ {fs : List Field} {vs : List Value},KFs P fs vs -> ∀ x ∈ vs,x.oneCell = true
 | [],[],_,x,hx => by simp at hx
 | f :: fs,v :: vs,h,x,hx => by
  unfold KFs at h
  rcases ai_.1 hx with rfl | hx
  ·obtain ⟨⟨i,d,_,_,_,_,hk,_⟩,_⟩ := h; exact Y4 hk
  ·exact Wo h.2 x hx
 | [],_ :: _,h,_,_ => by unfold KFs at h; exact h.elim
 | _ :: _,[],h,_,_ => by unfold KFs at h; exact h.elim
theorem An2 : ∀ {ks : List Key} {vs : List Value},KVs ks vs ->
  RL C N w (ks.map fun | .bool b => .bool b | .int k n => .int k n | .str l => .str l | .agg _ => .any) vs
 | [],[],_ => by simp only [f_]; unfold RL; trivial
 | k :: ks,v :: vs,h => by
  unfold KVs at h;simp only [cd_];unfold RL;refine ⟨?_,An2 h.2⟩;have h1 := h.1;cases k <;> unfold KV at h1 <;> unfold R
  ·exact h1
  ·exact h1
  ·exact h1
  ·trivial
 | [],_ :: _,h => by unfold KVs at h; exact h.elim
 | _ :: _,[],h => by unfold KVs at h; exact h.elim
theorem KV_R {kt : TypeId} {k : Key} {v : Value} (h : KV k v) (t : KT P kt v) : R C N w (Rb k) v := by
 cases k with
 | bool b => unfold KV at h; unfold Rb R; exact h
 | int j n => unfold KV at h; unfold Rb R; exact h
 | str l => unfold KV at h; unfold Rb R; exact h
 | agg cs =>
  unfold KV at h;obtain ⟨a,rfl,h⟩ := h;unfold Rb R;refine ⟨a,rfl,An2 h,?_⟩
  rcases t with ⟨d,_,t⟩ | ⟨fs,b,_,e,t,_⟩ | ⟨_,_,b,_,_,_,e,_,_,_,_,_,_,t⟩
  ·unfold KS at t
   split at t
   ·obtain ⟨_,t⟩ := t; cases t
   ·obtain ⟨_,t⟩ := t; cases t
   ·obtain ⟨_,t⟩ := t; cases t
   ·exact t.elim
  ·cases e; exact Wo t
  ·cases e; exact fun x hx => Y4 (t x hx)
theorem Aem {d : TypeDesc} {v v' : Value} (h : KS d v) (h' : KS d v') : ∃ b,Instr.sameNow d v v' = some b /\ (b = true ↔ v = v') := by
 unfold KS at h h'
 split at h
 ·obtain ⟨n,rfl⟩ := h;obtain ⟨n',rfl⟩ := h'
  exact ⟨n == n',by simp [Instr.sameNow],by simp⟩
 ·obtain ⟨n,rfl⟩ := h;obtain ⟨n',rfl⟩ := h'
  exact ⟨n == n',by simp [Instr.sameNow],by rw [Go.MapKept.bytes_beq]; simp⟩
 ·obtain ⟨n,rfl⟩ := h;obtain ⟨n',rfl⟩ := h'
  exact ⟨n == n',by simp [Instr.sameNow],by simp⟩
 ·exact h.elim
def Ab8 (v : Value) (es : List MapEntry) (i : Nat) : Option (Nat × Value) -> Prop
 | some (j,x) => ∃ e,i <= j /\ es[j - i]? = some e /\ e.key = v /\ e.val = x
 | none => ∀ e ∈ es,e.key ≠ v
theorem Ab8.cons {v : Value} {e : MapEntry} {es : List MapEntry} {i : Nat} {r : Option (Nat × Value)} (h : Ab8 v es (i + 1) r) (hne : e.key ≠ v) : Ab8 v (e :: es) i r := by
 cases r with
 | none =>
  intro f hf
  rcases ai_.1 hf with rfl | hf
  ·exact hne
  ·exact h f hf
 | some p =>
  obtain ⟨f,h1,h2,h3,h4⟩ := h
  refine ⟨f,by omega,?_,h3,h4⟩
  rw [show p.1 - i = (p.1 - (i + 1)) + 1 by omega]; exact h2
theorem Tt {d : TypeDesc} {v : Value} (h : KS d v) : ∀ {es : List MapEntry},(∀ e ∈ es,KS d e.key) -> ∀ i,∃ r,Instr.findNow d v es i = some r /\ Ab8 v es i r
 | [],_,i => ⟨none,rfl,fun e he => by simp at he⟩
 | e :: es,he,i => by
  obtain ⟨b,h1,h2⟩ := Aem h (he e (by simp))
  cases b with
  | true => exact ⟨some (i,e.val),by simp only [Instr.findNow,h1],e,nl,by simp,(h2.1 rfl).symm,rfl⟩
  | false =>
   obtain ⟨r,k1,k2⟩ := Tt h (fun f hf => he f (am_ _ hf)) (i + 1)
   exact ⟨r,by simp only [Instr.findNow,h1,k1],k2.cons fun hh => by have := h2.2 hh.symm; cases this⟩
theorem N4 {kt : TypeId} {v : Value} (h : KT P kt v) : ∀ {es : List MapEntry},(∀ e ∈ es,KT P kt e.key) -> ∀ i,∃ r,(Instr.findAsking kt v es i).run P w = .ok r w /\ Ab8 v es i r
 | [],_,i => ⟨none,rfl,fun e he => by simp at he⟩
 | e :: es,he,i => by
  obtain ⟨k,hk⟩ := Asb h
  obtain ⟨k',hk'⟩ := Asb (he e (by simp))
  obtain ⟨h1,h2⟩ := Akc (w := w) hk hk' h (he e (by simp))
  have h3 : (Op.equal kt v e.key).run P w = .ok (Key.eq k k') w := h2 9998;cases hb : Key.eq k k' with
  | true =>
   refine ⟨some (i,e.val),by simp [Instr.findAsking,h3,hb],e,nl,by simp,(h1.1 hb).symm,rfl⟩
  | false =>
   obtain ⟨r,k1,k2⟩ := N4 h (fun f hf => he f (am_ _ hf)) (i + 1)
   exact ⟨r,by simp [Instr.findAsking,h3,hb,k1],k2.cons fun hh => by have := h1.2 hh.symm; rw [hb] at this; cases this⟩
theorem Mz {kt : TypeId} {v : Value} (h : KT P kt v) {es : List MapEntry} (he : ∀ e ∈ es,KT P kt e.key) : ∃ r,(Instr.findKey kt v es).run P w = .ok r w /\ Ab8 v es 0 r := by
 obtain ⟨r,k1,k2⟩ := N4 (w := w) h he 0
 rcases h with ⟨d,ht,h⟩ | ⟨fs,a,ht,rfl,h⟩ | ⟨n,e,a,d,_,ht,rfl,h⟩
 ·have he' : ∀ e ∈ es,KS d e.key := fun e hm => by
   rcases he e hm with ⟨d',ht',h'⟩ | ⟨fs,b,ht',_,_⟩ | ⟨_,_,_,_,_,ht',_⟩
   ·rw [ht] at ht'; cases ht'; exact h'
   ·rw [ht] at ht'; cases ht'; unfold KS at h; exact h.elim
   ·rw [ht] at ht'; cases ht'; unfold KS at h; exact h.elim
  obtain ⟨r,h1,h2⟩ := Tt h he' 0
  exact ⟨r,by simp [Instr.findKey,Aa ht,h1],h2⟩
 ·cases es with
  | nil => exact ⟨none,by simp [Instr.findKey,Aa ht,Instr.findNow],fun e hm => by simp at hm⟩
  | cons e es =>
   have : Instr.findNow (.struct fs) (.agg a) (e :: es) 0 = none := by simp [Instr.findNow,Instr.sameNow]
   exact ⟨r,by simp [Instr.findKey,Aa ht,this,k1],k2⟩
 ·cases es with
  | nil => exact ⟨none,by simp [Instr.findKey,Aa ht,Instr.findNow],fun e hm => by simp at hm⟩
  | cons x es =>
   have : Instr.findNow (.array n e) (.agg a) (x :: es) 0 = none := by simp [Instr.findNow,Instr.sameNow]
   exact ⟨r,by simp [Instr.findKey,Aa ht,this,k1],k2⟩
end
section
variable {P : Program} {C C' : Ctx} {N N' : Nat} {w w' : World} {J J' : Sto}
theorem Y5 {kv : Key} {x : AV} : ∀ {es : List (Key × AV)},Dl kv es = some x ->
  ∃ a k' b,es = a ++ (k',x) :: b /\ Key.eq kv k' = true /\ (∀ v,Q7 kv v es = a ++ (k',v) :: b) /\ Abe kv es = a ++ b
 | [],h => by simp [Dl] at h
 | (k',y) :: r,h => by
  simp only [Dl] at h;cases hb : Key.eq kv k'
  ·simp only [hb,cond_false] at h;obtain ⟨a,k2,b,h1,h2,h3,h4⟩ := Y5 h
   exact ⟨(k',y) :: a,k2,b,by simp [h1],h2,fun v => by simp [Q7,hb,h3],by simp [Abe,hb,h4]⟩
  ·simp only [hb,cond_true,ac_] at h;subst h
   exact ⟨[],k',r,rfl,hb,fun v => by simp [Q7,hb],by simp [Abe,hb]⟩
theorem Ru {kv : Key} : ∀ {es : List (Key × AV)},Dl kv es = none -> (∀ x ∈ es,Key.eq kv x.1 = false) /\ Abe kv es = es
 | [],_ => ⟨fun x hx => by simp at hx,rfl⟩
 | (k',y) :: r,h => by
  simp only [Dl] at h;cases hb : Key.eq kv k'
  ·simp only [hb,cond_false] at h;obtain ⟨h1,h2⟩ := Ru h
   refine ⟨fun x hx => ?_,by simp [Abe,hb,h2]⟩
   rcases ai_.1 hx with rfl | hx
   ·exact hb
   ·exact h1 x hx
  ·simp [hb] at h
theorem Y6 (kv : Key) (v : AV) : ∀ (es : List (Key × AV)),∃ a b,es = a ++ b /\ Ov kv v es = a ++ (kv,v) :: b
 | [] => ⟨[],[],rfl,rfl⟩
 | (k',y) :: r => by
  simp only [Ov];cases hb : Key.lt kv k'
  ·obtain ⟨a,b,h1,h2⟩ := Y6 kv v r
   exact ⟨(k',y) :: a,b,by simp [h1],by simp [h2]⟩
  ·exact ⟨[],(k',y) :: r,rfl,rfl⟩
theorem ER.split : ∀ {a b : List (Key × AV)} {L : List MapEntry},ER C N w (a ++ b) L -> ∃ A B,L = A ++ B /\ ER C N w a A /\ ER C N w b B
 | [],b,L,h => ⟨[],L,rfl,by unfold ER; trivial,h⟩
 | x :: a,b,[],h => by rw [av_] at h; unfold ER at h; exact h.elim
 | x :: a,b,e :: L,h => by
  rw [av_] at h; unfold ER at h;obtain ⟨A,B,h1,h2,h3⟩ := ER.split h.2
  exact ⟨e :: A,B,by simp [h1],by unfold ER; exact ⟨h.1,h2⟩,h3⟩
theorem ER.append : ∀ {a b : List (Key × AV)} {A B : List MapEntry},ER C N w a A -> ER C N w b B -> ER C N w (a ++ b) (A ++ B)
 | [],b,[],B,_,h => h
 | x :: a,b,e :: A,B,h,k => by unfold ER at h; rw [av_,av_]; unfold ER; exact ⟨h.1,ER.append h.2 k⟩
 | [],_,_ :: _,_,h,_ => by unfold ER at h; exact h.elim
 | _ :: _,_,[],_,h,_ => by unfold ER at h; exact h.elim
theorem ER.length : ∀ {a : List (Key × AV)} {A : List MapEntry},ER C N w a A -> a.length = A.length
 | [],[],_ => rfl
 | x :: a,e :: A,h => by unfold ER at h; simp [ER.length h.2]
 | [],_ :: _,h => by unfold ER at h; exact h.elim
 | _ :: _,[],h => by unfold ER at h; exact h.elim
theorem ER.mem : ∀ {a : List (Key × AV)} {A : List MapEntry},ER C N w a A -> ∀ e ∈ A,∃ x ∈ a,KV x.1 e.key /\ R C N w x.2 e.val
 | [],[],_,e,he => by simp at he
 | x :: a,f :: A,h,e,he => by
  unfold ER at h
  rcases ai_.1 he with rfl | he
  ·exact ⟨x,by simp,h.1⟩
  ·obtain ⟨y,h1,h2⟩ := ER.mem h.2 e he; exact ⟨y,by simp [h1],h2⟩
 | [],_ :: _,h,_,_ => by unfold ER at h; exact h.elim
 | _ :: _,[],h,_,_ => by unfold ER at h; exact h.elim
theorem Y7 {α β : Type} {f : α -> β} {A B : List α} {e g : α} (h : ((A ++ e :: B).map f).Nodup) {j : Nat} (hj : (A ++ e :: B)[j]? = some g) (hg : f g = f e) : j = A.length /\ g = e := by
 have h1 : ((A ++ e :: B).map f)[j]? = some (f e) := by rw [az_,hj]; simp [hg]
 have h2 : ((A ++ e :: B).map f)[A.length]? = some (f e) := by rw [az_]; simp
 obtain ⟨l1,l1'⟩ := ad_.1 h1;obtain ⟨l2,l2'⟩ := ad_.1 h2;have : j = A.length := (List.getElem?_inj l1 h).1 (h1.trans h2.symm);subst this
 simp at hj
 exact ⟨rfl,hj.symm⟩
structure At (C : Ctx) (N : Nat) (w : World) (es : List (Key × AV)) (E : Array MapEntry) (V : Value) (x : AV) (kv : Key) where
 A : List MapEntry
 e : MapEntry
 B : List MapEntry
 a : List (Key × AV)
 k' : Key
 b : List (Key × AV)
 A' : List MapEntry
 B' : List MapEntry
 hE : E.toList = A ++ e :: B
 key : e.key = V
 val : R C N w x e.val
 kk : KV k' e.key
 hes : es = a ++ (k',x) :: b
 ea : ER C N w a A'
 eb : ER C N w b B'
 perm : (A' ++ B').Perm (A ++ B)
 set : ∀ v,Q7 kv v es = a ++ (k',v) :: b
 del : Abe kv es = a ++ b
theorem Dk.locate {kt : TypeId} {es : List (Key × AV)} {E : Array MapEntry} {clock : Nat} (h : Dk P C N w kt es E clock) {kv : Key} {V : Value} (hk : KV kv V) (ht : KT P kt V) :
  (∃ x,Dl kv es = some x /\ ∃ q : At C N w es E V x kv,∀ w',(Instr.findKey kt V E.toList).run P w' = .ok (some (q.A.length,q.e.val)) w') ∨
  (Dl kv es = none /\ (∀ e ∈ E.toList,e.key ≠ V) /\ ∀ w',(Instr.findKey kt V E.toList).run P w' = .ok none w') := by
 obtain ⟨L,hp,hL⟩ := h.perm;cases hm : Dl kv es with
 | none =>
  obtain ⟨h1,_⟩ := Ru hm
  have hno : ∀ e ∈ E.toList,e.key ≠ V := fun e he hh => by
   obtain ⟨x,hx,hxk,_⟩ := ER.mem hL e (hp.symm.subset he);have := (Akc (w := w) hk hxk ht (h.typed e he)).1.2 hh.symm;rw [h1 x hx] at this; cases this
  refine .inr ⟨rfl,hno,fun w' => ?_⟩
  obtain ⟨r,k1,k2⟩ := Mz (w := w') ht h.typed;cases r with
  | none => exact k1
  | some p =>
   obtain ⟨f,_,f2,f3,_⟩ := k2;exact absurd f3 (hno f (af_ f2))
 | some x =>
  obtain ⟨a,k',b,h1,h2,h3,h4⟩ := Y5 hm;have hL' := hL;rw [h1] at hL';obtain ⟨A',L2,q1,q2,q3⟩ := hL'.split;cases L2 with
  | nil => unfold ER at q3; exact q3.elim
  | cons e B' =>
   unfold ER at q3;obtain ⟨⟨q4,q5⟩,q6⟩ := q3
   have he : e ∈ E.toList := hp.subset (by rw [q1]; simp)
   obtain ⟨A,B,hE⟩ := ej_ he;have i9 : e.key = V := ((Akc (w := w) hk q4 ht (h.typed e he)).1.1 h2).symm
   have j6 : (A' ++ B').Perm (A ++ B) := by
    have := hp; rw [q1,hE] at this;exact (List.perm_middle.symm.trans (this.trans List.perm_middle)).cons_inv
   refine .inl ⟨x,rfl,⟨A,e,B,a,k',b,A',B',hE,i9,q5,q4,h1,q2,q6,j6,h3,h4⟩,fun w' => ?_⟩
   obtain ⟨r,k1,k2⟩ := Mz (w := w') ht h.typed;cases r with
   | none => exact absurd i9 (k2 e he)
   | some p =>
    obtain ⟨f,_,f2,f3,f4⟩ := k2;obtain ⟨j,y⟩ := p;simp only [fa_] at f2 f4;have hnd := h.keys;rw [hE] at hnd f2;obtain ⟨g1,g2⟩ := Y7 hnd f2 (f3.trans i9.symm);subst g1 g2;rw [k1,← f4]
theorem M0 {α : Type} (f : α -> α) (e : α) (B : List α) : ∀ A : List α,(A ++ e :: B).modify A.length f = A ++ f e :: B
 | [] => rfl
 | x :: A => by simp only [av_,ap_,List.modify_succ_cons,M0 f e B A]
theorem Dk.set {kt : TypeId} {es : List (Key × AV)} {E : Array MapEntry} {clock : Nat} (h : Dk P C N w kt es E clock) {kv : Key} {V : Value} {x v : AV} (q : At C N w es E V x kv) {y : Value} (hy : R C N w v y) :
  Dk P C N w kt (Q7 kv v es) (E.modify q.A.length fun e => { e with key := V,val := y }) clock /\ (E.modify q.A.length fun e => { e with key := V,val := y }).toList = q.A ++ { q.e with val := y } :: q.B := by
 have hl : (E.modify q.A.length fun e => { e with key := V,val := y }).toList = q.A ++ { q.e with val := y } :: q.B := by
  rw [fv_,q.hE];have hk := q.key
  simp [M0,← hk]
 have j7 : (q.A ++ { q.e with val := y } :: q.B).map (·.key) = (q.A ++ q.e :: q.B).map (·.key) := by simp
 have j8 : (q.A ++ { q.e with val := y } :: q.B).map (·.born) = (q.A ++ q.e :: q.B).map (·.born) := by simp
 refine ⟨⟨fun e he => ?_,⟨q.A' ++ { q.e with val := y } :: q.B',?_,?_⟩,?_,fun e he => ?_,?_⟩,hl⟩
 ·rw [hl] at he
  rcases bq_.1 he with he | he
  ·exact h.typed e (by rw [q.hE]; simp [he])
  ·rcases ai_.1 he with rfl | he
   ·exact h.typed q.e (by rw [q.hE]; simp)
   ·exact h.typed e (by rw [q.hE]; simp [he])
 ·rw [hl]; exact List.perm_middle.trans ((q.perm.cons _).trans List.perm_middle.symm)
 ·rw [q.set v]; exact q.ea.append (by unfold ER; exact ⟨⟨q.kk,hy⟩,q.eb⟩)
 ·rw [hl,j7,← q.hE]; exact h.keys
 ·rw [hl] at he
  rcases bq_.1 he with he | he
  ·exact h.born e (by rw [q.hE]; simp [he])
  ·rcases ai_.1 he with rfl | he
   ·exact h.born q.e (by rw [q.hE]; simp)
   ·exact h.born e (by rw [q.hE]; simp [he])
 ·rw [hl,j8,← q.hE]; exact h.apart
theorem Dk.ins {kt : TypeId} {es : List (Key × AV)} {E : Array MapEntry} {clock : Nat} (h : Dk P C N w kt es E clock) {kv : Key} {V : Value} (hk : KV kv V) (ht : KT P kt V) (hno : ∀ e ∈ E.toList,e.key ≠ V) {v : AV} {y : Value} (hy : R C N w v y) :
  Dk P C N w kt (Ov kv v es) (E.push ⟨V,y,clock⟩) (clock + 1) := by
 obtain ⟨L,hp,hL⟩ := h.perm;obtain ⟨a,b,h1,h2⟩ := Y6 kv v es;rw [h1] at hL;obtain ⟨A',B',q1,q2,q3⟩ := hL.split
 have hl : (E.push ⟨V,y,clock⟩).toList = E.toList ++ [⟨V,y,clock⟩] := by simp
 refine ⟨fun e he => ?_,⟨A' ++ ⟨V,y,clock⟩ :: B',?_,?_⟩,?_,fun e he => ?_,?_⟩
 ·rw [hl] at he
  rcases bq_.1 he with he | he
  ·exact h.typed e he
  ·simp at he; subst he; exact ht
 ·rw [hl];refine List.perm_middle.trans ?_;rw [← q1];exact (hp.cons _).trans (List.perm_append_singleton _ _).symm
 ·rw [h2]; exact q2.append (by unfold ER; exact ⟨⟨hk,hy⟩,q3⟩)
 ·rw [hl,ci_,er_]
  refine ⟨h.keys,by simp,fun x hx z hz => ?_⟩
  simp at hz; subst hz
  obtain ⟨e,he,rfl⟩ := cf_.1 hx;exact hno e he
 ·rw [hl] at he
  rcases bq_.1 he with he | he
  ·have := h.born e he; omega
  ·simp at he; subst he; exact bo_ _
 ·rw [hl,ci_,er_]
  refine ⟨h.apart,by simp,fun x hx z hz => ?_⟩
  simp at hz; subst hz
  obtain ⟨e,he,rfl⟩ := cf_.1 hx;have := h.born e he; omega
theorem Dk.del {kt : TypeId} {es : List (Key × AV)} {E : Array MapEntry} {clock : Nat} (h : Dk P C N w kt es E clock) {kv : Key} {V : Value} {x : AV} (q : At C N w es E V x kv) :
  Dk P C N w kt (Abe kv es) (E.eraseIdxIfInBounds q.A.length) clock := by
 have hl : (E.eraseIdxIfInBounds q.A.length).toList = q.A ++ q.B := by
  have hlt : q.A.length < E.size := by rw [← bv_,q.hE]; simp
  unfold Array.eraseIdxIfInBounds;rw [dif_pos hlt,Array.toList_eraseIdx,q.hE]
  simp [List.eraseIdx_append_of_length_le]
 have cc : (q.A ++ q.B).Sublist E.toList := by rw [q.hE]; exact List.Sublist.append (List.Sublist.refl _) (List.sublist_cons_self _ _)
 refine ⟨fun e he => h.typed e (cc.subset (by rwa [hl] at he)),⟨q.A' ++ q.B',by rw [hl]; exact q.perm,by rw [q.del]; exact q.ea.append q.eb⟩,?_,fun e he => h.born e (cc.subset (by rwa [hl] at he)),?_⟩
 ·rw [hl]; exact (cc.map _).nodup h.keys
 ·rw [hl]; exact (cc.map _).nodup h.apart
theorem Dk.empty {kt : TypeId} {clock : Nat} : Dk P C N w kt [] #[] clock :=
 ⟨fun e he => by simp at he,⟨[],by simp,by unfold ER; trivial⟩,by simp,fun e he => by simp at he,by simp⟩
abbrev fx_ := @Dk.empty
theorem Dk.count {kt : TypeId} {es : List (Key × AV)} {E : Array MapEntry} {clock : Nat} (h : Dk P C N w kt es E clock) : es.length = E.size := by
 obtain ⟨L,hp,hL⟩ := h.perm;rw [hL.length,hp.length_eq]; simp
end
section
variable {P : Program} {C C' : Ctx} {N N' : Nat} {w w' : World} {J J' : Sto}
theorem Cg {c : Nat} {E : Array MapEntry} {clock : Nat} (h : w.heap[c]? = some (.map E clock)) : (getObj c).run P w = .ok (.map E clock) w := by
 simp only [getObj,Sem.run,h]
theorem Fq {c : Nat} {E : Array MapEntry} {clock : Nat} (h : w.heap[c]? = some (.map E clock)) (O : Obj) :
  (setObj c O).run P w = .ok () { w with heap := w.heap.setIfInBounds c O } := by
 simp only [setObj,Sem.run,h]
theorem Pa {c : Nat} {O₀ : Obj} (h : w.heap[c]? = some O₀) (O : Obj) : Wr w { w with heap := w.heap.setIfInBounds c O } c O := by
 have hlt := (at_.1 h).1
 refine ⟨by simp,by simp [hlt],fun b hb => ?_,rfl,rfl⟩
 simp only [];rw [cm_ (fun h => hb h.symm)]
theorem Ab9 {c : Nat} {E : Array MapEntry} {clock : Nat} (h : w.heap[c]? = some (.map E clock)) : csize w c = 0 := by unfold csize; simp [h]
theorem setMap (hs : Sim P C w J) {r kt ver : Nat} {es : List (Key × AV)} (hg : J.get r = some (.map kt es ver)) {c : Nat} {E : Array MapEntry} {clock : Nat} (hl : C.loc r = some (c,0)) (hh : w.heap[c]? = some (.map E clock))
  {es' : List (Key × AV)} {ver' : Nat} (hv : ver < ver') {E' : Array MapEntry} {clock' : Nat} (hm : Dk P C (nx J) w kt es' E' clock') :
  Sim P C { w with heap := w.heap.setIfInBounds c (.map E' clock') } (J.set r (.map kt es' ver')) /\ Ext C (nx J) w C (nx J) { w with heap := w.heap.setIfInBounds c (.map E' clock') } := by
 have p := Pa hh (.map E' clock')
 refine hs.upd hl p (by rw [Ab9 p.here,Ab9 hh]) hg _ rfl (fun kt₁ es₁ v₁ h => ?_) fun e => ?_
 ·cases h; exact ⟨kt,es,ver,rfl,hv⟩
 ·refine ⟨c,E',clock',hl,p.here,?_⟩;rw [Ae]; exact hm.ext e
theorem Pb {d : TypeDesc} {v : Value} (h : KS d v) (n : Nat) : Instr.sameBits n v v = true := by
 unfold KS at h
 split at h
 ·obtain ⟨m,rfl⟩ := h; cases n <;> simp [Instr.sameBits]
 ·obtain ⟨m,rfl⟩ := h; cases n <;> simp [Instr.sameBits,Go.MapKept.bytes_beq]
 ·obtain ⟨m,rfl⟩ := h; cases n <;> simp [Instr.sameBits]
 ·exact h.elim
theorem Tu (n : Nat) : ∀ {fs : List Field} {vs : List Value},KFs P fs vs -> ((vs.zip vs).all fun (x,y) => Instr.sameBits n x y) = true
 | [],[],_ => rfl
 | f :: fs,v :: vs,h => by
  unfold KFs at h;obtain ⟨⟨i,d,_,_,_,_,hk,_⟩,h2⟩ := h;simp only [List.zip_cons_cons,dg_,ae_];exact ⟨Pb hk n,Tu n h2⟩
 | [],_ :: _,h => by unfold KFs at h; exact h.elim
 | _ :: _,[],h => by unfold KFs at h; exact h.elim
theorem Af8 {kt : TypeId} {v : Value} (h : KT P kt v) : (Instr.keyThatStays v v).run P w = .ok v w := by
 have : Instr.sameBits 10000 v v = true := by
  rcases h with ⟨d,_,h⟩ | ⟨fs,a,_,rfl,h,_⟩ | ⟨_,_,a,d,_,_,rfl,_,_,_,_,_,_,h⟩
  ·exact Pb h _
  case inr.inr =>
   simp only [Instr.sameBits,ae_,beq_self_eq_true,true_and]
   have key : ∀ l : List Value,(∀ x ∈ l,KS d x) -> ((l.zip l).all fun (x,y) => Instr.sameBits 9999 x y) = true := by
    intro l
    induction l with
    | nil => intro _; rfl
    | cons x l ih => intro hl; simp only [List.zip_cons_cons,dg_,ae_]; exact ⟨Pb (hl x (by simp)) _,ih fun y hy => hl y (by simp [hy])⟩
   exact key a.toList h
  ·have := Tu 9999 h;simp only [Instr.sameBits,ae_,beq_self_eq_true,true_and];exact this
 unfold Instr.keyThatStays;rw [this]; rfl
theorem Y8 {et : TypeId} {te : TI} (hte : Aw P et = some te) {z : AV} (hz : Hr te = some z) : ∃ Z,(∀ w,(zeroValue et).run P w = .ok Z w) /\ ∀ (C : Ctx) (N : Nat) (w : World),R C N w z Z := by
 obtain ⟨Z,h1,h2⟩ := Mr (P := P) (C := ⟨fun _ => none,fun _ => 0,fun _ => False,fun _ => none⟩) (N := 0) (w := default) hte hz
 have bl : ∀ w,(zeroValue et).run P w = .ok Z w := fun w => by
  unfold zeroValue typeInfo at h1 ⊢;simp only [Sem.run_bind,run_program,Result.andThen_ok] at h1 ⊢;cases hi : P.info? et with
  | none => simp [hi] at h1
  | some i =>
   simp only [hi,Sem.run_pure,Result.andThen_ok] at h1 ⊢;cases hz : i.zero with
   | none => simp [hz] at h1
   | some v => simp only [hz,Sem.run_pure,Result.ok.injEq] at h1 ⊢; exact ⟨h1.1,trivial⟩
 refine ⟨Z,bl,fun C N w => ?_⟩
 obtain ⟨Z',h3,h4⟩ := Mr (P := P) (C := C) (N := N) (w := w) hte hz;rw [bl w] at h3; cases h3; exact h4
theorem Aen {ok : Bool} {v : AV} {V : Value} (h : R C N w v V) (b : Bool) : R C N w (Ta ok v b) (if ok then .tuple #[V,.bool b] else V) := by
 cases ok
 ·exact h
 ·simp only [Ta]; unfold R; exact ⟨_,rfl,by unfold RL; exact ⟨h,by unfold RL; exact ⟨by unfold R; rfl,by unfold RL; trivial⟩⟩⟩
theorem Abl (hs : Sim P C w J) {t kt et : TypeId} {ti te : TI} (hti : Aw P t = some ti) (hd : ti.desc = .map kt et) (hte : Aw P et = some te) {z : AV} (hz : Hr te = some z) {k m : AV} {K M : Value} (hk : R C (nx J) w k K) (hm : R C (nx J) w m M)
  {ok : Bool} {v : AV} (h : Jn kt (Hi P kt k) z ok m J = some (v,J')) : J' = J /\ Cp P C (nx J) w (Instr.lookup t M K ok) v := by
 obtain ⟨_,d,_,g2,g3,_⟩ := Al hti
 have hu := g2.trans (by rw [← g3,hd])
 obtain ⟨Z,z1,z2⟩ := Y8 hte hz;unfold Jn at h
 split at h
 ·rename_i kv hkv
  obtain ⟨hK,hT⟩ := Hc hkv hk
  split at h
  ·rename_i r
   split at h
   ·rename_i kt' es ver hg
    split at h
    ·rename_i hkt
     have hkt := aa_ hkt; subst hkt;unfold R at hm;obtain ⟨c,rfl,_,bw⟩ := hm;obtain ⟨c',E,clock,l1,l2,l3⟩ := hs.obj r _ hg;have := bw c' 0 l1; subst this
     rcases l3.locate hK hT with ⟨x,hx,q,hq⟩ | ⟨hx,_,hq⟩
     ·rw [hx] at h; cases h;refine ⟨rfl,_,?_,Aen q.val true⟩;simp only [Instr.lookup,Sem.run_bind,Aa hu,Result.andThen_ok,Cg l2,Sem.run_pure,Cj hT _ 9998,hq w]
     ·rw [hx] at h; cases h;refine ⟨rfl,_,?_,Aen (z2 _ _ _) false⟩;simp only [Instr.lookup,Sem.run_bind,Aa hu,Result.andThen_ok,Cg l2,Sem.run_pure,Cj hT _ 9998,hq w,z1]
    ·cases h
   ·cases h
  ·cases h;unfold R at hm; obtain ⟨rfl,_⟩ := hm;refine ⟨rfl,_,?_,Aen (z2 _ _ _) false⟩
   obtain ⟨r,k1,k2⟩ := Mz (P := P) (w := w) hT (es := []) (fun e he => by simp at he)
   have : r = none := by
    cases r with
    | none => rfl
    | some p => obtain ⟨f,_,f2,_⟩ := k2; simp at f2
   subst this;simp only [Instr.lookup,Sem.run_bind,Aa hu,Result.andThen_ok,Sem.run_pure,Cj hT _ 9998,k1,z1]
  ·cases h
 ·cases h
theorem Akg {E : Array MapEntry} {A B : List MapEntry} {e : MapEntry} (h : E.toList = A ++ e :: B) : E[A.length]? = some e := by
 rw [← bg_,h]; simp
theorem Vk (hs : Sim P C w J) {t kt et : TypeId} {ti te : TI} (hti : Aw P t = some ti) (hd : ti.desc = .map kt et) {k m v : AV} {K M V : Value} (hk : R C (nx J) w k K) (hm : R C (nx J) w m M) (hv : R C (nx J) w v V)
  {u : AV} (h : Mm kt (Hi P kt k) te m v J = some (u,J')) : u = An /\ ∃ w',(Instr.mapUpdate t M K V).run P w = .ok () w' /\ Sim P C w' J' /\ Ext C (nx J) w C (nx J') w' := by
 obtain ⟨_,d,_,g2,g3,_⟩ := Al hti
 have hu := g2.trans (by rw [← g3,hd])
 unfold Mm at h
 split at h
 ·rename_i kv r hkv
  obtain ⟨hK,hT⟩ := Hc hkv hk
  split at h
  ·rename_i kt' es ver hg
   split at h
   ·rename_i hb
    rw [ae_] at hb;have hkt := aa_ hb.1; subst hkt;unfold R at hm;obtain ⟨c,rfl,_,bw⟩ := hm;obtain ⟨c',E,clock,l1,l2,l3⟩ := hs.obj r _ hg;have := bw c' 0 l1; subst this
    rcases l3.locate hK hT with ⟨x,hx,q,hq⟩ | ⟨hx,hno,hq⟩
    ·simp only [hx,Ag,ac_,ax_] at h;obtain ⟨rfl,rfl⟩ := h;obtain ⟨m1,_⟩ := l3.set q hv;obtain ⟨s1,s2⟩ := setMap hs hg l1 l2 (bo_ ver) m1
     refine ⟨rfl,_,?_,s1,by rw [Ae]; exact s2⟩
     have hold := Akg q.hE;simp only [Instr.mapUpdate,Sem.run_bind,Aa hu,Result.andThen_ok,Cg l2,Cj hT _ 9998,hq w,hold,df_,ef_,q.key,Af8 hT,Fq l2]
    ·simp only [hx,Ag,ac_,ax_] at h;obtain ⟨rfl,rfl⟩ := h;obtain ⟨s1,s2⟩ := setMap hs hg l1 l2 (bo_ ver) (l3.ins hK hT hno hv)
     refine ⟨rfl,_,?_,s1,by rw [Ae]; exact s2⟩
     simp only [Instr.mapUpdate,Sem.run_bind,Aa hu,Result.andThen_ok,Cg l2,Cj hT _ 9998,hq w,Fq l2]
   ·cases h
  ·cases h
 ·cases h
theorem Abm (hs : Sim P C w J) {t kt et ty t2 : TypeId} {ti : TI} (hti : Aw P t = some ti) (hd : ti.desc = .map kt et) {k m : AV} {K M : Value} (hk : R C (nx J) w k K) (hm : R C (nx J) w m M)
  {u : AV} (h : Aea kt (Hi P kt k) m J = some (u,J')) : u = An /\ ∃ w',(Builtin.delete_ #[t,t2] ty #[M,K]).run P w = .ok (.tuple #[]) w' /\ Sim P C w' J' /\ Ext C (nx J) w C (nx J') w' := by
 obtain ⟨_,d,_,g2,g3,_⟩ := Al hti
 have hu := g2.trans (by rw [← g3,hd])
 unfold Aea at h
 split at h
 ·rename_i kv r hkv
  obtain ⟨hK,hT⟩ := Hc hkv hk
  split at h
  ·rename_i kt' es ver hg
   split at h
   ·rename_i hb
    have hkt := aa_ hb; subst hkt;unfold R at hm;obtain ⟨c,rfl,_,bw⟩ := hm;obtain ⟨c',E,clock,l1,l2,l3⟩ := hs.obj r _ hg;have := bw c' 0 l1; subst this;simp only [Ag,ac_,ax_] at h;obtain ⟨rfl,rfl⟩ := h
    rcases l3.locate hK hT with ⟨x,hx,q,hq⟩ | ⟨hx,hno,hq⟩
    ·obtain ⟨s1,s2⟩ := setMap hs hg l1 l2 (bo_ ver) (l3.del q)
     refine ⟨rfl,_,?_,s1,by rw [Ae]; exact s2⟩
     simp [Builtin.delete_,Aa hu,Cg l2,Cj hT _ 9998,hq w,Fq l2]
    ·obtain ⟨s1,s2⟩ := setMap hs hg l1 l2 (bo_ ver) (E' := E) (clock' := clock) (es' := Abe kv es) (by rw [(Ru hx).2]; exact l3)
     refine ⟨rfl,_,?_,s1,by rw [Ae]; exact s2⟩
     simp [Builtin.delete_,Aa hu,Cg l2,Cj hT _ 9998,hq w,Fq l2]
   ·cases h
  ·cases h
 ·rename_i kv hkv
  obtain ⟨hK,hT⟩ := Hc hkv hk;cases h;unfold R at hm; obtain ⟨rfl,_⟩ := hm;refine ⟨rfl,w,?_,hs,bz_ _ _ _⟩
  simp [Builtin.delete_,Aa hu,Cj hT _ 9998]
 ·cases h
theorem Xq (hs : Sim P C w J) {t kt et ty : TypeId} {ti : TI} (hti : Aw P t = some ti) (hd : ti.desc = .map kt et) {m : AV} {M : Value} (hm : R C (nx J) w m M)
  {u : AV} (h : Qb m J = some (u,J')) : u = An /\ ∃ w',(Builtin.clear_ #[t] ty #[M]).run P w = .ok (.tuple #[]) w' /\ Sim P C w' J' /\ Ext C (nx J) w C (nx J') w' := by
 obtain ⟨_,d,_,g2,g3,_⟩ := Al hti
 have hu := g2.trans (by rw [← g3,hd])
 unfold Qb at h
 split at h
 ·rename_i r
  split at h
  ·rename_i kt' es ver hg
   unfold R at hm;obtain ⟨c,rfl,_,bw⟩ := hm;obtain ⟨c',E,clock,l1,l2,l3⟩ := hs.obj r _ hg;have := bw c' 0 l1; subst this;simp only [Ag,ac_,ax_] at h;obtain ⟨rfl,rfl⟩ := h;obtain ⟨s1,s2⟩ := setMap hs hg l1 l2 (bo_ ver) (fx_ (clock := clock))
   refine ⟨rfl,_,?_,s1,by rw [Ae]; exact s2⟩
   simp [Builtin.clear_,Aa hu,Cg l2,Fq l2]
  ·cases h
 ·cases h;unfold R at hm; obtain ⟨rfl,_⟩ := hm;refine ⟨rfl,w,?_,hs,bz_ _ _ _⟩
  simp [Builtin.clear_,Aa hu]
 ·cases h
theorem Abn (hs : Sim P C w J) {t kt et ty : TypeId} {ti : TI} (hti : Aw P t = some ti) (hd : ti.desc = .map kt et) {m : AV} {M : Value} (hm : R C (nx J) w m M)
  {u : AV} (h : Tb m J = some (u,J')) : J' = J /\ Cp P C (nx J) w (Builtin.len_ #[t] ty #[M]) u := by
 obtain ⟨_,d,_,g2,g3,_⟩ := Al hti
 have hu := g2.trans (by rw [← g3,hd])
 unfold Tb at h
 split at h
 ·rename_i r
  split at h
  ·rename_i kt' es ver hg
   unfold R at hm;obtain ⟨c,rfl,_,bw⟩ := hm;obtain ⟨c',E,clock,l1,l2,l3⟩ := hs.obj r _ hg;have := bw c' 0 l1; subst this;simp only [Ag,ac_,ax_] at h;obtain ⟨rfl,rfl⟩ := h
   refine ⟨rfl,_,by simp [Builtin.len_,Aa hu,Cg l2]; rfl,?_⟩
   unfold goInt R; rw [l3.count]; rfl
  ·cases h
 ·cases h;unfold R at hm; obtain ⟨rfl,_⟩ := hm
  exact ⟨rfl,_,by simp [Builtin.len_,Aa hu]; rfl,by unfold goInt R; rfl⟩
 ·cases h
end
end Go.AM
