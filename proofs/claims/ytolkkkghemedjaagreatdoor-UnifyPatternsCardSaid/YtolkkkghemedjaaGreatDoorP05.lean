/- A part of the proof; shortened by program. -/
import Derived.RecoverIn
import Derived.Shelf.Small.Strs
import Derived.Shelf.Sort.Plain
import Derived.Shelf.Slices.In.SortNone
import Derived.Test.YtolkkkghemedjaaGreatDoorProg
import Derived.Shelf.Small.Utf8
import Derived.Shelf.Strings.Runes
import Derived.Shelf.GgClosure.StringsRunes
import Derived.Test.YtolkkkghemedjaaGreatDoorP04
set_option maxRecDepth 100000
set_option linter.unusedSimpArgs false
set_option linter.unusedVariables false
namespace Go.AM
open Go
def TIt (E : Env) (L : RF) (nt B : Nat) (c : Code) (Q : Dh) (ρ : Al) (σ : Sto) : Prop :=
 ∀ (C : Ctx) (w : World) (tm : Tr AV) (a : Act), Ee L C B w -> Has tm ρ -> SSt E C w ⟨tm, nt, [], σ⟩ a -> B <= nx σ -> c.wp E.P (N6 E nt [] B Q C w) a w
section
variable {E : Env} {L : RF} {nt B : Nat} {Q Q' : Dh} {ρ ρ' : Al} {σ σ' : Sto}
theorem Ln {c : Code} (h : T E nt [] B c Q ρ σ) : TIt E L nt B c Q ρ σ := fun C w tm a _ ht st hB => h C w tm a ht st hB
theorem TIt.mono {c : Code} (h : TIt E L nt B c Q ρ σ) (hQ : ∀ x ρ σ, Q x ρ σ -> Q' x ρ σ) : TIt E L nt B c Q' ρ σ := fun C w tm a hi ht st hB => wp_mono (h C w tm a hi ht st hB) fun e a' w' he => he.mono hQ
theorem Ob (h : Q .normal ρ σ) : TIt E L nt B .skip Q ρ σ := Ln (Aj h)
theorem Ae4 {n : Nat} (h : Q (.exit n) ρ σ) : TIt E L nt B (.exit n) Q ρ σ := Ln (Bf h)
theorem Hx {x y : Code} (h : TIt E L nt B x (Ng (TIt E L nt B y Q) Q) ρ σ) : TIt E L nt B (.seq x y) Q ρ σ := by
 intro C w tm a hi ht st hB;refine wp_seq (wp_mono (h C w tm a hi ht st hB) fun e a' w' he => ?_)
 obtain ⟨x', tm', ρ', σ', C', h1, h2, h3, h4, hB', h5⟩ := he;subst h1;cases x' with
 | normal => exact wp_mono (h3 C' w' tm' a' (hi.ext h5) h2 h4 hB') fun e a'' w'' he => he.from h5
 | exit id => exact ⟨.exit id, tm', ρ', σ', C', rfl, h2, h3, h4, hB', h5⟩
 | ret => exact ⟨.ret, tm', ρ', σ', C', rfl, h2, h3, h4, hB', h5⟩
theorem Oc {c : Operand} {x y : Code} {b : Bool} (hc : A0 E ρ c = some (.bool b)) (h1 : b = true -> TIt E L nt B x Q ρ σ) (h2 : b = false -> TIt E L nt B y Q ρ σ) : TIt E L nt B (.cond c x y) Q ρ σ := by
 intro C w tm a hi ht st hB;have hv := B4 st.glob st.tmps c;rw [ht.opd hc] at hv;unfold R at hv;cases b with
 | true => exact wp_cond_true hv (h1 rfl C w tm a hi ht st hB)
 | false => exact wp_cond_false hv (h2 rfl C w tm a hi ht st hB)
theorem Pe {id : Nat} {c : Code} (h : TIt E L nt B c (Ud id Q) ρ σ) : TIt E L nt B (.block id c) Q ρ σ := by
 intro C w tm a hi ht st hB;refine wp_block (wp_mono (h C w tm a hi ht st hB) fun e a' w' he => ?_)
 obtain ⟨x', tm', ρ', σ', C', h1, h2, h3, h4, hB', h5⟩ := he;subst h1;cases x' with
 | normal => exact ⟨.normal, tm', ρ', σ', C', rfl, h2, h3, h4, hB', h5⟩
 | ret => exact ⟨.ret, tm', ρ', σ', C', rfl, h2, h3, h4, hB', h5⟩
 | exit j =>
  simp only [Ud] at h3
  by_cases hj : j = id
  ·subst hj;rw [Nat.beq_refl] at h3;simp only [Gh, Exit.inBlock, if_true];exact ⟨.normal, tm', ρ', σ', C', rfl, h2, h3, h4, hB', h5⟩
  ·have hb : Nat.beq j id = false := by cases hb : Nat.beq j id with | true => exact absurd (Nat.eq_of_beq_eq_true hb) hj | false => rfl
   rw [hb] at h3;simp only [Gh, Exit.inBlock, if_neg hj];exact ⟨.exit j, tm', ρ', σ', C', rfl, h2, h3, h4, hB', h5⟩
theorem Amk {c : Code} (I : Nat -> Al -> Sto -> Prop) (n : Nat) (h0 : ∃ ρ', Lk ρ' ρ /\ I n ρ' σ)
  (hs : ∀ n ρ σ, I n ρ σ -> TIt E L nt B c (Ng (fun ρ' σ' => ∃ m ρ'', m < n /\ Lk ρ'' ρ' /\ I m ρ'' σ') Q) ρ σ) : TIt E L nt B (.loop c) Q ρ σ := by
 have key : ∀ (n : Nat) (ρ : Al) (σ : Sto), I n ρ σ -> ∀ (C : Ctx) (w : World) (tm : Tr AV) (a : Act), Ee L C B w -> Has tm ρ -> SSt E C w ⟨tm, nt, [], σ⟩ a -> B <= nx σ -> ∀ (b : Frame) (k : List Item) (cs : List Frame),
   ∃ e a' w', N6 E nt [] B Q C w e a' w' /\ Arrives E.P (lone (b.at a (.code c :: .inLoop c :: k)) cs w) b k cs e a' w' := by
  intro n
  induction n using Nat.strongRecOn with
  | _ n ih =>
   intro ρ σ hI C w tm a hi ht st hB b k cs;obtain ⟨e, a₁, w₁, hq, harr⟩ := hs n ρ σ hI C w tm a hi ht st hB b (.inLoop c :: k) cs;obtain ⟨x', tm', ρ', σ', C', h1, h2, h3, h4, hB', h5⟩ := hq;subst h1;cases x' with
   | normal =>
    obtain ⟨m, ρ'', hm, hsub, hI'⟩ := h3;obtain ⟨e₂, a₂, w₂, hq₂, harr₂⟩ := ih m hm ρ'' σ' hI' C' w₁ tm' a₁ (hi.ext h5) (h2.subL hsub) h4 hB' b k cs;exact ⟨e₂, a₂, w₂, hq₂.from h5, .of_steps (Steps.trans harr (.one step_inLoop)) harr₂⟩
   | exit id => exact ⟨.exit id, a₁, w₁, ⟨_, tm', ρ', σ', C', rfl, h2, h3, h4, hB', h5⟩, .pass (x := .inLoop c) rfl (fun _ _ => .inl (by simp)) harr⟩
   | ret => exact ⟨.ret, a₁, w₁, ⟨_, tm', ρ', σ', C', rfl, h2, h3, h4, hB', h5⟩, .pass (x := .inLoop c) rfl (fun _ _ => .inl (by simp)) harr⟩
 intro C w tm a hi ht st hB b k cs;obtain ⟨ρ', hsub, hI⟩ := h0;obtain ⟨e, a', w', hq, harr⟩ := key n ρ' σ hI C w tm a hi (ht.subL hsub) st hB b k cs;exact ⟨e, a', w', hq, .of_steps (.one step_loop) harr⟩
theorem Aax {α : Type} {c : Code} (ρI : α -> Al) (P : α -> Sto -> Prop) (μ : α -> Nat) (a₀ : α) (h0 : Lk (ρI a₀) ρ) (h1 : P a₀ σ)
  (hs : ∀ a σ, P a σ -> TIt E L nt B c (Ng (fun ρ' σ' => ∃ a', μ a' < μ a /\ Lk (ρI a') ρ' /\ P a' σ') Q) (ρI a) σ) : TIt E L nt B (.loop c) Q ρ σ := by
 refine Amk (fun n ρ σ => ∃ a, n = μ a /\ ρ = ρI a /\ P a σ) (μ a₀) ⟨ρI a₀, h0, a₀, rfl, rfl, h1⟩ ?_
 rintro n ρ σ ⟨a, rfl, rfl, hp⟩;refine (hs a σ hp).mono fun x ρ' σ' hq => ?_
 cases x with
 | normal => obtain ⟨a', g1, g2, g3⟩ := hq; exact ⟨μ a', ρI a', g1, g2, a', rfl, rfl, g3⟩
 | exit id => exact hq
 | ret => exact hq
def TOI (E : Env) (L : RF) (nt B : Nat) (ops r : List Oper) (K : Al -> Sto -> Prop) (ρ : Al) (σ : Sto) : Prop :=
 ∀ (C : Ctx) (w : World) (tm : Tr AV) (a : Act), Ee L C B w -> Has tm ρ -> SSt E C w ⟨tm, nt, [], σ⟩ a -> B <= nx σ -> ∀ (arr : Array Oper) (i n : Nat) (QQ : Exit -> Act -> World -> Prop), arr.toList = ops -> (∀ j, j < r.length -> r[j]? = arr[i + j]?) ->
  (∀ C' w' a' tm' ρ' σ', Has tm' ρ' -> K ρ' σ' -> SSt E C' w' ⟨tm', nt, [], σ'⟩ a' -> B <= nx σ' -> Ext C B w C' B w' -> QQ .normal a' w') -> wpOpsIn Fence.wide n E.P arr QQ (List.range' i r.length) a w
variable {K : Al -> Sto -> Prop} {ops r : List Oper}
theorem Yo {id : Nat} {ops : Array Oper} (h : TOI E L nt B ops.toList ops.toList (fun ρ σ => Q .normal ρ σ) ρ σ) : TIt E L nt B (.region id ops false) Q ρ σ := by
 intro C w tm a hi ht st hB;refine (wpIn_wide (n := 0)).1 (wpIn_region ?_);rw [List.range_eq_range', ← Array.length_toList]
 exact h C w tm a hi ht st hB ops 0 0 (N6 E nt [] B Q C w) rfl (fun j _ => by simp) fun C' w' a' tm' ρ' σ' h1 h2 h3 h4 h5 => ⟨.normal, tm', ρ', σ', C', rfl, h1, h2, h3, h4, h5⟩
theorem Acz (h : K ρ σ) : TOI E L nt B ops [] K ρ σ := by
 intro C w tm a hi ht st hB arr i n QQ _ _ hQ;simp only [List.length_nil, List.range'_zero, wpOpsIn];exact hQ C w a tm ρ σ ht h st hB (Ext.refl _ _ _)
theorem Ac0 {o : Oper} {Rr : Rec} (hR : Bc E Rr) (hn : Lb o.op = false) {ρ₁ : Al} {σ₁ : Sto}
  (h : ∀ tm, Has tm ρ -> ∃ tm', Me E ops o Rr ⟨tm, nt, [], σ⟩ = some ⟨tm', nt, [], σ₁⟩ /\ Has tm' ρ₁) (k : TOI E L nt B ops r K ρ₁ σ₁) : TOI E L nt B ops (o :: r) K ρ σ := by
 intro C w tm a hi ht st hB arr i n QQ harr hr hQ;obtain ⟨tm', h1, h2⟩ := h tm ht
 have ho : arr[i]? = some o := by have := hr 0 (by simp); simpa using this.symm
 simp only [List.length_cons, List.range'_succ, wpOpsIn, ho]
 have h1' : Me E arr.toList o Rr ⟨tm, nt, [], σ⟩ = some ⟨tm', nt, [], σ₁⟩ := by rw [harr]; exact h1
 have := J7 (K := wpOpsIn Fence.wide n E.P arr QQ (List.range' (i + 1) r.length)) (Q := QQ) hR st h1' fun C' w' a' st' e' =>
  k C' w' tm' a' (hi.ext (e'.base hB)) h2 st' (Nat.le_trans hB e'.next) arr (i + 1) n QQ harr (fun j hj => by have := hr (j + 1) (by simpa using hj); simp only [List.getElem?_cons_succ] at this; rw [this]; congr 1; omega)
   fun C2 w2 a2 tm2 ρ2 σ2 q1 q2 q3 qB q4 => hQ C2 w2 a2 tm2 ρ2 σ2 q1 q2 q3 qB ((e'.base hB).trans q4)
 rcases this with ⟨h2, h3⟩ | ⟨h2, h3⟩
 ·rw [if_pos h2]; exact Lc (ro := none) hn h3
 ·rw [if_neg (by rw [h2]; simp)]; exact ⟨fun _ _ => trivial, h3⟩
theorem Re {op : Op} (h : F5 op = true) : Lb op = false := by cases op <;> first | rfl | cases h
theorem Im {op : Op} {dst : Option Nat} {ty : Nat} {pos : String} {after : Array Edge} {Rr : Rec} {v : AV} {σ₁ : Sto} (hR : Bc E Rr) (hn : F5 op = true) (hd : Df nt dst = true) (h : Bu E Rr op ρ σ v σ₁)
  (k : TOI E L nt B ops r K (Es dst v ρ) σ₁) : TOI E L nt B ops ({ dst := dst, op := op, type := ty, pos := pos, after := after, guard := none } :: r) K ρ σ := by
 refine Ac0 hR (Re hn) (fun tm ht => ?_) k
 obtain ⟨tm', h1, h2⟩ := Dw (dst := dst) hd ht v;refine ⟨tm', ?_, h2⟩;rw [Pb (s := ⟨tm, nt, [], σ⟩) rfl hn];simp only [h tm ht, h1]
theorem Ag2 {o oj : Oper} {Rr : Rec} {v : AV} {σ₁ : Sto} {j d : Nat} {b want : Bool} (hg : o.guard = some (j, want)) (hj : ops[j]? = some oj) (hdj : oj.dst = some d) (hb : Al.at ρ d = some (.bool b)) (hw : cond b want (!want) = true)
  (hR : Bc E Rr) (hn : F5 o.op = true) (hd : Df nt o.dst = true) (h : Bu E Rr o.op ρ σ v σ₁) (k : TOI E L nt B ops r K (Es o.dst v ρ) σ₁) : TOI E L nt B ops (o :: r) K ρ σ := by
 refine Ac0 hR (Re hn) (fun tm ht => ?_) k
 obtain ⟨tm', h1, h2⟩ := Dw (dst := o.dst) hd ht v;refine ⟨tm', ?_, h2⟩
 rw [Pb (s := ⟨tm, nt, [], σ⟩) (by rw [Ga ht hg hj hdj hb, hw]) hn]
 simp only [h tm ht, h1]
theorem Wi {o oj : Oper} {j d : Nat} {b want : Bool} (hn : F5 o.op = true) (hg : o.guard = some (j, want)) (hj : ops[j]? = some oj) (hdj : oj.dst = some d) (hb : Al.at ρ d = some (.bool b)) (hw : cond b want (!want) = false)
  (hd : Df nt o.dst = true) (k : TOI E L nt B ops r K (Es o.dst Bd ρ) σ) : TOI E L nt B ops (o :: r) K ρ σ := by
 refine Ac0 Bc.none (Re hn) (fun tm ht => ?_) k
 obtain ⟨tm', h1, h2⟩ := Dw (dst := o.dst) hd ht Bd;refine ⟨tm', ?_, h2⟩;unfold Me;rw [Ga ht hg hj hdj hb, hw];simp only [h1]
theorem Aay {o : Oper} {f : Operand} {args : Array Operand} {tys : Array Nat} {vs : List AV} {Post : Sto -> Prop} (hg : ∀ tm, Has tm ρ -> C8 ops o tm = some true) (hop : o.op = .call ⟨.value f, args, tys⟩) (hd : Df nt o.dst = true) (hf : A0 E ρ f = some (.yl L.aY)) (ha : K7 E ρ args.toList = some vs)
  (hy : YTo E L vs σ Post) (k : ∀ σ', Post σ' -> nx σ <= nx σ' -> TOI E L nt B ops r K (Es o.dst (.bool true) ρ) σ') : TOI E L nt B ops (o :: r) K ρ σ := by
 intro C w tm a hi ht st hB arr i n QQ harr hr hQ
 have ho : arr[i]? = some o := by have := hr 0 (by simp); simpa using this.symm
 simp only [List.length_cons, List.range'_succ, wpOpsIn, ho]
 have hw : Region.wanted o (yielded arr a.tmps) = true := E7 st.tmps (by rw [harr]; exact hg tm ht)
 rw [if_pos hw]
 have hnd : Lb o.op = false := by rw [hop]; rfl
 have hV := B4 st.glob st.tmps f;rw [ht.opd hf] at hV;unfold R at hV;obtain ⟨hV, _⟩ := hV;have hA := D7 st.glob st.tmps args.toList;rw [ht.opds ha] at hA
 have hA' : RL C (nx σ) w vs (args.map a.eval).toList := by simp only [Array.toList_map]; exact hA
 have hi' : Ee L C (nx σ) w := hi.ext ((Ext.refl C B w).top hB);obtain ⟨r', hrec, hsz, hround⟩ := hy C w _ hi' st.sim st.glob hA';have hyl := run_yield (P := E.P) (args := args.map a.eval) hrec hsz
 have hrun : (execOp a.eval o).run E.P w = .ok (.round (C.stm L.aY).toNat r'.fn ((r'.params.zip (args.map a.eval)).foldl (fun tmps (t, a) => tmps.setIfInBounds t a) r'.tmps) r'.assign r'.body) w := by
  simp [execOp, hop, resolve, hV, Deferred.ofValue, invoke]
  simpa [Dp] using hyl
 refine ⟨fun _ _ => trivial, ?_⟩
 rw [Oper.semAt_eq _ _ _ (fun c hc => by rw [hc] at hnd; cases hnd), hrun, Oper.uponIn_round]
 refine ⟨fun hh => (by cases hh), (hround (n - 1)).mono fun e w' he => ?_⟩
 obtain ⟨rfl, C', σ', hp, k1, k2⟩ := he;obtain ⟨tm', h1, h2⟩ := Dw (nt := nt) (dst := o.dst) hd ht (.bool true)
 have st' := st.put (x := .bool true) k1 k2 (by unfold R; rfl) h1
 exact k σ' hp k2.next C' w' tm' _ (hi.ext (k2.base hB)) h2 st' (Nat.le_trans hB k2.next) arr (i + 1) n QQ harr (fun j hj => by have := hr (j + 1) (by simpa using hj); simp only [List.getElem?_cons_succ] at this; rw [this]; congr 1; omega)
  fun C2 w2 a2 tm2 ρ2 σ2 q1 q2 q3 qB q4 => hQ C2 w2 a2 tm2 ρ2 σ2 q1 q2 q3 qB ((k2.base hB).trans q4)
end
def Kh (E : Env) (L : RF) (f : Nat) (args : List AV) (σ : Sto) (Post : Sto -> Prop) : Prop :=
 ∀ (C : Ctx) (w : World) (vs : Array Value), Ee L C (nx σ) w -> Sim E.P C w σ -> Fv C (nx σ) w E -> RL C (nx σ) w args vs.toList ->
  Calls E.P f vs w fun
   | .returned _, w' => ∃ σ' C', Post σ' /\ Sim E.P C' w' σ' /\ Ext C (nx σ) w C' (nx σ') w'
   | _, _ => False
theorem Aml {E : Env} {L : RF} {f : Nat} {fn : Func} {c : Code} {args : List AV} {σ : Sto} {Post : Sto -> Prop} (hfn : E.P.funcs[f]? = some fn) (hc : fn.body = some c) (hle : Nat.ble args.length fn.ntmps = true) (hres : fn.results = #[])
  (h : WFS σ -> AV.unds (nx σ) args = true -> TIt E L fn.ntmps (nx σ) c (Akf fun _ σ' => Post σ') (Gb args 0) σ) : Kh E L f args σ Post := by
 intro C w vs hi hs hg hargs;refine calls_of_wp_defers hfn hc ?_;have hle := Nat.le_of_ble_eq_true hle;have st := L3 (E := E) (fn := fn) hs hg hargs hle
 have ht : Has (F8 args 0 .e) (Gb args 0) := fun i v hv => by
  rw [F0];rw [Ka] at hv
  split at hv
  ·rename_i hi; rw [if_pos hi]; exact hv
  ·cases hv
 refine wp_mono (h hs.wfs (RL.unds _ _ hargs) C w _ _ hi ht st nl) fun e a' w' he => ?_
 obtain ⟨x, tm', ρ', σ₁, C', h1, h2, h3, h4, hB, h5⟩ := he;subst h1;have fin : Post σ₁ -> Leaves E.P fn a'.tmps (fun
   | .returned _, w' => ∃ σ' C', Post σ' /\ Sim E.P C' w' σ' /\ Ext C (nx σ) w C' (nx σ') w'
   | _, _ => False) a'.defers .returning w' := by
  intro hx
  have hds : a'.defers = [] := by
   have hd := h4.dfs;cases hds : a'.defers with
   | nil => rfl
   | cons d ds => rw [hds] at hd; unfold DR at hd; exact hd.elim
  have r1 : Te E ρ' σ₁ fn.results.toList = some [] := by rw [hres]; rfl
  obtain ⟨x, k1, k2⟩ := Dd (fn := fn) h4.sim h4.tmps (Ra h2 r1);rw [hds];exact ⟨x, k1, σ₁, C', hx, h4.sim, h5.top hB⟩
 cases x with
 | normal => exact fin h3
 | ret => exact fin h3
 | exit id => exact h3.elim
section
variable {E : Env} {nt B b : Nat} {Q Q' : Dh} {ρ ρ' : Al} {σ : Sto}
theorem Ae5 {df0 : List (Nat × List AV)} {C : Ctx} {w : World} {tm : Tr AV} {a : Act} {Bs k : Nat} {f : Operand} {ps : Array Tmp} {assign body : Code} {cap : List AV} {kfn : Func} {Post : Sto -> Prop} (hi : Ef b Bs C (nx σ) w) (ht : Has tm ρ) (st : SSt E C w ⟨tm, nt, df0, σ⟩ a)
  (hf : A0 E ρ f = some (.fn (.func k) [] cap)) (hkfn : E.P.funcs[k]? = some kfn) (hnum : (kfn.name == "runtime.NumGoroutine") = false) (hbody : kfn.body.isNone = false)
  (hit : ∀ tm, Has tm ρ -> Kh E ⟨nx σ + 1, tm, nt, ps, assign, body⟩ k (.yl (nx σ + 1) :: cap) (σ.bump.new (.loop .ready)) (fun σ' => σ'.get (nx σ + 1) = some (.loop .ready) /\ Post σ')) :
  (Code.rangeFunc f ps assign body).wp E.P (fun e a' w' => e = .normal /\ ∃ σ' C' aD, Post σ' /\ SSt E C' w' ⟨tm, nt, (D6, [.yl aD, .yl b]) :: df0, σ'.kill (nx σ + 1)⟩ a' /\ Ext C (nx σ) w C' (nx (σ'.kill (nx σ + 1))) w') a w := by
 have hV := B4 st.glob st.tmps f;rw [ht.opd hf] at hV;unfold R at hV;obtain ⟨p0, lb, hV, hp0, hlb⟩ := hV
 have hp0' : p0 = #[] := by
  have := hp0.length
  simp at this
  exact Array.eq_empty_of_size_eq_zero this.symm
 subst hp0';refine (wpIn_wide (n := 1)).1 (wpIn_rangeFunc fun fn _ => ?_)
 obtain ⟨rc, hrc⟩ : ∃ rc : Loop, rc = { state := .ready, pending := none, fn, tmps := a.tmps, params := ps, assign, body, defers := w.heap.size } := ⟨_, rfl⟩
 have hrc0 : Dp rc .ready = rc := by rw [hrc]; rfl
 obtain ⟨W0, hW0⟩ : ∃ W0, w.alloc (.deferred (some [])) = W0 := ⟨_, rfl⟩;obtain ⟨W1, hW1⟩ : ∃ W1, W0.alloc (.loop rc) = W1 := ⟨_, rfl⟩
 have hp1 : Pu w W0 (.deferred (some [])) := by rw [← hW0]; exact Pu.of_push rfl ⟨rfl, rfl⟩
 have hp2 : Pu W0 W1 (.loop rc) := by rw [← hW1]; exact Pu.of_push rfl ⟨rfl, rfl⟩
 have hsz0 := hp1.size;have hsz1 := hp2.size;obtain ⟨s1, e1⟩ := st.sim.push hp1;obtain ⟨s2, e2⟩ := s1.bump (w.heap.size : Int);obtain ⟨s3, e3⟩ := s2.newLoop hrc0 hp2;rw [← Bo] at e2
 have hnx : nx (σ.bump.new (.loop .ready)) = nx σ + 1 + 1 := by rw [Ap, Bo]
 have e5 := (e1.trans e2).trans e3;rw [← Ap σ.bump (.loop .ready)] at e5
 generalize hC4 : (((C.addStm (nx σ) (w.heap.size : Int)).setLoop (nx σ.bump) (W0.heap.size : Int) rc).add (nx σ.bump) W0.heap.size 0) = C4 at s3 e5
 have hstmD : C4.stm (nx σ) = (w.heap.size : Int) := by rw [← hC4]; simp [Ctx.add, Ctx.setLoop, Ctx.addStm, Bo]
 have hstmY : C4.stm (nx σ + 1) = ((w.heap.size + 1 : Nat) : Int) := by rw [← hC4]; simp [Ctx.add, Ctx.setLoop, Bo, hsz0]
 have hlrY : C4.lr (nx σ + 1) = some rc := by rw [← hC4]; simp [Ctx.add, Ctx.setLoop, Bo]
 have hlocY : C4.loc (nx σ + 1) = some (w.heap.size + 1, 0) := by rw [← hC4]; simp [Ctx.add, Bo, hsz0]
 have hnD : ¬ C4.own w.heap.size := fun hh => by
  rcases hh with hh | ⟨x, o, hh⟩
  ·have hh' : C.res w.heap.size := by rw [← e5.res.1]; exact hh
   have := st.sim.rlt _ hh'; omega
  ·by_cases hx : x = nx σ + 1
   ·subst hx; rw [hlocY] at hh; have := congrArg (fun o => o.map Prod.fst) hh; simp at this
   ·have : x < nx σ := by
     obtain ⟨O, hO, _⟩ := s3.dom x _ hh;have hb := s3.bound x O hO;rw [hnx] at hb
     by_cases hx2 : x = nx σ
     ·subst hx2
      rw [Sto.get_new, Bo, if_neg (by omega), Dv] at hO
      have := st.sim.bound _ _ hO; omega
     ·omega
    have := st.sim.lt x _ _ (e5.loc x this _ hh); omega
 have hheapD : W1.heap[w.heap.size]? = some (.deferred (some [])) := by rw [hp2.other _ (by omega)]; exact hp1.here
 have hli : Ee ⟨nx σ + 1, tm, nt, ps, assign, body⟩ C4 (nx (σ.bump.new (.loop .ready))) W1 := by
  refine ⟨by rw [hnx]; show nx σ + 1 < _; omega, fun c o hc => ?_, rc, hlrY, ?_, ?_, ?_, ?_, ?_⟩
  ·have hc : C4.loc (nx σ + 1) = some (c, o) := hc;rw [hlocY] at hc; cases hc; show _ = (C4.stm (nx σ + 1)).toNat; rw [hstmY]; rfl
  ·have : TR C (nx σ) w tm rc.tmps := by rw [hrc]; exact st.tmps
   exact this.ext e5
  ·rw [hrc]; exact st.size
  ·rw [hrc]
  ·rw [hrc]
  ·rw [hrc]
 have hargs : RL C4 (nx (σ.bump.new (.loop .ready))) W1 (.yl (nx σ + 1) :: cap) (#[Value.func (.yield (w.heap.size + 1)) #[] #[]] ++ lb).toList := by
  simp only [Array.toList_append, List.cons_append, List.nil_append];unfold RL;refine ⟨?_, RL.ext e5 _ _ hlb⟩;unfold R;rw [hstmY, hnx]
  exact ⟨rfl, by omega⟩
 have hcalls := hit tm ht C4 W1 _ hli s3 (st.glob.ext e5) hargs
 have henter : ∀ args w, (callFunc k args).run E.P w = .ok (.enter k args) w := fun args w => by
  have g2' : kfn.name ≠ "runtime.NumGoroutine" := by simpa using hnum
  have g3' : kfn.body ≠ none := fun hh => by rw [hh] at hbody; cases hbody
  simp [callFunc, hkfn, g2', g3']
 refine ⟨w.heap.size + 1, [{ target := .collected w.heap.size, args := #[] }], W1, { target := .fn (.func k) lb, args := #[.func (.yield (w.heap.size + 1)) #[] #[]] }, W1, k,
  #[.func (.yield (w.heap.size + 1)) #[] #[]] ++ lb, W1, ?_, ?_, fun _ _ => trivial, ?_, fun hh => (by cases hh), ?_⟩
 ·rw [← hW1, ← hW0, hrc]; exact run_enterLoop_outer _ _ _ _ _
 ·simp only [resolve, hV]
  simp [go_sem]
 ·simp [invoke, go_sem, henter]
 ·refine (callsIn_wide).2 (hcalls.mono fun e w₃ he => ?_)
  cases e with
  | returned x =>
   obtain ⟨σ', C₃, ⟨hgl, hpost⟩, k1, k2⟩ := he
   have hstmD3 := (k2.stm (nx σ) (by rw [hnx]; omega)).trans hstmD
   have hlr3 := (k2.lr (nx σ + 1) (by rw [hnx]; omega)).trans hlrY
   obtain ⟨hn4, hk4⟩ := k2.keep w.heap.size (by omega) hnD
   have hd3 := hk4.trans hheapD;obtain ⟨c, r, g1, g2, g3⟩ := k1.obj _ _ hgl;rw [hlr3] at g2;cases g2
   have hcl := k2.loc _ (by rw [hnx]; omega) _ g1
   rw [hlocY] at hcl;cases hcl;obtain ⟨m1, m2⟩ := k1.kill (nx σ + 1)
   have hnL : ¬ (C₃.del (nx σ + 1)).own (w.heap.size + 1) := fun hh => by
    rcases hh with hh | ⟨x, o, hh⟩
    ·exact k1.rdis _ _ _ g1 hh
    ·by_cases hx : x = nx σ + 1
     ·simp [Ctx.del, hx] at hh
     ·simp [Ctx.del, hx] at hh
      exact hx (k1.inj _ _ _ _ _ hh g1)
   have hnD' : ¬ (C₃.del (nx σ + 1)).own w.heap.size := fun hh => hn4 (by
    rcases hh with hh | ⟨x, o, hh⟩
    ·exact .inl hh
    ·by_cases hx : x = nx σ + 1
     ·simp [Ctx.del, hx] at hh
     ·simp [Ctx.del, hx] at hh; exact .inr ⟨x, o, hh⟩)
   have t : Fp w₃ (w₃.putObj (w.heap.size + 1) (.loop { Dp rc .ready with state := .exhausted })) (w.heap.size + 1) := Fp.put g3 rfl rfl
   have e6 := ((e5.trans k2).trans m2).turnNew t hnL (by omega)
   rw [← Ck σ' (nx σ + 1)] at e6
   have hst6 : SSt E (C₃.del (nx σ + 1)) (w₃.putObj (w.heap.size + 1) (.loop { Dp rc .ready with state := .exhausted })) ⟨tm, nt, (D6, [.yl (nx σ), .yl b]) :: df0, σ'.kill (nx σ + 1)⟩ { a with defers := [{ target := .collected w.heap.size, args := #[] }] ++ a.defers } := by
    refine ⟨m1.turn t hnL, st.glob.ext e6, st.tmps.ext e6, st.size, ?_⟩
    show DR _ _ _ _ ({ target := Target.collected w.heap.size, args := #[] } :: a.defers)
    unfold DR;refine ⟨.inr ⟨rfl, nx σ, b, rfl, ⟨?_, ?_, ?_⟩, ?_, ?_, ?_⟩, st.dfs.ext e6⟩
    ·show nx σ < nx (σ'.kill _); rw [Ck]; have := k2.next; rw [hnx] at this; omega
    ·show b < nx (σ'.kill _); rw [Ck]; have := k2.next; rw [hnx] at this; have := hi.1; omega
    ·show (C₃.stm b).toNat <= (C₃.stm (nx σ)).toNat
     have hb6 := e6.stm b hi.1;have hb6 : C₃.stm b = C.stm b := hb6;rw [hstmD3, hb6, hi.2.1]; exact hi.2.2
    ·show _ = ({ target := .collected (C₃.stm (nx σ)).toNat, args := #[] } : Deferred); rw [hstmD3]; rfl
    ·show ¬ (C₃.del _).own (C₃.stm (nx σ)).toNat; rw [hstmD3]; exact hnD'
    ·show (w₃.putObj _ _).heap[(C₃.stm (nx σ)).toNat]? = _
     rw [hstmD3]
     exact (t.other w.heap.size (by omega)).trans hd3
   have hend := run_endLoop (P := E.P) g3 (by simp [Dp])
   exact ⟨none, _, hend, ⟨rfl, σ', _, nx σ, hpost, hst6, e6⟩⟩
  | panicked _ => exact he.elim
  | outgrown => exact he.elim
def Ait (E : Env) (nt b : Nat) (B : Nat) (Q : Dh) (C : Ctx) (w : World) : Exit -> Act -> World -> Prop := fun e a' w' =>
 ∃ x tm' ρ' σ' C' df, Gh x = e /\ Has tm' ρ' /\ Q x ρ' σ' /\ SSt E C' w' ⟨tm', nt, df, σ'⟩ a' /\ (df = [] ∨ ∃ aD, df = [(D6, [.yl aD, .yl b])]) /\ B <= nx σ' /\ Ext C B w C' B w'
theorem Ait.from {C C₀ : Ctx} {w w₀ : World} {e : Exit} {a : Act} {w' : World} (h : Ait E nt b B Q C w e a w') (hx : Ext C₀ B w₀ C B w) : Ait E nt b B Q C₀ w₀ e a w' := by
 obtain ⟨x, tm', ρ', σ', C', df, h1, h2, h3, h4, h5, hB, h6⟩ := h;exact ⟨x, tm', ρ', σ', C', df, h1, h2, h3, h4, h5, hB, hx.trans h6⟩
def TM (E : Env) (nt b B : Nat) (c : Code) (Q : Dh) (ρ : Al) (σ : Sto) : Prop :=
 ∀ (Bs : Nat) (C : Ctx) (w : World) (tm : Tr AV) (a : Act), Ef b Bs C B w -> Has tm ρ -> SSt E C w ⟨tm, nt, [], σ⟩ a -> B <= nx σ -> c.wp E.P (Ait E nt b B Q C w) a w
theorem Ag3 {x y : Code} (h : T E nt [] B x (Ng (TM E nt b B y Q) Q) ρ σ) : TM E nt b B (.seq x y) Q ρ σ := by
 intro Bs C w tm a hi ht st hB;refine wp_seq (wp_mono (h C w tm a ht st hB) fun e a' w' he => ?_)
 obtain ⟨x', tm', ρ', σ', C', h1, h2, h3, h4, hB', h5⟩ := he;subst h1;cases x' with
 | normal => exact wp_mono (h3 Bs C' w' tm' a' (hi.ext h5) h2 h4 hB') fun e a'' w'' he => he.from h5
 | exit id => exact ⟨.exit id, tm', ρ', σ', C', [], rfl, h2, h3, h4, .inl rfl, hB', h5⟩
 | ret => exact ⟨.ret, tm', ρ', σ', C', [], rfl, h2, h3, h4, .inl rfl, hB', h5⟩
def Ao5 (E : Env) (nt b B : Nat) (f : Operand) (ps : Array Tmp) (assign body y : Code) (Q : Dh) (ρ : Al) (σ : Sto) : Prop :=
 ∃ (k : Nat) (cap : List AV) (kfn : Func) (Post : Sto -> Prop), A0 E ρ f = some (.fn (.func k) [] cap) /\ E.P.funcs[k]? = some kfn /\ (kfn.name == "runtime.NumGoroutine") = false /\ kfn.body.isNone = false /\
  (∀ tm, Has tm ρ -> Kh E ⟨nx σ + 1, tm, nt, ps, assign, body⟩ k (.yl (nx σ + 1) :: cap) (σ.bump.new (.loop .ready)) (fun σ' => σ'.get (nx σ + 1) = some (.loop .ready) /\ Post σ')) /\
  ∀ σ' aD, Post σ' -> nx σ <= nx σ' -> T E nt [(D6, [.yl aD, .yl b])] B y Q ρ (σ'.kill (nx σ + 1))
theorem Ako {id : Nat} {f : Operand} {ps : Array Tmp} {assign body x y : Code} (h : T E nt [] B x (Ng (Ao5 E nt b B f ps assign body y Q) Q) ρ σ) : TM E nt b B (.seq (.seq x (.block id (.rangeFunc f ps assign body))) y) Q ρ σ := by
 intro Bs C w tm a hi ht st hB;refine wp_seq (wp_seq (wp_mono (h C w tm a ht st hB) fun e a' w' he => ?_))
 obtain ⟨x', tm', ρ', σ', C', h1, h2, h3, h4, hB', h5⟩ := he;subst h1;cases x' with
 | exit id => exact ⟨.exit id, tm', ρ', σ', C', [], rfl, h2, h3, h4, .inl rfl, hB', h5⟩
 | ret => exact ⟨.ret, tm', ρ', σ', C', [], rfl, h2, h3, h4, .inl rfl, hB', h5⟩
 | normal =>
  obtain ⟨k, cap, kfn, Post, hf, hkfn, hnum, hbody, hit, hy⟩ := h3;have hi' : Ef b Bs C' (nx σ') w' := (hi.ext h5).ext ((Ext.refl C' B w').top hB');refine wp_block (wp_mono (Ae5 hi' h2 h4 hf hkfn hnum hbody hit) fun e a₂ w₂ he => ?_)
  obtain ⟨rfl, σ₂, C₂, aD, hp, st', e'⟩ := he;have hn : nx σ' <= nx (σ₂.kill (nx σ' + 1)) := e'.next;have hB₂ : B <= nx (σ₂.kill (nx σ' + 1)) := Nat.le_trans hB' hn
  refine wp_mono (hy σ₂ aD hp (by rw [Ck] at hn; exact hn) C₂ w₂ tm' a₂ h2 st' hB₂) fun e a'' w'' he => ?_
  obtain ⟨x, tm₃, ρ₃, σ₃, C₃, g1, g2, g3, g4, gB, g5⟩ := he;exact ⟨x, tm₃, ρ₃, σ₃, C₃, _, g1, g2, g3, g4, .inr ⟨aD, rfl⟩, gB, h5.trans ((e'.base hB').trans g5)⟩
theorem callM {f : Nat} {fn : Func} {c : Code} {args : List AV} {Post : AV -> Sto -> Prop} (hfn : E.P.funcs[f]? = some fn) (hnum : (fn.name == "runtime.NumGoroutine") = false) (hc : fn.body = some c) (hle : Nat.ble args.length fn.ntmps = true)
  (h : WFS σ -> AV.unds (nx σ) args = true -> TM E fn.ntmps (nx σ) (nx σ + 1) c (Akf (Zw E fn (nx σ) Post)) (Gb args 0) σ.bump) : Ah E f args σ Post := by
 intro C w vs hs hg hargs
 refine ⟨⟨fn, hfn, hnum, by rw [hc]; rfl⟩, ?_⟩
 have hle := Nat.le_of_ble_eq_true hle;obtain ⟨s1, e1⟩ := hs.bump (w.heap.size : Int);rw [← Bo] at e1;refine (callsIn_wide (n := 1)).1 (callsIn_of_wp_marks hfn hc trivial ((wpIn_wide (n := 1)).2 ?_))
 have hi : Ef (nx σ) w.heap.size (C.addStm (nx σ) (w.heap.size : Int)) (nx σ + 1) w := ⟨by omega, by simp [Ctx.addStm], nl⟩
 have ht : Has (F8 args 0 .e) (Gb args 0) := fun i v hv => by
  rw [F0];rw [Ka] at hv
  split at hv
  ·rename_i hi; rw [if_pos hi]; exact hv
  ·cases hv
 have st := L3 (E := E) (fn := fn) s1 (hg.ext e1) (RL.ext e1 _ _ hargs) hle
 refine wp_mono (h hs.wfs (RL.unds _ _ hargs) w.heap.size _ w _ _ hi ht st (by rw [Bo]; exact nl)) fun e a' w' he => ?_
 obtain ⟨x, tm', ρ', σ₁, C', df, h1, h2, h3, h4, hdf, hB, h5⟩ := he;subst h1;rw [Bo] at e1;have hext : Ext C (nx σ) w C' (nx σ + 1) w' := e1.trans h5;have hi5 : Ef (nx σ) w.heap.size C' (nx σ + 1) w' := hi.ext h5;have fin : Zw E fn (nx σ) Post ρ' σ₁ -> LeavesInM Fence.wide 1 E.P fn a'.tmps (fun
   | .returned x, w' => ∃ v σ' C', Post v σ' /\ Sim E.P C' w' σ' /\ Ext C (nx σ) w C' (nx σ') w' /\ R C' (nx σ') w' v x
   | _, _ => False) a'.defers .returning w' := by
  intro hx;obtain ⟨vs₁, r1, v', σ', r2, r3, r4, r5⟩ := hx
  rcases hdf with rfl | ⟨aD, rfl⟩
  ·have hds : a'.defers = [] := by
    have hd := h4.dfs;cases hds : a'.defers with
    | nil => rfl
    | cons d ds => rw [hds] at hd; unfold DR at hd; exact hd.elim
   rw [hds]
   show LeavesIn _ _ _ _ _ _ [] .returning _
   obtain ⟨y, k1, k2⟩ := Dd (fn := fn) h4.sim h4.tmps (Ra h2 r1);exact ⟨y, k1, v', σ', _, r5, h4.sim.frz r2, ((hext.base nl).trans (Ext.keepB C' σ' _ w')).top r3, r4.R h4.sim k2⟩
  ·have hd := h4.dfs
   obtain ⟨d, hds⟩ : ∃ d, a'.defers = [d] /\ DR C' (nx σ₁) w' [(D6, [.yl aD, .yl (nx σ)])] [d] := by
    cases hds : a'.defers with
    | nil => rw [hds] at hd; unfold DR at hd; exact hd.elim
    | cons d ds =>
     rw [hds] at hd;cases ds with
     | nil => exact ⟨d, rfl, hd⟩
     | cons d' ds' => unfold DR at hd; have := hd.2; unfold DR at this; exact this.elim
   obtain ⟨hds, hd⟩ := hds;unfold DR at hd;obtain ⟨hd, _⟩ := hd
   rcases hd with ⟨h0, _⟩ | ⟨_, a1, b1, h1, ⟨g2, g3, g4⟩, g5, g6, g7⟩
   ·exact absurd rfl h0
   ·simp only [List.cons.injEq, AV.yl.injEq, and_true] at h1;obtain ⟨rfl, rfl⟩ := h1;rw [hds, g5]
    refine ⟨by simp, .inl ⟨_, _, rfl, run_takeDeferred g7, ?_⟩⟩
    show LeavesIn _ _ _ _ _ _ [] .returning _
    have t : Fp w' (w'.putObj (C'.stm aD).toNat (.deferred none)) (C'.stm aD).toNat := Fp.put g7 rfl rfl
    have hge : w.heap.size <= (C'.stm aD).toNat := by rw [← hi5.2.1]; exact g4
    have st2 : Sim E.P C' _ σ₁ := h4.sim.turn t g6;have tm2 : TR C' (nx σ₁) _ tm' a'.tmps := fun i v hv => R.turn t _ _ (h4.tmps i v hv)
    obtain ⟨y, k1, k2⟩ := Dd (fn := fn) st2 tm2 (Ra h2 r1);exact ⟨y, k1, v', σ', _, r5, st2.frz r2, (((hext.turnNew t g6 hge).base nl).trans (Ext.keepB C' σ' _ _)).top r3, r4.R st2 k2⟩
 cases x with
 | normal => exact fin h3
 | ret => exact fin h3
 | exit id => exact h3.elim
end
section
variable {E : Env} {ρ : Al} {σ σ' τ : Sto} {N : Nat} {α : Type} {enc enc' : α -> List AV} {sz by' : Nat} {l : List α} {v : AV}
theorem Own.app1 (he : ∀ a, (enc a).length = sz) (hN : N <= nx σ) (h : Own σ N enc sz l v) (b : α) (hlim : (l.length + 1) * (by' + 1) <= sizeLim) :
  ∃ σ', Cj σ sz by' v 1 (enc b) = some (.sr (nx σ) 0 sz (l.length + 1) none, σ') /\ σ'.get (nx σ) = some (.cells ((l ++ [b]).flatMap enc)) /\ nx σ' = nx σ + 1 /\ Own σ' N enc sz (l ++ [b]) (.sr (nx σ) 0 sz (l.length + 1) none) /\
   (∀ a, a < nx σ -> (∀ c, v = .sr c 0 sz l.length none -> a ≠ c) -> σ'.get a = σ.get a) := by
 obtain ⟨v', σ', h1, h2, h3, h4⟩ := h.app (by' := by') he hN [b] (by simpa using hlim)
 have hb : Nat.ble ((l.length + 1) * (by' + 1)) sizeLim = true := Nat.ble_eq_true_of_le hlim
 have h1' : Cj σ sz by' v 1 (enc b) = some (v', σ') := by simpa using h1
 have key : v' = .sr (nx σ) 0 sz (l.length + 1) none /\ σ'.get (nx σ) = some (.cells ((l ++ [b]).flatMap enc)) /\ nx σ' = nx σ + 1 := by
  rcases h with ⟨rfl, rfl | rfl⟩ | ⟨a, tl, k1, k2, rfl, k3⟩
  ·have hb' : Nat.ble ((0 + 1) * (by' + 1)) sizeLim = true := hb
   simp only [Cj, Jz, hb', cond_true, Au, List.nil_append, Option.some.injEq, Prod.mk.injEq] at h1';obtain ⟨rfl, rfl⟩ := h1'
   exact ⟨rfl, by rw [Sto.get_new, if_pos rfl]; simp, Ap _ _⟩
  ·have hb' : Nat.ble ((0 + 1) * (by' + 1)) sizeLim = true := hb
   have h0 : Nat.ble (0 + 1) 0 = false := rfl;simp only [Cj, Nat.beq_refl, h0, Bool.not_false, Bool.and_self, cond_true, Jz, hb', Au, List.nil_append, Option.some.injEq, Prod.mk.injEq] at h1';obtain ⟨rfl, rfl⟩ := h1'
   exact ⟨rfl, by rw [Sto.get_new, if_pos rfl]; simp, Ap _ _⟩
  ·have hcells : σ.cells a = some (l.flatMap enc ++ tl) := by unfold Sto.cells; rw [k3]
   have htake : D1 (l.length * sz) ((l.flatMap enc ++ tl).drop 0) = some (l.flatMap enc) := by
    have := He (l := l.flatMap enc) (r := tl)
    rwa [Ez he] at this
   simp only [Cj, Nat.beq_refl, cond_true, hcells, htake, Jz, hb, Au, Ck, Option.some.injEq, Prod.mk.injEq] at h1';obtain ⟨rfl, rfl⟩ := h1'
   exact ⟨rfl, by rw [Sto.get_new, Ck, if_pos rfl, List.flatMap_append]; simp, by rw [Ap, Ck]⟩
 obtain ⟨rfl, e2, e3⟩ := key;exact ⟨σ', h1', e2, e3, h2, h4⟩
theorem FzL.app : ∀ {a b c d : List AV}, FzL σ τ a b -> FzL σ τ c d -> FzL σ τ (a ++ c) (b ++ d)
 | _, _, _, _, .nil, h => h
 | _, _, _, _, .cons h1 h2, h => .cons h1 (h2.app h)
theorem FzL.flat (h : ∀ a, FzL σ τ (enc a) (enc' a)) : ∀ l : List α, FzL σ τ (l.flatMap enc) (l.flatMap enc')
 | [] => .nil
 | a :: l => by simp only [List.flatMap_cons]; exact (h a).app (FzL.flat h l)
theorem Own.fzE (he : ∀ a, (enc a).length = sz) (h : Own σ N enc sz l v) (hτ : ∀ a, N <= a -> τ.get a = none) (hu : ∀ a, FzL σ τ (enc a) (enc' a)) : Fz σ τ v (slV enc' sz l) := by
 rcases h with ⟨rfl, rfl | rfl⟩ | ⟨a, tl, h1, _, rfl, h3⟩
 ·exact .nils (fun q hq => by cases hq)
 ·exact .sv (fun q hq => by cases hq) .nil
 ·have htake : D1 (l.length * sz) ((l.flatMap enc ++ tl).drop 0) = some (l.flatMap enc) := by
   have := He (l := l.flatMap enc) (r := tl)
   rwa [Ez he] at this
  exact .sr h3 (hτ a h1) htake (FzL.flat hu l)
end
open Go Go.Proofs
def Lo : Rec := fun _ _ _ => none
theorem Hz (E : Env) : Bc E Lo := fun _ _ _ _ _ _ _ _ _ _ _ h => by cases h
def Ag4 : Tr AV := Tr.put 7 .e 6 (some (.nil .nilIface))
def sL : Code -> Code | .seq a _ => a | c => c
def sR : Code -> Code | .seq _ b => b | c => c
def Ap0 (fn : Func) : Code := match fn.body with | some c => c | none => .skip
noncomputable def Ui : Code := sR (Ap0 Tryz.f57)
noncomputable def Ag5 : Code := sL (Ap0 Tryz.f57)
theorem Ag6 : Tryz.f57.body = some (.seq Ag5 Ui) := by kernel_rfl
noncomputable def Pl : Oper := match Ag5 with | .region _ ops _ => ops.getD 0 default | _ => default
theorem Aaz : Ag5 = .region 0 #[Pl] false := by kernel_rfl
theorem Aiu : Pl.op = .call { callee := .builtin .recover, args := #[], argTypes := #[] } := by kernel_rfl
theorem Ae6 : Pl.dst = some 6 := by kernel_rfl
theorem Yp : Pl.guard = none := by kernel_rfl
noncomputable def Ap1 : Tr AV := match Fm Ew 1 Lo Ui ⟨Ag4, 19, [], ⟨.e, 0⟩⟩ with
 | some [(_, s)] => s.tm
 | _ => .e
theorem Aq0 (σ : Sto) : Fm { Ew with P := Tryz.prog, gl := fun _ => none, hold := fun _ => none } 1 Lo Ui ⟨Ag4, 19, [], σ⟩ = some [(.normal, ⟨Ap1, 19, [], σ⟩)] := by kernel_rfl
theorem run57 (σ : Sto) : Fm Ew 1 Lo Ui ⟨Ag4, 19, [], σ⟩ = some [(.normal, ⟨Ap1, 19, [], σ⟩)] := by kernel_rfl
theorem Aq1 {C : Ctx} {w : World} {σ : Sto} {x : AV} {vs : Array Value} (hs : Sim Ew.P C w σ) (hg : Fv C (nx σ) w Ew) (hargs : RL C (nx σ) w [x] vs.toList) :
  CallsDIn Fence.wide 0 Ew.P 57 vs .returning w fun
   | .returned _, u', w' => u' = .returning /\ ∃ C', Sim Ew.P C' w' σ /\ Ext C (nx σ) w C' (nx σ) w'
   | _, _, _ => False := by
 have hlen := hargs.length
 have hsz : vs.size = 1 := by simpa using hlen.symm
 have hf : Ew.P.funcs[57]? = some Tryz.f57 := Tryz.func57;refine callsDIn_of_wpSIn hf Ag6 trivial fun c₀ cs hu => ?_
 refine wpSIn_seq ?_;rw [Aaz];refine wpSIn_region ?_;have hrange : List.range (#[Pl] : Array Oper).size = [0] := rfl
 have hw : Region.wanted Pl (yielded #[Pl] (vs ++ Array.replicate (Tryz.f57.ntmps - vs.size) undef)) = true := by
  unfold Region.wanted; rw [Yp]
 have hx : (execOp ({ tmps := vs ++ Array.replicate (Tryz.f57.ntmps - vs.size) undef, defers := [] } : Act).eval Pl).run Ew.P w = .ok .recover w := by
  unfold execOp;rw [Aiu]
  simp [resolve, go_sem, invoke, builtin]
 have hrd : recoverD (c₀ :: cs) = none := by simp [recoverD, hu]
 rw [hrange];simp only [wpOpsSIn];have h0 : (#[Pl] : Array Oper)[0]? = some Pl := rfl;simp only [h0, hw, if_true, hx, hrd];refine ⟨fun _ _ => trivial, ?_⟩
 rw [Ae6]
 have hn : Tryz.f57.ntmps = 19 := by kernel_rfl
 have hres : Tryz.f57.results = #[] := by kernel_rfl
 have st : SSt Ew C w ⟨Ag4, 19, [], σ⟩ (({ tmps := vs ++ Array.replicate (Tryz.f57.ntmps - vs.size) undef, defers := [] } : Act).put (some 6) .nilIface) := by
  refine ⟨hs, hg, fun i v hv => ?_, ?_, ?_⟩
  ·simp only [Ag4, Tr.get_put] at hv
   split at hv
   ·rename_i hi
    cases hv; subst hi;simp only [Act.put]
    have : ((vs ++ Array.replicate (Tryz.f57.ntmps - vs.size) undef).setIfInBounds 6 Value.nilIface).getD 6 undef = .nilIface := by
     rw [Array.getD_eq_getD_getElem?, Array.getElem?_setIfInBounds_self]
     simp [hsz, hn]
    rw [this];unfold R; exact ⟨rfl, rfl⟩
   ·simp [Tr.get] at hv
  ·simp [Act.put, hsz, hn]
  ·simp only [Act.put]; unfold DR; trivial
 have hcode := K6 (Hz Ew) (L1 A5 Lo (Hz _)) 1 Ui C w _ _ _ st (run57 σ);refine wpSIn_of_wpIn rfl ((wpIn_wide (n := 0)).2 (wp_mono hcode fun e a' w' hq => ?_))
 obtain ⟨y, hy, C', hye, hst, hext⟩ := hq;rw [List.mem_singleton] at hy;subst hy;subst hye
 have hds : a'.defers = [] := by
  have hd := hst.dfs;cases hds : a'.defers with
  | nil => rfl
  | cons d ds => rw [hds] at hd; unfold DR at hd; exact hd.elim
 obtain ⟨x, k1, k2⟩ := Dd (fn := Tryz.f57) hst.sim hst.tmps (vs := []) (by rw [hres]; rfl)
 exact ⟨hds, .returning, by rw [← hu], x, k1, rfl, C', hst.sim, hext⟩
def Ac1 (E : Env) (nt b : Nat) (df0 : List (Nat × List AV)) (B : Nat) (Q : Dh) (C : Ctx) (w : World) : Exit -> Act -> World -> Prop := fun e a' w' =>
 ∃ x tm' ρ' σ' C' df, Gh x = e /\ Has tm' ρ' /\ Q x ρ' σ' /\ SSt E C' w' ⟨tm', nt, df, σ'⟩ a' /\ (df = df0 ∨ ∃ aD, df = (D6, [.yl aD, .yl b]) :: df0) /\ B <= nx σ' /\ Ext C B w C' B w'
section
variable {E : Env} {nt B b : Nat} {df0 : List (Nat × List AV)} {Q Q' : Dh} {ρ ρ' : Al} {σ : Sto}
theorem Ac1.from {C C₀ : Ctx} {w w₀ : World} {e : Exit} {a : Act} {w' : World} (h : Ac1 E nt b df0 B Q C w e a w') (hx : Ext C₀ B w₀ C B w) : Ac1 E nt b df0 B Q C₀ w₀ e a w' := by
 obtain ⟨x, tm', ρ', σ', C', df, h1, h2, h3, h4, h5, hB, h6⟩ := h;exact ⟨x, tm', ρ', σ', C', df, h1, h2, h3, h4, h5, hB, hx.trans h6⟩
def TMd (E : Env) (nt b B : Nat) (df0 : List (Nat × List AV)) (c : Code) (Q : Dh) (ρ : Al) (σ : Sto) : Prop :=
 ∀ (Bs : Nat) (C : Ctx) (w : World) (tm : Tr AV) (a : Act), Ef b Bs C B w -> Has tm ρ -> SSt E C w ⟨tm, nt, df0, σ⟩ a -> B <= nx σ -> c.wp E.P (Ac1 E nt b df0 B Q C w) a w
theorem Aq2 {c : Code} (h : T E nt df0 B c Q ρ σ) : TMd E nt b B df0 c Q ρ σ := fun Bs C w tm a _ ht st hB => wp_mono (h C w tm a ht st hB) fun e a' w' ⟨x, tm', ρ', σ', C', h1, h2, h3, h4, hB', h5⟩ => ⟨x, tm', ρ', σ', C', df0, h1, h2, h3, h4, .inl rfl, hB', h5⟩
theorem Ao6 {x y : Code} (h : T E nt df0 B x (Ng (TMd E nt b B df0 y Q) Q) ρ σ) : TMd E nt b B df0 (.seq x y) Q ρ σ := by
 intro Bs C w tm a hi ht st hB;refine wp_seq (wp_mono (h C w tm a ht st hB) fun e a' w' he => ?_)
 obtain ⟨x', tm', ρ', σ', C', h1, h2, h3, h4, hB', h5⟩ := he;subst h1;cases x' with
 | normal => exact wp_mono (h3 Bs C' w' tm' a' (hi.ext h5) h2 h4 hB') fun e a'' w'' he => he.from h5
 | exit id => exact ⟨.exit id, tm', ρ', σ', C', df0, rfl, h2, h3, h4, .inl rfl, hB', h5⟩
 | ret => exact ⟨.ret, tm', ρ', σ', C', df0, rfl, h2, h3, h4, .inl rfl, hB', h5⟩
def Amm (E : Env) (nt b B : Nat) (df0 : List (Nat × List AV)) (f : Operand) (ps : Array Tmp) (assign body y : Code) (Q : Dh) (ρ : Al) (σ : Sto) : Prop :=
 ∃ (k : Nat) (cap : List AV) (kfn : Func) (Post : Sto -> Prop), A0 E ρ f = some (.fn (.func k) [] cap) /\ E.P.funcs[k]? = some kfn /\ (kfn.name == "runtime.NumGoroutine") = false /\ kfn.body.isNone = false /\
  (∀ tm, Has tm ρ -> Kh E ⟨nx σ + 1, tm, nt, ps, assign, body⟩ k (.yl (nx σ + 1) :: cap) (σ.bump.new (.loop .ready)) (fun σ' => σ'.get (nx σ + 1) = some (.loop .ready) /\ Post σ')) /\
  ∀ σ' aD, Post σ' -> nx σ <= nx σ' -> T E nt ((D6, [.yl aD, .yl b]) :: df0) B y Q ρ (σ'.kill (nx σ + 1))
theorem Ag7 {id : Nat} {f : Operand} {ps : Array Tmp} {assign body x y : Code} (h : T E nt df0 B x (Ng (Amm E nt b B df0 f ps assign body y Q) Q) ρ σ) : TMd E nt b B df0 (.seq (.seq x (.block id (.rangeFunc f ps assign body))) y) Q ρ σ := by
 intro Bs C w tm a hi ht st hB;refine wp_seq (wp_seq (wp_mono (h C w tm a ht st hB) fun e a' w' he => ?_))
 obtain ⟨x', tm', ρ', σ', C', h1, h2, h3, h4, hB', h5⟩ := he;subst h1;cases x' with
 | exit id => exact ⟨.exit id, tm', ρ', σ', C', df0, rfl, h2, h3, h4, .inl rfl, hB', h5⟩
 | ret => exact ⟨.ret, tm', ρ', σ', C', df0, rfl, h2, h3, h4, .inl rfl, hB', h5⟩
 | normal =>
  obtain ⟨k, cap, kfn, Post, hf, hkfn, hnum, hbody, hit, hy⟩ := h3;have hi' : Ef b Bs C' (nx σ') w' := (hi.ext h5).ext ((Ext.refl C' B w').top hB');refine wp_block (wp_mono (Ae5 hi' h2 h4 hf hkfn hnum hbody hit) fun e a₂ w₂ he => ?_)
  obtain ⟨rfl, σ₂, C₂, aD, hp, st', e'⟩ := he;have hn : nx σ' <= nx (σ₂.kill (nx σ' + 1)) := e'.next;have hB₂ : B <= nx (σ₂.kill (nx σ' + 1)) := Nat.le_trans hB' hn
  refine wp_mono (hy σ₂ aD hp (by rw [Ck] at hn; exact hn) C₂ w₂ tm' a₂ h2 st' hB₂) fun e a'' w'' he => ?_
  obtain ⟨x, tm₃, ρ₃, σ₃, C₃, g1, g2, g3, g4, gB, g5⟩ := he;exact ⟨x, tm₃, ρ₃, σ₃, C₃, _, g1, g2, g3, g4, .inr ⟨aD, rfl⟩, gB, h5.trans ((e'.base hB').trans g5)⟩
end
def Ao7 (fn : Func) (b B : Nat) (dop : Oper) (y : Code) (Post : AV -> Sto -> Prop) (ρ : Al) (σ : Sto) : Prop :=
 ∃ (v : Operand) (ags : Array Operand) (ts : Array Nat) (a off : Nat), dop.op = .defer ⟨.value v, ags, ts⟩ /\ A0 Ew ρ v = some (.fn (.func 57) [] []) /\ K7 Ew ρ ags.toList = some [.pr a off] /\
  TMd Ew fn.ntmps b B [(57, [.pr a off])] y (Akf (Zw Ew fn b Post)) ρ σ
def Aq3 (K : Al -> Sto -> Prop) : Dh
 | .normal => K
 | _ => fun _ _ => False
theorem Amn {f id : Nat} {fn : Func} {x y : Code} {dop : Oper} {args : List AV} {σ : Sto} {Post : AV -> Sto -> Prop} (hfn : Tryz.prog.funcs[f]? = some fn) (hc : fn.body = some (.seq x (.seq (.region id #[dop] false) y))) (hle : Nat.ble args.length fn.ntmps = true)
  (hdst : dop.dst = none) (hgd : dop.guard = none)
  (h : WFS σ -> AV.unds (nx σ) args = true -> T Ew fn.ntmps [] (nx σ + 1) x (Aq3 (Ao7 fn (nx σ) (nx σ + 1) dop y Post)) (Gb args 0) σ.bump) : Ah Ew f args σ Post := by
 intro C w vs hs hg hargs
 refine ⟨⟨fn, hfn, S8 f fn hfn, by rw [hc]; rfl⟩, ?_⟩
 have hle := Nat.le_of_ble_eq_true hle;obtain ⟨s1, e1⟩ := hs.bump (w.heap.size : Int);rw [← Bo] at e1;refine (callsIn_wide (n := 1)).1 (callsIn_of_wp_marks hfn hc trivial ((wpIn_wide (n := 1)).2 ?_))
 have hi : Ef (nx σ) w.heap.size (C.addStm (nx σ) (w.heap.size : Int)) (nx σ + 1) w := ⟨by omega, by simp [Ctx.addStm], nl⟩
 have ht : Has (F8 args 0 .e) (Gb args 0) := fun i v hv => by
  rw [F0];rw [Ka] at hv
  split at hv
  ·rename_i hi; rw [if_pos hi]; exact hv
  ·cases hv
 have st := L3 (E := Ew) (fn := fn) s1 (hg.ext e1) (RL.ext e1 _ _ hargs) hle;rw [Bo] at e1
 refine wp_seq (wp_mono (h hs.wfs (RL.unds _ _ hargs) _ w _ _ ht st (by rw [Bo]; exact nl)) fun e a' w' he => ?_)
 obtain ⟨x', tm', ρ', σ₁, C', h1, h2, h3, h4, hB, h5⟩ := he;subst h1;cases x' with
 | ret => exact h3.elim
 | exit id => exact h3.elim
 | normal =>
 obtain ⟨v, ags, ts, ad, off, hop, hv, hvs, hy⟩ := h3;refine wp_seq (wp_region ?_)
 have hreg : Gt Ew (#[dop] : Array Oper).toList Lo [dop] ⟨tm', fn.ntmps, [], σ₁⟩ = some ⟨tm', fn.ntmps, [(57, [.pr ad off])], σ₁⟩ := by
  have hone : Me Ew [dop] dop Lo ⟨tm', fn.ntmps, [], σ₁⟩ = some ⟨tm', fn.ntmps, [(57, [.pr ad off])], σ₁⟩ := by
   have hmk : Nat.beq 57 D6 = false := rfl;unfold Me C8;simp only [hgd, hop, hdst, h2.opd hv, h2.opds hvs, O3, List.nil_append, List.append_nil, hmk, cond_false]
  show (match Me Ew [dop] dop Lo ⟨tm', fn.ntmps, [], σ₁⟩ with | some s => Gt Ew [dop] Lo [] s | none => none) = _
  rw [hone]; rfl
 refine Ir (Hz Ew) [dop] 0 C' w' _ a' (fun j => by simp) h4 hreg fun C₂ w₂ a₂ st₂ e₂ => ?_
 have hi2 : Ef (nx σ) w.heap.size C₂ (nx σ + 1) w₂ := (hi.ext h5).ext (e₂.base hB);refine wp_mono (hy w.heap.size C₂ w₂ tm' a₂ hi2 h2 st₂ hB) fun e a' w' he => ?_
 obtain ⟨x, tm', ρ', σ₁, C', df, h1, h2, h3, h4, hdf, hB, h6⟩ := he;subst h1
 have hext : Ext C (nx σ) w C' (nx σ + 1) w' := e1.trans (h5.trans ((e₂.base (by assumption)).trans h6))
 have hi5 : Ef (nx σ) w.heap.size C' (nx σ + 1) w' := hi2.ext h6
 -- the deferred call, and the results behind it
 have last : ∀ (C' : Ctx) (w' : World) (d : Deferred), Zw Ew fn (nx σ) Post ρ' σ₁ -> Sim Ew.P C' w' σ₁ -> Fv C' (nx σ₁) w' Ew -> TR C' (nx σ₁) w' tm' a'.tmps -> DR C' (nx σ₁) w' [(57, [.pr ad off])] [d] -> Ext C (nx σ) w C' (nx σ) w' -> LeavesInM Fence.wide 1 Ew.P fn a'.tmps (fun
   | .returned x, w' => ∃ v σ' C', Post v σ' /\ Sim Ew.P C' w' σ' /\ Ext C (nx σ) w C' (nx σ') w' /\ R C' (nx σ') w' v x
   | _, _ => False) [d] .returning w' := by
  intro C' w' d hx hsim hglob htr hdr hex;obtain ⟨vs₁, r1, v', σ', r2, r3, r4, r5⟩ := hx;unfold DR at hdr
  rcases hdr.1 with ⟨_, cap, g1, g2⟩ | ⟨h0, _⟩
  ·refine ⟨by simp, .inr ⟨fun _ => nl, _, _, 57, _, g1, ?_, fun _ _ => trivial, (Aq1 hsim hglob g2).mono fun e u' w'' he => ?_⟩⟩
   ·rw [g1];have hf57 : Ew.P.funcs[57]? = some Tryz.f57 := Tryz.func57
    have n57 : Tryz.f57.name ≠ "runtime.NumGoroutine" := by
     have := S8 57 Tryz.f57 Tryz.func57
     simpa using this
    have b57 : Tryz.f57.body ≠ none := by rw [Ag6]; simp
    simp only [invoke, callFunc, Sem.run_bind, run_program, Result.andThen_ok, hf57]
    simp [n57, b57]
   ·cases e with
    | returned v =>
     obtain ⟨rfl, C₄, k1, k2⟩ := he
     show LeavesIn _ _ _ _ _ _ [] .returning _
     obtain ⟨y, q1, q2⟩ := Dd (fn := fn) k1 (htr.ext k2) (Ra h2 r1)
     exact ⟨y, q1, v', σ', _, r5, k1.frz r2, ((hex.trans (k2.base (by omega))).trans (Ext.keepB C₄ σ' _ _)).top r3, r4.R k1 q2⟩
    | panicked _ => exact he.elim
    | outgrown => exact he.elim
  ·exact absurd (show (57 : Nat) = D6 from h0) (by decide)
 have fin : Zw Ew fn (nx σ) Post ρ' σ₁ -> LeavesInM Fence.wide 1 Ew.P fn a'.tmps (fun
   | .returned x, w' => ∃ v σ' C', Post v σ' /\ Sim Ew.P C' w' σ' /\ Ext C (nx σ) w C' (nx σ') w' /\ R C' (nx σ') w' v x
   | _, _ => False) a'.defers .returning w' := by
  intro hx
  rcases hdf with rfl | ⟨aD, rfl⟩
  ·have hd := h4.dfs;cases hds : a'.defers with
   | nil => rw [hds] at hd; unfold DR at hd; exact hd.elim
   | cons d ds =>
    rw [hds] at hd;cases ds with
    | nil => exact last C' w' d hx h4.sim h4.glob h4.tmps hd (hext.base nl)
    | cons d' ds' => unfold DR at hd; have := hd.2; unfold DR at this; exact this.elim
  ·have hd := h4.dfs
   obtain ⟨d, d2, hds⟩ : ∃ d d2, a'.defers = [d, d2] /\ DR C' (nx σ₁) w' [(D6, [.yl aD, .yl (nx σ)]), (57, [.pr ad off])] [d, d2] := by
    cases hds : a'.defers with
    | nil => rw [hds] at hd; unfold DR at hd; exact hd.elim
    | cons d ds =>
     rw [hds] at hd;cases ds with
     | nil => unfold DR at hd; have := hd.2; unfold DR at this; exact this.elim
     | cons d2 ds =>
      cases ds with
      | nil => exact ⟨d, d2, rfl, hd⟩
      | cons _ _ => unfold DR at hd; have := hd.2; unfold DR at this; have := this.2; unfold DR at this; exact this.elim
   obtain ⟨hds, hd⟩ := hds;unfold DR at hd;obtain ⟨hd, hd2⟩ := hd
   rcases hd with ⟨h0, _⟩ | ⟨_, a1, b1, h1, ⟨g2, g3, g4⟩, g5, g6, g7⟩
   ·exact absurd rfl h0
   ·simp only [List.cons.injEq, AV.yl.injEq, and_true] at h1;obtain ⟨rfl, rfl⟩ := h1;rw [hds, g5]
    refine ⟨by simp, .inl ⟨_, _, rfl, run_takeDeferred g7, ?_⟩⟩
    have t : Fp w' (w'.putObj (C'.stm aD).toNat (.deferred none)) (C'.stm aD).toNat := Fp.put g7 rfl rfl
    have hge : w.heap.size <= (C'.stm aD).toNat := by rw [← hi5.2.1]; exact g4
    refine last C' _ d2 hx (h4.sim.turn t g6) (h4.glob.turn t) (fun i v hv => R.turn t _ _ (h4.tmps i v hv)) ?_ ((hext.turnNew t g6 hge).base nl)
    unfold DR at hd2 ⊢
    rcases hd2.1 with ⟨k0, cap, k1, k2⟩ | ⟨h0, _⟩
    ·exact ⟨.inl ⟨k0, cap, k1, RL.turn t _ _ k2⟩, by unfold DR; trivial⟩
    ·exact absurd (show (57 : Nat) = D6 from h0) (by decide)
 cases x with
 | normal => exact fin h3
 | ret => exact fin h3
 | exit id => exact h3.elim
def aP (i j : Nat) : Ann := ⟨.pure, i, j⟩
def aR (i j : Nat) : Ann := ⟨.read, i, j⟩
def aE (i j : Nat) : Ann := ⟨.eff, i, j⟩
theorem sb {ρ ρ' : Al} (h : Kb ρ' ρ := by repeat (first | exact .refl | refine .cons rfl ?_)) : Kb ρ' ρ := h
section
variable {E : Env} {nt B : Nat} {df : List (Nat × List AV)} {Q : Dh} {ρ : Al} {σ : Sto} {K : Al -> Sto -> Prop}
theorem O1 {ops r : List Oper} {op : Op} {dst : Option Nat} {ty : Nat} {pos : String} {after : Array Edge} {v : AV} {σ₁ : Sto} (h : Bu E (fun _ _ _ => none) op ρ σ v σ₁)
  (k : TO E nt df B ops r K (Es dst v ρ) σ₁) (hn : F5 op = true := by exact rfl) (hd : Df nt dst = true := by exact rfl) : TO E nt df B ops ({ dst := dst, op := op, type := ty, pos := pos, after := after, guard := none } :: r) K ρ σ := X2 noR hn hd h k
theorem OM {ops r : List Oper} {x : Operand} {dst : Option Nat} {ty : Nat} {pos : String} {after : Array Edge} {v : AV} (h : A0 E ρ x = some v)
  (k : TO E nt df B ops r K (Es dst v ρ) σ) (hd : Df nt dst = true := by exact rfl) : TO E nt df B ops ({ dst := dst, op := .move x, type := ty, pos := pos, after := after, guard := none } :: r) K ρ σ := X2 noR rfl hd (Ag h) k
theorem OA {ops r : List Oper} {x : Operand} {dst : Option Nat} {ty : Nat} {pos : String} {after : Array Edge} {v : AV} (h : A0 E ρ x = some v)
  (k : TO E nt df B ops r K (Es dst v ρ) σ) (hd : Df nt dst = true := by exact rfl) : TO E nt df B ops ({ dst := dst, op := .assign x, type := ty, pos := pos, after := after, guard := none } :: r) K ρ σ := X2 noR rfl hd (Bv h) k
theorem Of {ops r : List Oper} {o oj : Oper} {j d : Nat} {b b' want : Bool} (hgb : b = b') (k : TO E nt df B ops r K (Es o.dst Bd ρ) σ) (hg : o.guard = some (j, want) := by exact rfl) (hj : ops[j]? = some oj := by exact rfl) (hdj : oj.dst = some d := by exact rfl) (hb : Al.at ρ d = some (.bool b) := by exact rfl) (hw : cond b' want (!want) = false := by exact rfl)
  (hd : Df nt o.dst = true := by exact rfl) : TO E nt df B ops (o :: r) K ρ σ := Q9 hg hj hdj hb (by rw [hgb]; exact hw) hd k
theorem On {ops r : List Oper} {o oj : Oper} {v : AV} {σ₁ : Sto} {j d : Nat} {b b' want : Bool} (hgb : b = b') (h : Bu E (fun _ _ _ => none) o.op ρ σ v σ₁) (k : TO E nt df B ops r K (Es o.dst v ρ) σ₁) (hg : o.guard = some (j, want) := by exact rfl) (hj : ops[j]? = some oj := by exact rfl) (hdj : oj.dst = some d := by exact rfl) (hb : Al.at ρ d = some (.bool b) := by exact rfl) (hw : cond b' want (!want) = true := by exact rfl)
  (hn : F5 o.op = true := by exact rfl) (hd : Df nt o.dst = true := by exact rfl) : TO E nt df B ops (o :: r) K ρ σ := X3 hg hj hdj hb (by rw [hgb]; exact hw) noR hn hd h k
theorem Ou {ops r : List Oper} {o oj : Oper} {j d : Nat} {want : Bool} (k : TO E nt df B ops r K (Es o.dst Bd ρ) σ) (hg : o.guard = some (j, want) := by exact rfl) (hj : ops[j]? = some oj := by exact rfl) (hdj : oj.dst = some d := by exact rfl) (hb : Al.at ρ d = some Bd := by exact rfl) (hd : Df nt o.dst = true := by exact rfl) : TO E nt df B ops (o :: r) K ρ σ := Ao0 hg hj hdj hb hd k
theorem DF {Rr : Rec} {ops r : List Oper} {Kd : KD} {eps : List Sto} {log : List (Al × AV)} {op : Op} {dst : Option Nat} {ty : Nat} {pos : String} {after : Array Edge} {v : AV} {σ₁ : Sto} (h : Bu E Rr op ρ σ v σ₁)
  (k : TD E nt Rr ops r Kd (Es dst v ρ) σ eps ((ρ, v) :: log)) (he : Cw (B9 E op) = false := by exact rfl) (hd : Df nt dst = true := by exact rfl) : TD E nt Rr ops ({ dst := dst, op := op, type := ty, pos := pos, after := after, guard := none } :: r) Kd ρ σ eps log := Aii (b := false) he hd h k
theorem DT {Rr : Rec} {ops r : List Oper} {Kd : KD} {eps : List Sto} {log : List (Al × AV)} {op : Op} {dst : Option Nat} {ty : Nat} {pos : String} {after : Array Edge} {v : AV} {σ₁ : Sto} (h : Bu E Rr op ρ σ v σ₁)
  (k : TD E nt Rr ops r Kd (Es dst v ρ) σ₁ (σ₁ :: eps) ((ρ, v) :: log)) (he : Cw (B9 E op) = true := by exact rfl) (hd : Df nt dst = true := by exact rfl) : TD E nt Rr ops ({ dst := dst, op := op, type := ty, pos := pos, after := after, guard := none } :: r) Kd ρ σ eps log := Aii (b := true) he hd h k
theorem Bw {fn : Func} {ρ' : Al} {vs : List AV} {P : AV -> Prop} (hw : WFS σ) (hr : Te E ρ' σ fn.results.toList = some vs) (h : P (Np vs)) (hu : AV.und (nx σ) (Np vs) = true := by exact rfl) : Zw E fn (nx σ) (fun v τ => P v /\ τ = σ) ρ' σ :=
 ⟨vs, hr, Np vs, σ, Aw.of_same hw nl (fun _ _ => rfl), nl, .same hu, h, rfl⟩
theorem Dx {Rr : Rec} {ops r : List Oper} {Kd : KD} {eps : List Sto} {log : List (Al × AV)} {o oj : Oper} {j d : Nat} {b want : Bool} (hg : o.guard = some (j, want)) (hj : ops[j]? = some oj) (hdj : oj.dst = some d) (hb : Al.at ρ d = some (.bool b)) (hw : cond b want (!want) = false)
  (k : TD E nt Rr ops r Kd (Es o.dst Bd ρ) σ eps ((ρ, Bd) :: log)) (he : Cw (B9 E o.op) = false := by exact rfl) (hd : Df nt o.dst = true := by exact rfl) : TD E nt Rr ops (o :: r) Kd ρ σ eps log := Lm (e := false) hg hj hdj hb hw he hd k
theorem Dn {Rr : Rec} {ops r : List Oper} {Kd : KD} {eps : List Sto} {log : List (Al × AV)} {o oj : Oper} {v : AV} {σ₁ : Sto} {j d : Nat} {b want : Bool} (hg : o.guard = some (j, want)) (hj : ops[j]? = some oj) (hdj : oj.dst = some d) (hb : Al.at ρ d = some (.bool b)) (hw : cond b want (!want) = true)
  (h : Bu E Rr o.op ρ σ v σ₁) (k : TD E nt Rr ops r Kd (Es o.dst v ρ) σ eps ((ρ, v) :: log)) (he : Cw (B9 E o.op) = false := by exact rfl) (hd : Df nt o.dst = true := by exact rfl) : TD E nt Rr ops (o :: r) Kd ρ σ eps log := K8 (e := false) hg hj hdj hb hw he hd h k
theorem Du {Rr : Rec} {ops r : List Oper} {Kd : KD} {eps : List Sto} {log : List (Al × AV)} {o oj : Oper} {j d : Nat} {want : Bool} (k : TD E nt Rr ops r Kd (Es o.dst Bd ρ) σ eps ((ρ, Bd) :: log)) (hg : o.guard = some (j, want) := by exact rfl) (hj : ops[j]? = some oj := by exact rfl) (hdj : oj.dst = some d := by exact rfl) (hb : Al.at ρ d = some Bd := by exact rfl)
  (he : Cw (B9 E o.op) = false := by exact rfl) (hd : Df nt o.dst = true := by exact rfl) : TD E nt Rr ops (o :: r) Kd ρ σ eps log := Wg (e := false) hg hj hdj hb he hd k
end
end Go.AM
namespace Go.Proofs
open Go.Shelf
def Tryz.lays189_ren : Go.Shelf.Ren := ⟨fun | 189 => 193 | 125 => 227 | 257 => 226 | 128 => 254 | 129 => 255 | 294 => 245 | 295 => 246 | 296 => 247 | 297 => 248 | 298 => 249 | 299 => 250 | 216 => 251 | 300 => 252 | 301 => 253 | 328 => 271 | 329 => 272 | 330 => 273 | 331 => 274 | 332 => 275 | 215 => 276 | 343 => 286 | n => n, fun | 28 => 122 | 3 => 3 | 46 => 292 | 0 => 0 | 51 => 352 | 53 => 289 | 4 => 4 | 183 => 345 | 182 => 344 | 131 => 188 | 5 => 5 | 9 => 9 | 218 => 367 | 222 => 371 | 228 => 380 | 229 => 106 | n => n, fun | n => n⟩
theorem Tryz.lays189 : Go.Proofs.Lays.n189 Tryz.prog Tryz.lays189_ren := {
 mixed := by kernel_rfl
 f125 := Tryz.func227.trans (congrArg some (by kernel_rfl))
 f128 := Tryz.func254.trans (congrArg some (by kernel_rfl))
 f129 := Tryz.func255.trans (congrArg some (by kernel_rfl))
 f189 := Tryz.func193.trans (congrArg some (by kernel_rfl))
 f215 := Tryz.func276.trans (congrArg some (by kernel_rfl))
 f216 := Tryz.func251.trans (congrArg some (by kernel_rfl))
 f257 := Tryz.func226.trans (congrArg some (by kernel_rfl))
 f294 := Tryz.func245.trans (congrArg some (by kernel_rfl))
 f295 := Tryz.func246.trans (congrArg some (by kernel_rfl))
 f296 := Tryz.func247.trans (congrArg some (by kernel_rfl))
 f297 := Tryz.func248.trans (congrArg some (by kernel_rfl))
 f298 := Tryz.func249.trans (congrArg some (by kernel_rfl))
 f299 := Tryz.func250.trans (congrArg some (by kernel_rfl))
 f300 := Tryz.func252.trans (congrArg some (by kernel_rfl))
 f301 := Tryz.func253.trans (congrArg some (by kernel_rfl))
 f328 := Tryz.func271.trans (congrArg some (by kernel_rfl))
 f329 := Tryz.func272.trans (congrArg some (by kernel_rfl))
 f330 := Tryz.func273.trans (congrArg some (by kernel_rfl))
 f331 := Tryz.func274.trans (congrArg some (by kernel_rfl))
 f332 := Tryz.func275.trans (congrArg some (by kernel_rfl))
 f343 := Tryz.func286.trans (congrArg some (by kernel_rfl))
 t0 := Tryz.underlying0
 a0 := Tryz.isAgg0
 z0 := Tryz.sizeOf0
 v0 := Tryz.zeroValue0
 t3 := Tryz.underlying3
 a3 := Tryz.isAgg3
 z3 := Tryz.sizeOf3
 v3 := Tryz.zeroValue3
 t4 := Tryz.underlying4
 a4 := Tryz.isAgg4
 z4 := Tryz.sizeOf4
 v4 := Tryz.zeroValue4
 t5 := Tryz.underlying5
 a5 := Tryz.isAgg5
 z5 := Tryz.sizeOf5
 v5 := Tryz.zeroValue5
 t9 := Tryz.underlying9
 a9 := Tryz.isAgg9
 z9 := Tryz.sizeOf9
 v9 := Tryz.zeroValue9
 t28 := Tryz.underlying122
 a28 := Tryz.isAgg122
 z28 := Tryz.sizeOf122
 v28 := Tryz.zeroValue122
 t46 := Tryz.underlying292
 a46 := Tryz.isAgg292
 z46 := Tryz.sizeOf292
 v46 := Tryz.zeroValue292
 t51 := Tryz.underlying352
 a51 := Tryz.isAgg352
 z51 := Tryz.sizeOf352
 v51 := Tryz.zeroValue352
 t53 := Tryz.underlying289
 a53 := Tryz.isAgg289
 z53 := Tryz.sizeOf289
 v53 := Tryz.zeroValue289
 t131 := Tryz.underlying188
 a131 := Tryz.isAgg188
 z131 := Tryz.sizeOf188
 v131 := Tryz.zeroValue188
 t182 := Tryz.underlying344
 a182 := Tryz.isAgg344
 z182 := Tryz.sizeOf344
 v182 := Tryz.zeroValue344
 t183 := Tryz.underlying345
 a183 := Tryz.isAgg345
 z183 := Tryz.sizeOf345
 v183 := Tryz.zeroValue345
 t218 := Tryz.underlying367
 a218 := Tryz.isAgg367
 z218 := Tryz.sizeOf367
 v218 := Tryz.zeroValue367
 t222 := Tryz.underlying371
 a222 := Tryz.isAgg371
 z222 := Tryz.sizeOf371
 v222 := Tryz.zeroValue371
 t228 := Tryz.underlying380
 a228 := Tryz.isAgg380
 z228 := Tryz.sizeOf380
 v228 := Tryz.zeroValue380
 t229 := Tryz.underlying106
 a229 := Tryz.isAgg106
 z229 := Tryz.sizeOf106
 v229 := Tryz.zeroValue106 }
open Go.Sort Go.RowKit in
theorem Tryz.slices_Sort_int (blk off cap : Nat) (zs : List Int) (w : World) (hH : Holds (Value.int .i64) w blk off zs.toArray) (hblk : blk < w.heap.size) (hsz : zs.length < 4611686018427387904) :
  Calls Tryz.prog 193 #[.slice (some ⟨blk, off, none⟩) zs.length cap] w fun e w' =>
   e = .returned (.tuple #[]) /\ ∃ n os, w' = grow (putRow (Value.int .i64) (Sort.ahead w n) blk off (zs.mergeSort fun x y => decide (x <= y)).toArray) os := Any.slices_Sort_int Tryz.lays189 blk off cap zs w hH hblk hsz
open Go.RowKit Go.Sort in
theorem Tryz.slices_Sort_int_none (p : Option Addr) (cap : Nat) (w : World) :
  Calls Tryz.prog 193 #[.slice p 0 cap] w fun e w' => e = .returned (.tuple #[]) /\ w' = w := Any.slices_Sort_int_none Tryz.lays189 p cap w
end Go.Proofs
namespace Go.Proofs
open Go.Shelf
def Tryz.lays119_ren : Go.Shelf.Ren := ⟨fun | 119 => 295 | n => n, fun | 21 => 21 | 4 => 4 | n => n, fun | n => n⟩
theorem Tryz.lays119 : Go.Proofs.Lays.n119 Tryz.prog Tryz.lays119_ren := {
 mixed := by kernel_rfl
 f119 := Tryz.func295.trans (congrArg some (by kernel_rfl))
 t4 := Tryz.underlying4
 a4 := Tryz.isAgg4
 z4 := Tryz.sizeOf4
 v4 := Tryz.zeroValue4
 t21 := Tryz.underlying21
 a21 := Tryz.isAgg21
 z21 := Tryz.sizeOf21
 v21 := Tryz.zeroValue21 }
theorem Tryz.utf8_ValidRune (r : Int) (w : World) :
  Calls Tryz.prog 295 #[.int .i32 r] w fun e w' => e = .returned (.bool (Lib.validRune r)) /\ w' = w := Any.utf8_ValidRune Tryz.lays119 r w
def Tryz.lays106_ren : Go.Shelf.Ren := ⟨fun | 106 => 263 | 213 => 280 | 265 => 287 | n => n, fun | 9 => 9 | 3 => 3 | n => n, fun | n => n⟩
theorem Tryz.lays106 : Go.Proofs.Lays.n106 Tryz.prog Tryz.lays106_ren := {
 mixed := by kernel_rfl
 f106 := Tryz.func263.trans (congrArg some (by kernel_rfl))
 f213 := Tryz.func280.trans (congrArg some (by kernel_rfl))
 f265 := Tryz.func287.trans (congrArg some (by kernel_rfl))
 t3 := Tryz.underlying3
 a3 := Tryz.isAgg3
 z3 := Tryz.sizeOf3
 v3 := Tryz.zeroValue3
 t9 := Tryz.underlying9
 a9 := Tryz.isAgg9
 z9 := Tryz.sizeOf9
 v9 := Tryz.zeroValue9 }
open Go.RowKit in
theorem Tryz.strings_Compare (a b : ByteArray) (w : World) :
  Calls Tryz.prog 263 #[.string a, .string b] w fun e w' => e = .returned (.int .i64 (Lib.compareBytes a.data.toList b.data.toList)) /\ w' = w := Any.strings_Compare Tryz.lays106 a b w
def Tryz.laysGw17_ren : Go.Shelf.Ren := ⟨fun | 17 => 288 | 15 => 291 | 20 => 293 | n => n, fun | 9 => 9 | 23 => 386 | 4 => 4 | 3 => 3 | 0 => 0 | 21 => 21 | n => n, fun | n => n⟩
theorem Tryz.laysGw17 : Go.Proofs.LaysGw.n17 Tryz.prog Tryz.laysGw17_ren := {
 mixed := by kernel_rfl
 f15 := Tryz.func291.trans (congrArg some (by kernel_rfl))
 f17 := Tryz.func288.trans (congrArg some (by kernel_rfl))
 f20 := Tryz.func293.trans (congrArg some (by kernel_rfl))
 t0 := Tryz.underlying0
 a0 := Tryz.isAgg0
 z0 := Tryz.sizeOf0
 v0 := Tryz.zeroValue0
 i0 := by kernel_rfl
 t3 := Tryz.underlying3
 a3 := Tryz.isAgg3
 z3 := Tryz.sizeOf3
 v3 := Tryz.zeroValue3
 i3 := by kernel_rfl
 t4 := Tryz.underlying4
 a4 := Tryz.isAgg4
 z4 := Tryz.sizeOf4
 v4 := Tryz.zeroValue4
 i4 := by kernel_rfl
 t9 := Tryz.underlying9
 a9 := Tryz.isAgg9
 z9 := Tryz.sizeOf9
 v9 := Tryz.zeroValue9
 i9 := by kernel_rfl
 t21 := Tryz.underlying21
 a21 := Tryz.isAgg21
 z21 := Tryz.sizeOf21
 v21 := Tryz.zeroValue21
 i21 := by kernel_rfl
 t23 := Tryz.underlying386
 a23 := Tryz.isAgg386
 z23 := Tryz.sizeOf386
 v23 := Tryz.zeroValue386
 i23 := by kernel_rfl }
open Go.RowKit Go.Lib in
def Tryz.lays151_ren : Go.Shelf.Ren := ⟨fun | 151 => 290 | 152 => 292 | 137 => 294 | 119 => 295 | 224 => 296 | 225 => 297 | 217 => 298 | 266 => 299 | n => n, fun | 9 => 9 | 21 => 21 | 4 => 4 | 3 => 3 | 5 => 5 | 0 => 0 | 46 => 292 | n => n, fun | n => n⟩
theorem Tryz.lays151 : Go.Proofs.Lays.n151 Tryz.prog Tryz.lays151_ren := {
 mixed := by kernel_rfl
 f119 := Tryz.func295.trans (congrArg some (by kernel_rfl))
 f137 := Tryz.func294.trans (congrArg some (by kernel_rfl))
 f151 := Tryz.func290.trans (congrArg some (by kernel_rfl))
 f152 := Tryz.func292.trans (congrArg some (by kernel_rfl))
 f217 := Tryz.func298.trans (congrArg some (by kernel_rfl))
 f224 := Tryz.func296.trans (congrArg some (by kernel_rfl))
 f225 := Tryz.func297.trans (congrArg some (by kernel_rfl))
 f266 := Tryz.func299.trans (congrArg some (by kernel_rfl))
 t0 := Tryz.underlying0
 a0 := Tryz.isAgg0
 z0 := Tryz.sizeOf0
 v0 := Tryz.zeroValue0
 t3 := Tryz.underlying3
 a3 := Tryz.isAgg3
 z3 := Tryz.sizeOf3
 v3 := Tryz.zeroValue3
 t4 := Tryz.underlying4
 a4 := Tryz.isAgg4
 z4 := Tryz.sizeOf4
 v4 := Tryz.zeroValue4
 t5 := Tryz.underlying5
 a5 := Tryz.isAgg5
 z5 := Tryz.sizeOf5
 v5 := Tryz.zeroValue5
 t9 := Tryz.underlying9
 a9 := Tryz.isAgg9
 z9 := Tryz.sizeOf9
 v9 := Tryz.zeroValue9
 t21 := Tryz.underlying21
 a21 := Tryz.isAgg21
 z21 := Tryz.sizeOf21
 v21 := Tryz.zeroValue21
 t46 := Tryz.underlying292
 a46 := Tryz.isAgg292
 z46 := Tryz.sizeOf292
 v46 := Tryz.zeroValue292 }
open Go.RowKit Go.Lib in
theorem Tryz.strings_ContainsRune_ascii (s : ByteArray) (r : Int) (w : World) (h0 : 0 <= r) (h1 : r < 128) :
  Calls Tryz.prog 290 #[.string s, .int .i32 r] w fun e w' => e = .returned (.bool (decide (0 <= Lib.indexByte s.data.toList r.toNat.toUInt8))) /\ w' = w := Any.strings_ContainsRune_ascii Tryz.lays151 s r w h0 h1
end Go.Proofs
namespace Go.AM
open Go Go.Proofs
theorem ld3 : ldI Ew.P 3 = some (1, false) := by kernel_rfl
theorem ok3 : okI Ew.P 3 = true := by kernel_rfl
theorem ld4 : ldI Ew.P 4 = some (1, false) := by kernel_rfl
theorem ld5 : ldI Ew.P 5 = some (1, false) := by kernel_rfl
theorem ok5 : okI Ew.P 5 = true := by kernel_rfl
theorem ld9 : ldI Ew.P 9 = some (1, false) := by kernel_rfl
theorem ok9 : okI Ew.P 9 = true := by kernel_rfl
theorem st9 : Dz Ew.P 9 = true := by kernel_rfl
theorem Cf : ldI Ew.P 22 = some (1, false) := by kernel_rfl
theorem D0 : Ge Ew.P 22 = true := by kernel_rfl
theorem C5 : elI Ew.P 22 = some (1, 16, some [.str []]) := by kernel_rfl
theorem Ag8 : ldI Ew.P 23 = some (1, false) := by kernel_rfl
theorem Ag9 : Ge Ew.P 23 = true := by kernel_rfl
theorem el23 : elI Ew.P 23 = some (8, 168, some [.str [], .bool false, .nil (.slice none 0 0), .nil (.slice none 0 0), .nil (.slice none 0 0), .nil (.slice none 0 0), .nil (.slice none 0 0), .nil (.slice none 0 0)]) := by kernel_rfl
theorem Ki : ldI Ew.P 25 = some (3, true) := by kernel_rfl
theorem Aha : fdI Ew.P 25 0 = some (0, 1, false) := by kernel_rfl
theorem Od : fdI Ew.P 25 1 = some (1, 1, false) := by kernel_rfl
theorem Rf : fdI Ew.P 25 2 = some (2, 1, false) := by kernel_rfl
theorem H8 : ldI Ew.P 26 = some (1, false) := by kernel_rfl
theorem Kj : Ge Ew.P 26 = true := by kernel_rfl
theorem L5 : elI Ew.P 26 = some (2, 40, some [.str [], .nil (.slice none 0 0)]) := by kernel_rfl
theorem Bq : ldI Ew.P 28 = some (2, true) := by kernel_rfl
theorem Ku : zI Ew.P 28 = some [.str [], .nil (.slice none 0 0)] := by kernel_rfl
theorem Dr : fdI Ew.P 28 0 = some (0, 1, false) := by kernel_rfl
theorem Dk : fdI Ew.P 28 1 = some (1, 1, false) := by kernel_rfl
theorem Akp : bdI Ew.P 28 = some ([.str [], .nil (.slice none 0 0)], [(0, 1), (1, 1)]) := by kernel_rfl
theorem Zy : ldI Ew.P 32 = some (1, false) := by kernel_rfl
theorem zi32 : zI Ew.P 32 = some [.nil (.slice none 0 0)] := by kernel_rfl
theorem sl32 : Ge Ew.P 32 = true := by kernel_rfl
theorem Akq : elI Ew.P 32 = some (3, 56, some [.str [], .str [], .nil (.slice none 0 0)]) := by kernel_rfl
theorem Ae7 : ldI Ew.P 33 = some (1, false) := by kernel_rfl
theorem Jp : okI Ew.P 33 = true := by kernel_rfl
theorem zi33 : zI Ew.P 33 = some [.int .i64 (0)] := by kernel_rfl
theorem ld38 : ldI Ew.P 38 = some (1, false) := by kernel_rfl
theorem zi38 : zI Ew.P 38 = some [.nil (.nilFunc)] := by kernel_rfl
theorem Amo : ldI Ew.P 43 = some (3, true) := by kernel_rfl
theorem zi43 : zI Ew.P 43 = some [.str [], .str [], .nil (.slice none 0 0)] := by kernel_rfl
theorem Ahb : fdI Ew.P 43 0 = some (0, 1, false) := by kernel_rfl
theorem Ac2 : fdI Ew.P 43 1 = some (1, 2, true) := by kernel_rfl
theorem bd43 : bdI Ew.P 43 = some ([.str [], .str [], .nil (.slice none 0 0)], [(0, 1), (1, 2)]) := by kernel_rfl
theorem ld64 : ldI Ew.P 64 = some (1, false) := by kernel_rfl
theorem Kk : ldI Ew.P 75 = some (1, false) := by kernel_rfl
theorem Fs : Ge Ew.P 75 = true := by kernel_rfl
theorem H0 : elI Ew.P 75 = some (3, 48, some [.str [], .bool false, .nil (.slice none 0 0)]) := by kernel_rfl
theorem Akr : ldI Ew.P 76 = some (1, false) := by kernel_rfl
theorem Yq : Ge Ew.P 76 = true := by kernel_rfl
theorem Uj : elI Ew.P 76 = some (2, 32, some [.str [], .str []]) := by kernel_rfl
theorem Oe : ldI Ew.P 78 = some (8, true) := by kernel_rfl
theorem zi78 : zI Ew.P 78 = some [.str [], .bool false, .nil (.slice none 0 0), .nil (.slice none 0 0), .nil (.slice none 0 0), .nil (.slice none 0 0), .nil (.slice none 0 0), .nil (.slice none 0 0)] := by kernel_rfl
theorem Rg : fdI Ew.P 78 0 = some (0, 1, false) := by kernel_rfl
theorem Ac3 : fdI Ew.P 78 1 = some (1, 1, false) := by kernel_rfl
theorem G4 : fdI Ew.P 78 2 = some (2, 1, false) := by kernel_rfl
theorem Amp : fdI Ew.P 78 3 = some (3, 1, false) := by kernel_rfl
theorem Uk : fdI Ew.P 78 4 = some (4, 1, false) := by kernel_rfl
theorem Ul : fdI Ew.P 78 5 = some (5, 1, false) := by kernel_rfl
theorem Ac4 : fdI Ew.P 78 6 = some (6, 1, false) := by kernel_rfl
theorem Yr : fdI Ew.P 78 7 = some (7, 1, false) := by kernel_rfl
theorem Dy : ldI Ew.P 80 = some (3, true) := by kernel_rfl
theorem Rh : zI Ew.P 80 = some [.str [], .bool false, .nil (.slice none 0 0)] := by kernel_rfl
theorem Fk : fdI Ew.P 80 0 = some (0, 1, false) := by kernel_rfl
theorem Io : fdI Ew.P 80 1 = some (1, 1, false) := by kernel_rfl
theorem Da : fdI Ew.P 80 2 = some (2, 1, false) := by kernel_rfl
theorem ld84 : ldI Ew.P 84 = some (1, false) := by kernel_rfl
theorem zi84 : zI Ew.P 84 = some [.nil (.nilFunc)] := by kernel_rfl
theorem Zz : ldI Ew.P 87 = some (1, false) := by kernel_rfl
theorem Ahc : Ge Ew.P 87 = true := by kernel_rfl
theorem Ac5 : elI Ew.P 87 = some (4, 64, some [.str [], .str [], .nil (.slice none 0 0), .bool false]) := by kernel_rfl
theorem L6 : ldI Ew.P 89 = some (2, true) := by kernel_rfl
theorem zi89 : zI Ew.P 89 = some [.nil (.slice none 0 0), .nil (.slice none 0 0)] := by kernel_rfl
theorem M0 : fdI Ew.P 89 0 = some (0, 1, false) := by kernel_rfl
theorem Lp : fdI Ew.P 89 1 = some (1, 1, false) := by kernel_rfl
theorem Amq : bdI Ew.P 89 = some ([.nil (.slice none 0 0), .nil (.slice none 0 0)], [(0, 1), (1, 1)]) := by kernel_rfl
theorem Ahd : ldI Ew.P 90 = some (1, false) := by kernel_rfl
theorem Ae8 : mpI Ew.P 90 = some (9, .agg [.str [], .str [], .nil (.slice none 0 0), .bool false], 4, true) := by kernel_rfl
theorem Fl : ldI Ew.P 92 = some (3, true) := by kernel_rfl
theorem zi92 : zI Ew.P 92 = some [.nil (.slice none 0 0), .nil (.slice none 0 0), .nil (.map none)] := by kernel_rfl
theorem Aq4 : fdI Ew.P 92 0 = some (0, 2, true) := by kernel_rfl
theorem Ri : fdI Ew.P 92 1 = some (2, 1, false) := by kernel_rfl
theorem bd92 : bdI Ew.P 92 = some ([.nil (.slice none 0 0), .nil (.slice none 0 0), .nil (.map none)], [(0, 2), (2, 1)]) := by kernel_rfl
theorem ld99 : ldI Ew.P 99 = some (1, false) := by kernel_rfl
theorem zi99 : zI Ew.P 99 = some [.nil (.nilFunc)] := by kernel_rfl
theorem Amr : ldI Ew.P 102 = some (1, false) := by kernel_rfl
theorem zi102 : zI Ew.P 102 = some [.nil (.map none)] := by kernel_rfl
theorem Ams : mpI Ew.P 102 = some (9, .agg [.int .i64 (0), .int .i64 (0)], 2, true) := by kernel_rfl
theorem Amt : ldI Ew.P 107 = some (1, false) := by kernel_rfl
theorem zi107 : zI Ew.P 107 = some [.nil (.nilFunc)] := by kernel_rfl
theorem ld108 : ldI Ew.P 108 = some (2, true) := by kernel_rfl
theorem zi108 : zI Ew.P 108 = some [.int .i64 (0), .int .i64 (0)] := by kernel_rfl
theorem Amu : arI Ew.P 108 = some (2, 1, false) := by kernel_rfl
theorem Ae9 : ldI Ew.P 122 = some (1, false) := by kernel_rfl
theorem zi122 : zI Ew.P 122 = some [.nil (.slice none 0 0)] := by kernel_rfl
theorem Amv : Ge Ew.P 122 = true := by kernel_rfl
theorem Amw : elI Ew.P 122 = some (1, 8, some [.int .i64 (0)]) := by kernel_rfl
theorem Ap2 : Ge Ew.P 140 = true := by kernel_rfl
theorem Aiv : elI Ew.P 140 = some (1, 24, some [.nil (.slice none 0 0)]) := by kernel_rfl
theorem Vj : ldI Ew.P 179 = some (1, false) := by kernel_rfl
theorem Qq : Ge Ew.P 179 = true := by kernel_rfl
theorem Nh : elI Ew.P 179 = some (3, 40, some [.str [], .str [], .int .i64 (0)]) := by kernel_rfl
theorem F6 : ldI Ew.P 181 = some (4, true) := by kernel_rfl
theorem Tl : zI Ew.P 181 = some [.str [], .str [], .nil (.slice none 0 0), .bool false] := by kernel_rfl
theorem Wj : fdI Ew.P 181 0 = some (0, 1, false) := by kernel_rfl
theorem Aiw : fdI Ew.P 181 1 = some (1, 1, false) := by kernel_rfl
theorem Iv : fdI Ew.P 181 2 = some (2, 1, false) := by kernel_rfl
theorem Ac6 : fdI Ew.P 181 3 = some (3, 1, false) := by kernel_rfl
theorem Aix : bdI Ew.P 181 = some ([.str [], .str [], .nil (.slice none 0 0), .bool false], [(0, 1), (1, 1), (2, 1), (3, 1)]) := by kernel_rfl
theorem Afa : ldI Ew.P 235 = some (1, false) := by kernel_rfl
theorem Og : mpI Ew.P 235 = some (9, .agg [.str [], .bool false, .nil (.slice none 0 0)], 3, true) := by kernel_rfl
theorem Jc : ldI Ew.P 236 = some (3, true) := by kernel_rfl
theorem Aa0 : zI Ew.P 236 = some [.str [], .str [], .int .i64 (0)] := by kernel_rfl
theorem Aiy : fdI Ew.P 236 0 = some (0, 1, false) := by kernel_rfl
theorem Jq : fdI Ew.P 236 1 = some (1, 1, false) := by kernel_rfl
theorem Wl : fdI Ew.P 236 2 = some (2, 1, false) := by kernel_rfl
theorem Aiz : bdI Ew.P 236 = some ([.str [], .str [], .int .i64 (0)], [(0, 1), (1, 1), (2, 1)]) := by kernel_rfl
theorem Amx : mpI Ew.P 247 = some (9, .int .i64 (0), 1, false) := by kernel_rfl
theorem Tm : mpI Ew.P 248 = some (9, .bool false, 1, false) := by kernel_rfl
theorem sl253 : Ge Ew.P 253 = true := by kernel_rfl
theorem Amy : elI Ew.P 253 = some (1, 1, some [.int .u8 (0)]) := by kernel_rfl
theorem Jd : ldI Ew.P 272 = some (1, false) := by kernel_rfl
theorem E4 : ldI Ew.P 273 = some (1, false) := by kernel_rfl
theorem C1 : mpI Ew.P 273 = some (9, .bool false, 1, false) := by kernel_rfl
theorem Afb : ldI Ew.P 274 = some (1, false) := by kernel_rfl
theorem Aa1 : mpI Ew.P 274 = some (9, .str [], 1, false) := by kernel_rfl
theorem ld276 : ldI Ew.P 276 = some (5, true) := by kernel_rfl
theorem M2 : fdI Ew.P 276 0 = some (0, 1, false) := by kernel_rfl
theorem H1 : fdI Ew.P 276 1 = some (1, 1, false) := by kernel_rfl
theorem Wm : fdI Ew.P 276 2 = some (2, 1, false) := by kernel_rfl
theorem Tn : fdI Ew.P 276 3 = some (3, 1, false) := by kernel_rfl
theorem Ai0 : fdI Ew.P 276 4 = some (4, 1, false) := by kernel_rfl
theorem bd276 : bdI Ew.P 276 = some ([.nil (.map none), .nil (.map none), .nil (.map none), .nil (.map none), .nil (.map none)], [(0, 1), (1, 1), (2, 1), (3, 1), (4, 1)]) := by kernel_rfl
theorem Aa2 : mpI Ew.P 278 = some (9, .nil (.map none), 1, false) := by kernel_rfl
theorem Ap3 : arI Ew.P 280 = some (2, 1, false) := by kernel_rfl
theorem Je : ldI Ew.P 301 = some (2, true) := by kernel_rfl
theorem Ap4 : zI Ew.P 301 = some [.str [], .str []] := by kernel_rfl
theorem Gw : fdI Ew.P 301 0 = some (0, 1, false) := by kernel_rfl
theorem H2 : fdI Ew.P 301 1 = some (1, 1, false) := by kernel_rfl
theorem Amz : ldI Ew.P 307 = some (2, true) := by kernel_rfl
theorem zi307 : zI Ew.P 307 = some [.nil (.map none), .nil (.map none)] := by kernel_rfl
theorem Ai1 : fdI Ew.P 307 0 = some (0, 1, false) := by kernel_rfl
theorem Ac7 : fdI Ew.P 307 1 = some (1, 1, false) := by kernel_rfl
theorem bd307 : bdI Ew.P 307 = some ([.nil (.map none), .nil (.map none)], [(0, 1), (1, 1)]) := by kernel_rfl
theorem Ap5 : Ge Ew.P 332 = true := by kernel_rfl
theorem Ai2 : elI Ew.P 332 = some (1, 24, some [.nil (.slice none 0 0)]) := by kernel_rfl
theorem Vk : ldI Ew.P 341 = some (4, true) := by kernel_rfl
theorem zi341 : zI Ew.P 341 = some [.int .i64 (0), .str [], .nil (.slice none 0 0), .nil (.slice none 0 0)] := by kernel_rfl
theorem M3 : fdI Ew.P 341 0 = some (0, 1, false) := by kernel_rfl
theorem Ac8 : fdI Ew.P 341 1 = some (1, 1, false) := by kernel_rfl
theorem M4 : fdI Ew.P 341 2 = some (2, 1, false) := by kernel_rfl
theorem To : fdI Ew.P 341 3 = some (3, 1, false) := by kernel_rfl
theorem bd341 : bdI Ew.P 341 = some ([.int .i64 (0), .str [], .nil (.slice none 0 0), .nil (.slice none 0 0)], [(0, 1), (1, 1), (2, 1), (3, 1)]) := by kernel_rfl
theorem Am0 : Ge Ew.P 342 = true := by kernel_rfl
theorem Am1 : elI Ew.P 342 = some (4, 72, some [.int .i64 (0), .str [], .nil (.slice none 0 0), .nil (.slice none 0 0)]) := by kernel_rfl
theorem ld358 : ldI Ew.P 358 = some (256, true) := by kernel_rfl
theorem zi358 : zI Ew.P 358 = some [.int .u8 (0), .int .u8 (0), .int .u8 (0), .int .u8 (0), .int .u8 (0), .int .u8 (0), .int .u8 (0), .int .u8 (0), .int .u8 (0), .int .u8 (0), .int .u8 (0), .int .u8 (0), .int .u8 (0), .int .u8 (0), .int .u8 (0), .int .u8 (0), .int .u8 (0), .int .u8 (0), .int .u8 (0), .int .u8 (0), .int .u8 (0), .int .u8 (0), .int .u8 (0), .int .u8 (0), .int .u8 (0), .int .u8 (0), .int .u8 (0), .int .u8 (0), .int .u8 (0), .int .u8 (0), .int .u8 (0), .int .u8 (0), .int .u8 (0), .int .u8 (0), .int .u8 (0), .int .u8 (0), .int .u8 (0), .int .u8 (0), .int .u8 (0), .int .u8 (0), .int .u8 (0), .int .u8 (0), .int .u8 (0), .int .u8 (0), .int .u8 (0), .int .u8 (0), .int .u8 (0), .int .u8 (0), .int .u8 (0), .int .u8 (0), .int .u8 (0), .int .u8 (0), .int .u8 (0), .int .u8 (0), .int .u8 (0), .int .u8 (0), .int .u8 (0), .int .u8 (0), .int .u8 (0), .int .u8 (0), .int .u8 (0), .int .u8 (0), .int .u8 (0), .int .u8 (0), .int .u8 (0), .int .u8 (0), .int .u8 (0), .int .u8 (0), .int .u8 (0), .int .u8 (0), .int .u8 (0), .int .u8 (0), .int .u8 (0), .int .u8 (0), .int .u8 (0), .int .u8 (0), .int .u8 (0), .int .u8 (0), .int .u8 (0), .int .u8 (0), .int .u8 (0), .int .u8 (0), .int .u8 (0), .int .u8 (0), .int .u8 (0), .int .u8 (0), .int .u8 (0), .int .u8 (0), .int .u8 (0), .int .u8 (0), .int .u8 (0), .int .u8 (0), .int .u8 (0), .int .u8 (0), .int .u8 (0), .int .u8 (0), .int .u8 (0), .int .u8 (0), .int .u8 (0), .int .u8 (0), .int .u8 (0), .int .u8 (0), .int .u8 (0), .int .u8 (0), .int .u8 (0), .int .u8 (0), .int .u8 (0), .int .u8 (0), .int .u8 (0), .int .u8 (0), .int .u8 (0), .int .u8 (0), .int .u8 (0), .int .u8 (0), .int .u8 (0), .int .u8 (0), .int .u8 (0), .int .u8 (0), .int .u8 (0), .int .u8 (0), .int .u8 (0), .int .u8 (0), .int .u8 (0), .int .u8 (0), .int .u8 (0), .int .u8 (0), .int .u8 (0), .int .u8 (0), .int .u8 (0), .int .u8 (0), .int .u8 (0), .int .u8 (0), .int .u8 (0), .int .u8 (0), .int .u8 (0), .int .u8 (0), .int .u8 (0), .int .u8 (0), .int .u8 (0), .int .u8 (0), .int .u8 (0), .int .u8 (0), .int .u8 (0), .int .u8 (0), .int .u8 (0), .int .u8 (0), .int .u8 (0), .int .u8 (0), .int .u8 (0), .int .u8 (0), .int .u8 (0), .int .u8 (0), .int .u8 (0), .int .u8 (0), .int .u8 (0), .int .u8 (0), .int .u8 (0), .int .u8 (0), .int .u8 (0), .int .u8 (0), .int .u8 (0), .int .u8 (0), .int .u8 (0), .int .u8 (0), .int .u8 (0), .int .u8 (0), .int .u8 (0), .int .u8 (0), .int .u8 (0), .int .u8 (0), .int .u8 (0), .int .u8 (0), .int .u8 (0), .int .u8 (0), .int .u8 (0), .int .u8 (0), .int .u8 (0), .int .u8 (0), .int .u8 (0), .int .u8 (0), .int .u8 (0), .int .u8 (0), .int .u8 (0), .int .u8 (0), .int .u8 (0), .int .u8 (0), .int .u8 (0), .int .u8 (0), .int .u8 (0), .int .u8 (0), .int .u8 (0), .int .u8 (0), .int .u8 (0), .int .u8 (0), .int .u8 (0), .int .u8 (0), .int .u8 (0), .int .u8 (0), .int .u8 (0), .int .u8 (0), .int .u8 (0), .int .u8 (0), .int .u8 (0), .int .u8 (0), .int .u8 (0), .int .u8 (0), .int .u8 (0), .int .u8 (0), .int .u8 (0), .int .u8 (0), .int .u8 (0), .int .u8 (0), .int .u8 (0), .int .u8 (0), .int .u8 (0), .int .u8 (0), .int .u8 (0), .int .u8 (0), .int .u8 (0), .int .u8 (0), .int .u8 (0), .int .u8 (0), .int .u8 (0), .int .u8 (0), .int .u8 (0), .int .u8 (0), .int .u8 (0), .int .u8 (0), .int .u8 (0), .int .u8 (0), .int .u8 (0), .int .u8 (0), .int .u8 (0), .int .u8 (0), .int .u8 (0), .int .u8 (0), .int .u8 (0), .int .u8 (0), .int .u8 (0), .int .u8 (0), .int .u8 (0), .int .u8 (0), .int .u8 (0), .int .u8 (0), .int .u8 (0), .int .u8 (0), .int .u8 (0), .int .u8 (0), .int .u8 (0), .int .u8 (0), .int .u8 (0), .int .u8 (0), .int .u8 (0), .int .u8 (0), .int .u8 (0), .int .u8 (0)] := by kernel_rfl
theorem ar358 : arI Ew.P 358 = some (256, 1, false) := by kernel_rfl
theorem Ai3 : ldI Ew.P 377 = some (4, true) := by kernel_rfl
theorem Ap6 : zI Ew.P 377 = some [.str [], .bool false, .int .i64 (0), .int .i64 (0)] := by kernel_rfl
theorem Ao8 : fdI Ew.P 377 0 = some (0, 1, false) := by kernel_rfl
theorem Ac9 : fdI Ew.P 377 1 = some (1, 1, false) := by kernel_rfl
theorem Ao9 : fdI Ew.P 377 2 = some (2, 1, false) := by kernel_rfl
theorem Ai4 : fdI Ew.P 377 3 = some (3, 1, false) := by kernel_rfl
theorem Ap7 : arI Ew.P 378 = some (10, 4, true) := by kernel_rfl
theorem f96 (p : Fr -> Bool) (l : List Fr) (k : Nat) (cap : List AV) (σ : Sto) (hb : l.length < 4611686018427387904) (hk : ∀ a ∈ l, Ah Ew k ([.agg (eF a)] ++ cap) σ fun v σ' => v = .bool (p a) /\ σ' = σ) :
  Ah Ew 96 [slV eF 8 l, .fn (.func k) [] cap] σ fun v σ' => v = iV (Bk p l 0) /\ σ' = σ := by
 refine A2 Tryz.func96 rfl rfl fun hw hu => ?_
 refine Ad (Aa (OA rfl (Ab (Ad (Ad (Aa (OM rfl ?_)))))));refine O1 (As Ag9 rfl) (OM rfl (Ab (Am ?_)));refine Cg l.length (fun i => [(0, slV eF 8 l), (1, .fn (.func k) [] cap), (7, iV (.ofNat l.length)), (8, iV (.ofNat i))]) (fun i σ' => σ' = σ /\ Bk p l 0 = Bk p (l.drop i) i) ⟨rfl, rfl, rfl, rfl, trivial⟩ ⟨rfl, rfl⟩ ?_
 rintro i σ' hi ⟨rfl, hf⟩;refine Ad (Aa (O1 (Bb ok3 rfl rfl) (Ab (Ad ?_))));refine Ai rfl (fun h => ?_) (fun h => ?_)
 ·have hlt : i < l.length := by simpa using h
  obtain ⟨a, ha⟩ : ∃ a, l[i]? = some a := ⟨_, List.getElem?_eq_getElem hlt⟩
  have hd : l.drop i = a :: l.drop (i + 1) := by
   obtain ⟨h1, rfl⟩ := List.getElem?_eq_some_iff.1 ha;exact List.drop_eq_getElem_cons h1
  refine Aj (Ad (Am (Ad (Aa (OM rfl (OA rfl (Ab ?_)))))));refine Ad (Aa (OM rfl (OM rfl (OM rfl (O1 (A3 el23 (fun _ => rfl) rfl rfl ha) ?_)))))
  refine O1 (Ae Oe rfl rfl (Cb ((fun _ => rfl : ∀ a, (eF a).length = 8) a) _)) ?_
  refine Cu rfl rfl rfl rfl (hk a (List.mem_of_getElem? ha)) ?_;rintro _ _ ⟨rfl, rfl⟩;refine Ab ?_;refine Ai rfl (fun h' => ?_) (fun h' => ?_)
  ·refine Ad (Aa (OM rfl (OA rfl (Ab ?_))));refine Ak ?_;refine ⟨_, rfl, iV (.ofNat i), _, Aw.of_same hw nl (fun _ _ => rfl), nl, .same rfl, ?_, rfl⟩
   rw [hf, hd]; simp only [Bk, h', cond_true]
  ·refine Aj (Aa (O1 (A1 (p := i) (q := 1) ok3 rfl rfl (by omega)) ?_))
   refine OM rfl (Ab ?_);refine ⟨hlt, ⟨rfl, rfl, rfl, rfl, trivial⟩, rfl, ?_⟩;rw [hf, hd]; simp only [Bk, h', cond_false]
 ·have hge : l.length <= i := by simpa using h
  refine Bf ?_;refine Ad (Aa (OA rfl (Ab ?_)));refine Ak ?_;refine ⟨_, rfl, iV (-1), _, Aw.of_same hw nl (fun _ _ => rfl), nl, .same rfl, ?_, rfl⟩
  rw [hf, List.drop_eq_nil_of_le hge]; rfl
theorem f41 (p : Fr -> Bool) (l : List Fr) (k : Nat) (cap : List AV) (σ : Sto) (hb : l.length < 4611686018427387904) (hk : ∀ a ∈ l, Ah Ew k ([.agg (eF a)] ++ cap) σ fun v σ' => v = .bool (p a) /\ σ' = σ) :
  Ah Ew 41 [slV eF 8 l, .fn (.func k) [] cap] σ fun v σ' => v = .bool (l.any p) /\ σ' = σ := by
 refine A2 Tryz.func41 rfl rfl fun hw _ => ?_
 refine Ad (Aa (OA rfl (Ab (Ad (Aa (OM rfl (OM rfl ?_)))))));refine Cu rfl rfl rfl rfl (f96 p l k cap σ hb hk) ?_;rintro _ _ ⟨rfl, rfl⟩;refine O1 (Gi ok3 rfl rfl) (OA rfl (Ab ?_));refine Ak (Bw hw rfl ?_);exact congrArg AV.bool (E1 l)
theorem f97 (p : Hp -> Bool) (l : List Hp) (k : Nat) (cap : List AV) (σ : Sto) (hb : l.length < 4611686018427387904) (hk : ∀ a ∈ l, Ah Ew k ([.agg (eH a)] ++ cap) σ fun v σ' => v = .bool (p a) /\ σ' = σ) :
  Ah Ew 97 [slV eH 3 l, .fn (.func k) [] cap] σ fun v σ' => v = iV (Bk p l 0) /\ σ' = σ := by
 refine A2 Tryz.func97 rfl rfl fun hw hu => ?_
 refine Ad (Aa (OA rfl (Ab (Ad (Ad (Aa (OM rfl ?_)))))));refine O1 (As Fs rfl) (OM rfl (Ab (Am ?_)));refine Cg l.length (fun i => [(0, slV eH 3 l), (1, .fn (.func k) [] cap), (7, iV (.ofNat l.length)), (8, iV (.ofNat i))]) (fun i σ' => σ' = σ /\ Bk p l 0 = Bk p (l.drop i) i) ⟨rfl, rfl, rfl, rfl, trivial⟩ ⟨rfl, rfl⟩ ?_
 rintro i σ' hi ⟨rfl, hf⟩;refine Ad (Aa (O1 (Bb ok3 rfl rfl) (Ab (Ad ?_))));refine Ai rfl (fun h => ?_) (fun h => ?_)
 ·have hlt : i < l.length := by simpa using h
  obtain ⟨a, ha⟩ : ∃ a, l[i]? = some a := ⟨_, List.getElem?_eq_getElem hlt⟩
  have hd : l.drop i = a :: l.drop (i + 1) := by
   obtain ⟨h1, rfl⟩ := List.getElem?_eq_some_iff.1 ha;exact List.drop_eq_getElem_cons h1
  refine Aj (Ad (Am (Ad (Aa (OM rfl (OA rfl (Ab ?_)))))));refine Ad (Aa (OM rfl (OM rfl (OM rfl (O1 (A3 H0 (fun _ => rfl) rfl rfl ha) ?_)))))
  refine O1 (Ae Dy rfl rfl (Cb ((fun _ => rfl : ∀ a, (eH a).length = 3) a) _)) ?_
  refine Cu rfl rfl rfl rfl (hk a (List.mem_of_getElem? ha)) ?_;rintro _ _ ⟨rfl, rfl⟩;refine Ab ?_;refine Ai rfl (fun h' => ?_) (fun h' => ?_)
  ·refine Ad (Aa (OM rfl (OA rfl (Ab ?_))));refine Ak ?_;refine ⟨_, rfl, iV (.ofNat i), _, Aw.of_same hw nl (fun _ _ => rfl), nl, .same rfl, ?_, rfl⟩
   rw [hf, hd]; simp only [Bk, h', cond_true]
  ·refine Aj (Aa (O1 (A1 (p := i) (q := 1) ok3 rfl rfl (by omega)) ?_))
   refine OM rfl (Ab ?_);refine ⟨hlt, ⟨rfl, rfl, rfl, rfl, trivial⟩, rfl, ?_⟩;rw [hf, hd]; simp only [Bk, h', cond_false]
 ·have hge : l.length <= i := by simpa using h
  refine Bf ?_;refine Ad (Aa (OA rfl (Ab ?_)));refine Ak ?_;refine ⟨_, rfl, iV (-1), _, Aw.of_same hw nl (fun _ _ => rfl), nl, .same rfl, ?_, rfl⟩
  rw [hf, List.drop_eq_nil_of_le hge]; rfl
theorem f44 (p : Hp -> Bool) (l : List Hp) (k : Nat) (cap : List AV) (σ : Sto) (hb : l.length < 4611686018427387904) (hk : ∀ a ∈ l, Ah Ew k ([.agg (eH a)] ++ cap) σ fun v σ' => v = .bool (p a) /\ σ' = σ) :
  Ah Ew 44 [slV eH 3 l, .fn (.func k) [] cap] σ fun v σ' => v = .bool (l.any p) /\ σ' = σ := by
 refine A2 Tryz.func44 rfl rfl fun hw _ => ?_
 refine Ad (Aa (OA rfl (Ab (Ad (Aa (OM rfl (OM rfl ?_)))))));refine Cu rfl rfl rfl rfl (f97 p l k cap σ hb hk) ?_;rintro _ _ ⟨rfl, rfl⟩;refine O1 (Gi ok3 rfl rfl) (OA rfl (Ab ?_));refine Ak (Bw hw rfl ?_);exact congrArg AV.bool (E1 l)
theorem f79 (p : Str -> Bool) (l : List Str) (k : Nat) (cap : List AV) (σ : Sto) (hb : l.length < 4611686018427387904) (hk : ∀ a ∈ l, Ah Ew k ([sV a] ++ cap) σ fun v σ' => v = .bool (p a) /\ σ' = σ) :
  Ah Ew 79 [slV (fun s => [sV s]) 1 l, .fn (.func k) [] cap] σ fun v σ' => v = iV (Bk p l 0) /\ σ' = σ := by
 refine A2 Tryz.func79 rfl rfl fun hw hu => ?_
 refine Ad (Aa (OA rfl (Ab (Ad (Ad (Aa (OM rfl ?_)))))));refine O1 (As D0 rfl) (OM rfl (Ab (Am ?_)));refine Cg l.length (fun i => [(0, slV (fun s => [sV s]) 1 l), (1, .fn (.func k) [] cap), (7, iV (.ofNat l.length)), (8, iV (.ofNat i))]) (fun i σ' => σ' = σ /\ Bk p l 0 = Bk p (l.drop i) i) ⟨rfl, rfl, rfl, rfl, trivial⟩ ⟨rfl, rfl⟩ ?_
 rintro i σ' hi ⟨rfl, hf⟩;refine Ad (Aa (O1 (Bb ok3 rfl rfl) (Ab (Ad ?_))));refine Ai rfl (fun h => ?_) (fun h => ?_)
 ·have hlt : i < l.length := by simpa using h
  obtain ⟨a, ha⟩ : ∃ a, l[i]? = some a := ⟨_, List.getElem?_eq_getElem hlt⟩
  have hd : l.drop i = a :: l.drop (i + 1) := by
   obtain ⟨h1, rfl⟩ := List.getElem?_eq_some_iff.1 ha;exact List.drop_eq_getElem_cons h1
  refine Aj (Ad (Am (Ad (Aa (OM rfl (OA rfl (Ab ?_)))))));refine Ad (Aa (OM rfl (OM rfl (OM rfl (O1 (A3 C5 (fun _ => rfl) rfl rfl ha) ?_)))))
  refine O1 (Ae ld9 rfl rfl rfl) (Cu rfl rfl rfl rfl (hk a (List.mem_of_getElem? ha)) ?_);rintro _ _ ⟨rfl, rfl⟩;refine Ab ?_;refine Ai rfl (fun h' => ?_) (fun h' => ?_)
  ·refine Ad (Aa (OM rfl (OA rfl (Ab ?_))));refine Ak ?_;refine ⟨_, rfl, iV (.ofNat i), _, Aw.of_same hw nl (fun _ _ => rfl), nl, .same rfl, ?_, rfl⟩
   rw [hf, hd]; simp only [Bk, h', cond_true]
  ·refine Aj (Aa (O1 (A1 (p := i) (q := 1) ok3 rfl rfl (by omega)) ?_))
   refine OM rfl (Ab ?_);refine ⟨hlt, ⟨rfl, rfl, rfl, rfl, trivial⟩, rfl, ?_⟩;rw [hf, hd]; simp only [Bk, h', cond_false]
 ·have hge : l.length <= i := by simpa using h
  refine Bf ?_;refine Ad (Aa (OA rfl (Ab ?_)));refine Ak ?_;refine ⟨_, rfl, iV (-1), _, Aw.of_same hw nl (fun _ _ => rfl), nl, .same rfl, ?_, rfl⟩
  rw [hf, List.drop_eq_nil_of_le hge]; rfl
theorem f31 (p : Str -> Bool) (l : List Str) (k : Nat) (cap : List AV) (σ : Sto) (hb : l.length < 4611686018427387904) (hk : ∀ a ∈ l, Ah Ew k ([sV a] ++ cap) σ fun v σ' => v = .bool (p a) /\ σ' = σ) :
  Ah Ew 31 [slV (fun s => [sV s]) 1 l, .fn (.func k) [] cap] σ fun v σ' => v = .bool (l.any p) /\ σ' = σ := by
 refine A2 Tryz.func31 rfl rfl fun hw _ => ?_
 refine Ad (Aa (OA rfl (Ab (Ad (Aa (OM rfl (OM rfl ?_)))))));refine Cu rfl rfl rfl rfl (f79 p l k cap σ hb hk) ?_;rintro _ _ ⟨rfl, rfl⟩;refine O1 (Gi ok3 rfl rfl) (OA rfl (Ab ?_));refine Ak (Bw hw rfl ?_);exact congrArg AV.bool (E1 l)
theorem f64 (p : Sb -> Bool) (l : List Sb) (k : Nat) (cap : List AV) (σ : Sto) (hb : l.length < 4611686018427387904) (hk : ∀ a ∈ l, Ah Ew k ([.agg (eS a)] ++ cap) σ fun v σ' => v = .bool (p a) /\ σ' = σ) :
  Ah Ew 64 [slV eS 3 l, .fn (.func k) [] cap] σ fun v σ' => v = iV (Bk p l 0) /\ σ' = σ := by
 refine A2 Tryz.func64 rfl rfl fun hw hu => ?_
 refine Ad (Aa (OA rfl (Ab (Ad (Ad (Aa (OM rfl ?_)))))));refine O1 (As sl32 rfl) (OM rfl (Ab (Am ?_)));refine Cg l.length (fun i => [(0, slV eS 3 l), (1, .fn (.func k) [] cap), (7, iV (.ofNat l.length)), (8, iV (.ofNat i))]) (fun i σ' => σ' = σ /\ Bk p l 0 = Bk p (l.drop i) i) ⟨rfl, rfl, rfl, rfl, trivial⟩ ⟨rfl, rfl⟩ ?_
 rintro i σ' hi ⟨rfl, hf⟩;refine Ad (Aa (O1 (Bb ok3 rfl rfl) (Ab (Ad ?_))));refine Ai rfl (fun h => ?_) (fun h => ?_)
 ·have hlt : i < l.length := by simpa using h
  obtain ⟨a, ha⟩ : ∃ a, l[i]? = some a := ⟨_, List.getElem?_eq_getElem hlt⟩
  have hd : l.drop i = a :: l.drop (i + 1) := by
   obtain ⟨h1, rfl⟩ := List.getElem?_eq_some_iff.1 ha;exact List.drop_eq_getElem_cons h1
  refine Aj (Ad (Am (Ad (Aa (OM rfl (OA rfl (Ab ?_)))))));refine Ad (Aa (OM rfl (OM rfl (OM rfl (O1 (A3 Akq (eS_len) rfl rfl ha) (O1 (Ae Amo rfl rfl (Cb ((eS_len : ∀ a, (eS a).length = 3) a) _)) (Cu rfl rfl rfl rfl (hk a (List.mem_of_getElem? ha)) ?_)))))));rintro _ _ ⟨rfl, rfl⟩;refine Ab ?_;refine Ai rfl (fun h' => ?_) (fun h' => ?_)
  ·refine Ad (Aa (OM rfl (OA rfl (Ab ?_))));refine Ak ?_;refine ⟨_, rfl, iV (.ofNat i), _, Aw.of_same hw nl (fun _ _ => rfl), nl, .same rfl, ?_, rfl⟩
   rw [hf, hd]; simp only [Bk, h', cond_true]
  ·refine Aj (Aa (O1 (A1 (p := i) (q := 1) ok3 rfl rfl (by omega)) ?_))
   refine OM rfl (Ab ?_);refine ⟨hlt, ⟨rfl, rfl, rfl, rfl, trivial⟩, rfl, ?_⟩;rw [hf, hd]; simp only [Bk, h', cond_false]
 ·have hge : l.length <= i := by simpa using h
  refine Bf ?_;refine Ad (Aa (OA rfl (Ab ?_)));refine Ak ?_;refine ⟨_, rfl, iV (-1), _, Aw.of_same hw nl (fun _ _ => rfl), nl, .same rfl, ?_, rfl⟩
  rw [hf, List.drop_eq_nil_of_le hge]; rfl
theorem f16 (p : Sb -> Bool) (l : List Sb) (k : Nat) (cap : List AV) (σ : Sto) (hb : l.length < 4611686018427387904) (hk : ∀ a ∈ l, Ah Ew k ([.agg (eS a)] ++ cap) σ fun v σ' => v = .bool (p a) /\ σ' = σ) :
  Ah Ew 16 [slV eS 3 l, .fn (.func k) [] cap] σ fun v σ' => v = .bool (l.any p) /\ σ' = σ := by
 refine A2 Tryz.func16 rfl rfl fun hw _ => ?_
 refine Ad (Aa (OA rfl (Ab (Ad (Aa (OM rfl (OM rfl ?_)))))));refine Cu rfl rfl rfl rfl (f64 p l k cap σ hb hk) ?_;rintro _ _ ⟨rfl, rfl⟩;refine O1 (Gi ok3 rfl rfl) (OA rfl (Ab ?_));refine Ak (Bw hw rfl ?_);exact congrArg AV.bool (E1 l)
theorem f76 (p : Ay -> Bool) (l : List Ay) (k : Nat) (cap : List AV) (σ : Sto) (hb : l.length < 4611686018427387904) (hk : ∀ a ∈ l, Ah Ew k ([A4 a] ++ cap) σ fun v σ' => v = .bool (p a) /\ σ' = σ) :
  Ah Ew 76 [slV eT 2 l, .fn (.func k) [] cap] σ fun v σ' => v = iV (Bk p l 0) /\ σ' = σ := by
 refine A2 Tryz.func76 rfl rfl fun hw hu => ?_
 refine Ad (Aa (OA rfl (Ab (Ad (Ad (Aa (OM rfl ?_)))))));refine O1 (As Kj rfl) (OM rfl (Ab (Am ?_)));refine Cg l.length (fun i => [(0, slV eT 2 l), (1, .fn (.func k) [] cap), (7, iV (.ofNat l.length)), (8, iV (.ofNat i))]) (fun i σ' => σ' = σ /\ Bk p l 0 = Bk p (l.drop i) i) ⟨rfl, rfl, rfl, rfl, trivial⟩ ⟨rfl, rfl⟩ ?_
 rintro i σ' hi ⟨rfl, hf⟩;refine Ad (Aa (O1 (Bb ok3 rfl rfl) (Ab (Ad ?_))));refine Ai rfl (fun h => ?_) (fun h => ?_)
 ·have hlt : i < l.length := by simpa using h
  obtain ⟨a, ha⟩ : ∃ a, l[i]? = some a := ⟨_, List.getElem?_eq_getElem hlt⟩
  have hd : l.drop i = a :: l.drop (i + 1) := by
   obtain ⟨h1, rfl⟩ := List.getElem?_eq_some_iff.1 ha;exact List.drop_eq_getElem_cons h1
  refine Aj (Ad (Am (Ad (Aa (OM rfl (OA rfl (Ab ?_)))))));refine Ad (Aa (OM rfl (OM rfl (OM rfl (O1 (A3 L5 (eT_len) rfl rfl ha) (O1 (Ae Bq rfl rfl (Cb ((eT_len : ∀ a, (eT a).length = 2) a) _)) (Cu rfl rfl rfl rfl (hk a (List.mem_of_getElem? ha)) ?_)))))));rintro _ _ ⟨rfl, rfl⟩;refine Ab ?_;refine Ai rfl (fun h' => ?_) (fun h' => ?_)
  ·refine Ad (Aa (OM rfl (OA rfl (Ab ?_))));refine Ak ?_;refine ⟨_, rfl, iV (.ofNat i), _, Aw.of_same hw nl (fun _ _ => rfl), nl, .same rfl, ?_, rfl⟩
   rw [hf, hd]; simp only [Bk, h', cond_true]
  ·refine Aj (Aa (O1 (A1 (p := i) (q := 1) ok3 rfl rfl (by omega)) ?_))
   refine OM rfl (Ab ?_);refine ⟨hlt, ⟨rfl, rfl, rfl, rfl, trivial⟩, rfl, ?_⟩;rw [hf, hd]; simp only [Bk, h', cond_false]
 ·have hge : l.length <= i := by simpa using h
  refine Bf ?_;refine Ad (Aa (OA rfl (Ab ?_)));refine Ak ?_;refine ⟨_, rfl, iV (-1), _, Aw.of_same hw nl (fun _ _ => rfl), nl, .same rfl, ?_, rfl⟩
  rw [hf, List.drop_eq_nil_of_le hge]; rfl
theorem f27 (p : Ay -> Bool) (l : List Ay) (k : Nat) (cap : List AV) (σ : Sto) (hb : l.length < 4611686018427387904) (hk : ∀ a ∈ l, Ah Ew k ([A4 a] ++ cap) σ fun v σ' => v = .bool (p a) /\ σ' = σ) :
  Ah Ew 27 [slV eT 2 l, .fn (.func k) [] cap] σ fun v σ' => v = .bool (l.any p) /\ σ' = σ := by
 refine A2 Tryz.func27 rfl rfl fun hw _ => ?_
 refine Ad (Aa (OA rfl (Ab (Ad (Aa (OM rfl (OM rfl ?_)))))));refine Cu rfl rfl rfl rfl (f76 p l k cap σ hb hk) ?_;rintro _ _ ⟨rfl, rfl⟩;refine O1 (Gi ok3 rfl rfl) (OA rfl (Ab ?_));refine Ak (Bw hw rfl ?_);exact congrArg AV.bool (E1 l)
theorem f188 (p : Rl -> Bool) (l : List Rl) (k : Nat) (cap : List AV) (σ : Sto) (hb : l.length < 4611686018427387904) (hk : ∀ a ∈ l, Ah Ew k ([.agg (eR a)] ++ cap) σ fun v σ' => v = .bool (p a) /\ σ' = σ) :
  Ah Ew 188 [slV eR 4 l, .fn (.func k) [] cap] σ fun v σ' => v = iV (Bk p l 0) /\ σ' = σ := by
 refine A2 Tryz.func188 rfl rfl fun hw hu => ?_
 refine Ad (Aa (OA rfl (Ab (Ad (Ad (Aa (OM rfl ?_)))))));refine O1 (As Ahc rfl) (OM rfl (Ab (Am ?_)));refine Cg l.length (fun i => [(0, slV eR 4 l), (1, .fn (.func k) [] cap), (7, iV (.ofNat l.length)), (8, iV (.ofNat i))]) (fun i σ' => σ' = σ /\ Bk p l 0 = Bk p (l.drop i) i) ⟨rfl, rfl, rfl, rfl, trivial⟩ ⟨rfl, rfl⟩ ?_
 rintro i σ' hi ⟨rfl, hf⟩;refine Ad (Aa (O1 (Bb ok3 rfl rfl) (Ab (Ad ?_))));refine Ai rfl (fun h => ?_) (fun h => ?_)
 ·have hlt : i < l.length := by simpa using h
  obtain ⟨a, ha⟩ : ∃ a, l[i]? = some a := ⟨_, List.getElem?_eq_getElem hlt⟩
  have hd : l.drop i = a :: l.drop (i + 1) := by
   obtain ⟨h1, rfl⟩ := List.getElem?_eq_some_iff.1 ha;exact List.drop_eq_getElem_cons h1
  refine Aj (Ad (Am (Ad (Aa (OM rfl (OA rfl (Ab ?_)))))));refine Ad (Aa (OM rfl (OM rfl (OM rfl (O1 (A3 Ac5 (fun _ => rfl) rfl rfl ha) ?_)))))
  refine O1 (Ae F6 rfl rfl (Cb ((fun _ => rfl : ∀ a, (eR a).length = 4) a) _)) ?_
  refine Cu rfl rfl rfl rfl (hk a (List.mem_of_getElem? ha)) ?_;rintro _ _ ⟨rfl, rfl⟩;refine Ab ?_;refine Ai rfl (fun h' => ?_) (fun h' => ?_)
  ·refine Ad (Aa (OM rfl (OA rfl (Ab ?_))));refine Ak ?_;refine ⟨_, rfl, iV (.ofNat i), _, Aw.of_same hw nl (fun _ _ => rfl), nl, .same rfl, ?_, rfl⟩
   rw [hf, hd]; simp only [Bk, h', cond_true]
  ·refine Aj (Aa (O1 (A1 (p := i) (q := 1) ok3 rfl rfl (by omega)) ?_))
   refine OM rfl (Ab ?_);refine ⟨hlt, ⟨rfl, rfl, rfl, rfl, trivial⟩, rfl, ?_⟩;rw [hf, hd]; simp only [Bk, h', cond_false]
 ·have hge : l.length <= i := by simpa using h
  refine Bf ?_;refine Ad (Aa (OA rfl (Ab ?_)));refine Ak ?_;refine ⟨_, rfl, iV (-1), _, Aw.of_same hw nl (fun _ _ => rfl), nl, .same rfl, ?_, rfl⟩
  rw [hf, List.drop_eq_nil_of_le hge]; rfl
theorem f155 (p : Rl -> Bool) (l : List Rl) (k : Nat) (cap : List AV) (σ : Sto) (hb : l.length < 4611686018427387904) (hk : ∀ a ∈ l, Ah Ew k ([.agg (eR a)] ++ cap) σ fun v σ' => v = .bool (p a) /\ σ' = σ) :
  Ah Ew 155 [slV eR 4 l, .fn (.func k) [] cap] σ fun v σ' => v = .bool (l.any p) /\ σ' = σ := by
 refine A2 Tryz.func155 rfl rfl fun hw _ => ?_
 refine Ad (Aa (OA rfl (Ab (Ad (Aa (OM rfl (OM rfl ?_)))))));refine Cu rfl rfl rfl rfl (f188 p l k cap σ hb hk) ?_;rintro _ _ ⟨rfl, rfl⟩;refine O1 (Gi ok3 rfl rfl) (OA rfl (Ab ?_));refine Ak (Bw hw rfl ?_);exact congrArg AV.bool (E1 l)
theorem f224 (p : Pt -> Bool) (l : List Pt) (k : Nat) (cap : List AV) (σ : Sto) (hb : l.length < 4611686018427387904) (hk : ∀ a ∈ l, Ah Ew k ([.agg (ePt a)] ++ cap) σ fun v σ' => v = .bool (p a) /\ σ' = σ) :
  Ah Ew 224 [slV ePt 3 l, .fn (.func k) [] cap] σ fun v σ' => v = iV (Bk p l 0) /\ σ' = σ := by
 refine A2 Tryz.func224 rfl rfl fun hw hu => ?_
 refine Ad (Aa (OA rfl (Ab (Ad (Ad (Aa (OM rfl ?_)))))));refine O1 (As Qq rfl) (OM rfl (Ab (Am ?_)));refine Cg l.length (fun i => [(0, slV ePt 3 l), (1, .fn (.func k) [] cap), (7, iV (.ofNat l.length)), (8, iV (.ofNat i))]) (fun i σ' => σ' = σ /\ Bk p l 0 = Bk p (l.drop i) i) ⟨rfl, rfl, rfl, rfl, trivial⟩ ⟨rfl, rfl⟩ ?_
 rintro i σ' hi ⟨rfl, hf⟩;refine Ad (Aa (O1 (Bb ok3 rfl rfl) (Ab (Ad ?_))));refine Ai rfl (fun h => ?_) (fun h => ?_)
 ·have hlt : i < l.length := by simpa using h
  obtain ⟨a, ha⟩ : ∃ a, l[i]? = some a := ⟨_, List.getElem?_eq_getElem hlt⟩
  have hd : l.drop i = a :: l.drop (i + 1) := by
   obtain ⟨h1, rfl⟩ := List.getElem?_eq_some_iff.1 ha;exact List.drop_eq_getElem_cons h1
  refine Aj (Ad (Am (Ad (Aa (OM rfl (OA rfl (Ab ?_)))))));refine Ad (Aa (OM rfl (OM rfl (OM rfl (O1 (A3 Nh (fun _ => rfl) rfl rfl ha) ?_)))))
  refine O1 (Ae Jc rfl rfl (Cb ((fun _ => rfl : ∀ a, (ePt a).length = 3) a) _)) ?_
  refine Cu rfl rfl rfl rfl (hk a (List.mem_of_getElem? ha)) ?_;rintro _ _ ⟨rfl, rfl⟩;refine Ab ?_;refine Ai rfl (fun h' => ?_) (fun h' => ?_)
  ·refine Ad (Aa (OM rfl (OA rfl (Ab ?_))));refine Ak ?_;refine ⟨_, rfl, iV (.ofNat i), _, Aw.of_same hw nl (fun _ _ => rfl), nl, .same rfl, ?_, rfl⟩
   rw [hf, hd]; simp only [Bk, h', cond_true]
  ·refine Aj (Aa (O1 (A1 (p := i) (q := 1) ok3 rfl rfl (by omega)) ?_))
   refine OM rfl (Ab ?_);refine ⟨hlt, ⟨rfl, rfl, rfl, rfl, trivial⟩, rfl, ?_⟩;rw [hf, hd]; simp only [Bk, h', cond_false]
 ·have hge : l.length <= i := by simpa using h
  refine Bf ?_;refine Ad (Aa (OA rfl (Ab ?_)));refine Ak ?_;refine ⟨_, rfl, iV (-1), _, Aw.of_same hw nl (fun _ _ => rfl), nl, .same rfl, ?_, rfl⟩
  rw [hf, List.drop_eq_nil_of_le hge]; rfl
theorem f189 (p : Pt -> Bool) (l : List Pt) (k : Nat) (cap : List AV) (σ : Sto) (hb : l.length < 4611686018427387904) (hk : ∀ a ∈ l, Ah Ew k ([.agg (ePt a)] ++ cap) σ fun v σ' => v = .bool (p a) /\ σ' = σ) :
  Ah Ew 189 [slV ePt 3 l, .fn (.func k) [] cap] σ fun v σ' => v = .bool (l.any p) /\ σ' = σ := by
 refine A2 Tryz.func189 rfl rfl fun hw _ => ?_
 refine Ad (Aa (OA rfl (Ab (Ad (Aa (OM rfl (OM rfl ?_)))))));refine Cu rfl rfl rfl rfl (f224 p l k cap σ hb hk) ?_;rintro _ _ ⟨rfl, rfl⟩;refine O1 (Gi ok3 rfl rfl) (OA rfl (Ab ?_));refine Ak (Bw hw rfl ?_);exact congrArg AV.bool (E1 l)
theorem f281 (p : Pr -> Bool) (l : List Pr) (k : Nat) (cap : List AV) (σ : Sto) (hb : l.length < 4611686018427387904) (hk : ∀ a ∈ l, Ah Ew k ([.agg (eP a)] ++ cap) σ fun v σ' => v = .bool (p a) /\ σ' = σ) :
  Ah Ew 281 [slV eP 2 l, .fn (.func k) [] cap] σ fun v σ' => v = iV (Bk p l 0) /\ σ' = σ := by
 refine A2 Tryz.func281 rfl rfl fun hw hu => ?_
 refine Ad (Aa (OA rfl (Ab (Ad (Ad (Aa (OM rfl ?_)))))));refine O1 (As Yq rfl) (OM rfl (Ab (Am ?_)));refine Cg l.length (fun i => [(0, slV eP 2 l), (1, .fn (.func k) [] cap), (7, iV (.ofNat l.length)), (8, iV (.ofNat i))]) (fun i σ' => σ' = σ /\ Bk p l 0 = Bk p (l.drop i) i) ⟨rfl, rfl, rfl, rfl, trivial⟩ ⟨rfl, rfl⟩ ?_
 rintro i σ' hi ⟨rfl, hf⟩;refine Ad (Aa (O1 (Bb ok3 rfl rfl) (Ab (Ad ?_))));refine Ai rfl (fun h => ?_) (fun h => ?_)
 ·have hlt : i < l.length := by simpa using h
  obtain ⟨a, ha⟩ : ∃ a, l[i]? = some a := ⟨_, List.getElem?_eq_getElem hlt⟩
  have hd : l.drop i = a :: l.drop (i + 1) := by
   obtain ⟨h1, rfl⟩ := List.getElem?_eq_some_iff.1 ha;exact List.drop_eq_getElem_cons h1
  refine Aj (Ad (Am (Ad (Aa (OM rfl (OA rfl (Ab ?_)))))));refine Ad (Aa (OM rfl (OM rfl (OM rfl (O1 (A3 Uj (fun _ => rfl) rfl rfl ha) ?_)))))
  refine O1 (Ae Je rfl rfl (Cb ((fun _ => rfl : ∀ a, (eP a).length = 2) a) _)) ?_
  refine Cu rfl rfl rfl rfl (hk a (List.mem_of_getElem? ha)) ?_;rintro _ _ ⟨rfl, rfl⟩;refine Ab ?_;refine Ai rfl (fun h' => ?_) (fun h' => ?_)
  ·refine Ad (Aa (OM rfl (OA rfl (Ab ?_))));refine Ak ?_;refine ⟨_, rfl, iV (.ofNat i), _, Aw.of_same hw nl (fun _ _ => rfl), nl, .same rfl, ?_, rfl⟩
   rw [hf, hd]; simp only [Bk, h', cond_true]
  ·refine Aj (Aa (O1 (A1 (p := i) (q := 1) ok3 rfl rfl (by omega)) ?_))
   refine OM rfl (Ab ?_);refine ⟨hlt, ⟨rfl, rfl, rfl, rfl, trivial⟩, rfl, ?_⟩;rw [hf, hd]; simp only [Bk, h', cond_false]
 ·have hge : l.length <= i := by simpa using h
  refine Bf ?_;refine Ad (Aa (OA rfl (Ab ?_)));refine Ak ?_;refine ⟨_, rfl, iV (-1), _, Aw.of_same hw nl (fun _ _ => rfl), nl, .same rfl, ?_, rfl⟩
  rw [hf, List.drop_eq_nil_of_le hge]; rfl
end Go.AM
