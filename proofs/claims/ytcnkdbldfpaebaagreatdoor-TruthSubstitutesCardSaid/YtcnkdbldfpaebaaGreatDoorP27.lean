/- A part of the proof; shortened by program. -/
import Derived.Test.YtcnkdbldfpaebaaGreatDoorP26
set_option maxRecDepth 100000
set_option maxHeartbeats 4000000
set_option linter.unusedSimpArgs false
set_option linter.unusedVariables false
namespace Go.AM
open Go Go.Proofs
theorem Adc {l : List Vl} {s : Str} : (A7 (fun x => decide (x.var = s)) l 0 = -1 /\ It l s = none) ∨ ∃ n x,A7 (fun x => decide (x.var = s)) l 0 = Int.ofNat n /\ l[n]? = some x /\ It l s = some x.val := by
 have key : ∀ (l : List Vl) (i : Nat),(A7 (fun r => decide (r.var = s)) l i = -1 /\ It l s = none) ∨ ∃ n r,A7 (fun r => decide (r.var = s)) l i = Int.ofNat (i + n) /\ l[n]? = some r /\ It l s = some r.val := by
  intro l
  induction l with
  | nil => intro i; exact .inl ⟨rfl,rfl⟩
  | cons r l ih =>
   intro i;unfold A7 It;rw [List.find?_cons]
   by_cases h : r.var = s
   ·rw [decide_eq_true h];exact .inr ⟨0,r,rfl,rfl,rfl⟩
   ·rw [decide_eq_false h]
    rcases ih (i + 1) with ⟨h1,h2⟩ | ⟨n,x,h1,h2,h3⟩
    ·exact .inl ⟨h1,h2⟩
    ·exact .inr ⟨n + 1,x,by rw [cond_false,h1]; congr 1; omega,h2,h3⟩
 rcases key l 0 with h | ⟨n,r,h1,h2,h3⟩
 ·exact .inl h
 ·exact .inr ⟨n,r,by rw [h1,bf_],h2,h3⟩
def tmO (d : Db) (m : Md) : SM (List Int) := (Ml (ofF d).1.rules m.n m.tabs).2
def Ex (d : Db) (m : Md) (t : Au) (l : List Vl) : Int := if Fa (ofF d) m = 0 then (if I6 d t = 0 then Ajx (ofF d).1.rules m.n l t else I6 d t) else Fa (ofF d) m
def Gj (d : Db) (m : Md) (t : Au) (l : List Vl) : Int := if Ex d m t l = 0 then evE (ofF d).1.rules (tmO d m) m.n l t else 0
theorem Ahs {d : Db} {m : Md} (h : Fa (ofF d) m = 0) : 1 <= m.n /\ m.n <= 5 /\ Abq (ofF d).1.rules (tmO d m) m.n := by
 unfold Fa at h
 split at h
 ·split at h
  ·rename_i h1 h2
   obtain ⟨a,b,_⟩ := Alz h2;exact ⟨a,b,Aqg a h⟩
  ·rename_i h1 h2; exact absurd h h2
 ·rename_i h1; exact absurd h h1
theorem Afa {d : Db} {t : Au} (h : I6 d t = 0) : okT (ofF d).1.rules t = true := by
 unfold I6 at h
 split at h
 ·unfold okC at h
  split at h
  ·rename_i h2; exact Asp (Xk d).rs t h2
  ·cases h
 ·rename_i h1; exact absurd h h1
structure Anr (l : List Vl) (vs : List Str) (n : Int) (vm : SM Int) : Prop where
 get : ∀ s,vm.get s = if s ∈ vs then It l s else none
theorem Anr.put {l : List Vl} {vs : List Str} {n : Int} {vm : SM Int} (h : Anr l vs n vm) {s : Str} {v : Int} (hv : It l s = some v) : Anr l (vs ++ [s]) n (vm.put s v) := ⟨fun x => by
 rw [bz_,h.get]
 by_cases hx : x = s
 ·subst hx; rw [if_pos rfl,if_pos (by simp),hv]
 ·rw [if_neg hx]
  by_cases hm : x ∈ vs
  ·rw [if_pos hm,if_pos (by simp [hm])]
  ·rw [if_neg hm,if_neg (by simp [hm,hx])]⟩
theorem Anr.by {l : List Vl} {vs : List Str} {n : Int} {vm : SM Int} (h : Anr l vs n vm) : byM vm = byF vs l := by
 funext s
 unfold byM byF;rw [h.get]
 split <;> rfl
theorem f10 (d : Db) (m : Md) (t : Au) (l : List Vl) (J : Sto) (hD : DbB d) (hvf : d.vars.length + d.frames.length < 1000000) (hM : MdB m) (hb : Bw t <= 4000) (hh : hT t <= 100) (hl : l.length < 1000000) : Cv 10 [dbV d,mdV m,Bg t,slV eVl 2 l] J (.tup [iV (Gj d m t l),iV (Ex d m t l)]) := by
 have hG := Xk d;have hgl := hG.len;have hvl := Ac9 (g := (ofF d).1.rules) t [];simp only [dq_,bf_] at hvl;refine Az Tryz.func10 rfl rfl fun hw hu0 => ?_
 refine Ac (Aa (Ar Hy rfl rfl rfl (Ar Aaj rfl rfl rfl (Ar Bv rfl (Bj (A2 t)) rfl (OA rfl (OA rfl (Ab ?_)))))));refine Ac (Aa (O1 (Ae Hy rfl rfl rfl) (O1 (Ae Aaj rfl rfl rfl) (B4 rfl rfl rfl rfl (f31 d m _ hD hvf hM) ?_))));rintro _ τ ⟨p,rfl,ba,hW⟩;refine OM rfl (O1 (Al rfl rfl) (O1 (Al rfl rfl) (OA rfl (OA rfl (Ab (Ac (Ac ?_)))))));refine Aa (OM rfl (O1 (Cx (q := 0) Jj rfl rfl) (Ab ?_)));refine Ah rfl ?_ ?_ <;> intro h1
 ·have hO : ¬ Fa (ofF d) m = 0 := by simpa using h1
  refine Ac (Aa (OM rfl (OA rfl (OA rfl (Ab ?_)))))
  have hE : Ex d m t l = (Fa (ofF d) m) := by unfold Ex; rw [if_neg hO]
  have hne : (Fa (ofF d) m) ≠ (0 : Int) := hO;refine An ?_
  exact ⟨_,rfl,_,J,ap_ hw ba,nl,.same rfl,(by unfold Gj; rw [hE,if_neg hne]; rfl),rfl⟩
 ·have hO : Fa (ofF d) m = 0 := by simpa using h1
  obtain ⟨rfl,hS⟩ := hW hO;obtain ⟨hn1,hn5,htm⟩ := Ahs hO;refine Ai (Ac (Ac (Aa (O1 (Ae Hy rfl rfl rfl) (O1 (Ae Bv rfl rfl (A9 (A2 _))) (Ap rfl rfl rfl rfl (f32 d t _ hD hvf hb hh) (OM rfl ?_)))))));refine O1 (Al rfl rfl) (O1 (Al rfl rfl) (OA rfl (OA rfl (Ab (Ac (Aa (OM rfl ?_)))))));refine O1 (Cx (q := 0) Jj rfl rfl) (Ab ?_);refine Ah rfl ?_ ?_ <;> intro h2
  ·have hC : ¬ I6 d t = 0 := by simpa using h2
   refine Ac (Aa (OM rfl (OA rfl (OA rfl (Ab ?_)))))
   have hE : Ex d m t l = (I6 d t) := by unfold Ex; rw [if_pos hO,if_neg hC]
   have hne : (I6 d t) ≠ (0 : Int) := hC;refine An ?_
   exact ⟨_,rfl,_,J,ap_ hw ba,nl,.same rfl,(by unfold Gj; rw [hE,if_neg hne]; rfl),rfl⟩
  ·have hC : I6 d t = 0 := by simpa using h2
   have hok := Afa hC;refine Dp fun hwt => ?_
   obtain ⟨bs,hbl,mm⟩ := hS.cl;have hlta := (hwt _ _ mm).1
   have hSm : K9 d (ofF d).1 m.n (tmO d m) (nx J) (nx J + 1) (nx J) (τ.new (.map 9 [] 0)) := hS.of_get (by rw [ab_,if_neg Om]) (by rw [ab_,if_neg Om])
   have hbc : (τ.new (.map 9 [] 0)).get (nx J + 1) = some (.cells (Ny d (ofF d).1 m.n bs (nx J))) := by rw [ab_,if_neg Om]; exact mm
   have hbm : Below (nx J) J (τ.new (.map 9 [] 0)) := ⟨by rw [Aj]; have := ba.1; omega,fun b hb => by rw [ab_,if_neg Om]; exact ba.2 b hb⟩
   refine Ai (Ac (Aa (O1 (Ga Uh) (OA rfl (Ab (Ac (Ac ?_)))))));refine Cc (anns := [aP 0 0,aP 0 0,aP 0 0,aR 0 0,aR 0 0,aE 0 1,aR 1 1,aP 0 1]) A1 (As (l := [(33,[grV (ofF d).1,Bg t],τ.new (.map 9 [] 0),A3 (D8 (ofF d).1.rules t []),τ.new (.map 9 [] 0))]) ⟨f33 (ofF d).1 t _ Om Om,trivial⟩) Kr Kr ?_;refine DF (Ag rfl) (DF (Hq rfl) (DF (Ad Ar8 rfl rfl) (DF (Df hbc D3 rfl Aqu) (DF (Ae Bv rfl rfl (A9 (A2 _))) (DT (Bl rfl rfl Bm) (DF (Aq Ee rfl) (DF (Ag rfl) ?_)))))));refine Bi (Am ?_)
   refine B8 (D8 (ofF d).1.rules t []).length (fun i0 => [(3,slV eVl 2 l),(6,.pv (eT t)),(10,.pr (nx J + 1) 0),(14,.mp (nx τ)),(42,A3 (D8 (ofF d).1.rules t [])),(43,iV (.ofNat (D8 (ofF d).1.rules t []).length)),(44,iV (.ofNat i0))]) (fun i0 J0 => ∃ vm,Bx iV J0 (nx τ) vm /\ K9 d (ofF d).1 m.n (tmO d m) (nx J) (nx J + 1) (nx J) J0 /\ Below (nx J) J J0 /\ Anr l ((D8 (ofF d).1.rules t []).take i0) m.n vm /\ Mj m.n l (D8 (ofF d).1.rules t []) = Mj m.n l ((D8 (ofF d).1.rules t []).drop i0)) SL ⟨[],⟨0,by rw [ab_,if_pos rfl]; rfl⟩,hSm,hbm,⟨fun s => rfl⟩,rfl⟩ ?_
   rintro i0 J0 hi0 ⟨vm,hm0,hS0,hB0,hv0,hf0⟩;refine Ac (Aa (O1 (A8 ok3 rfl rfl) (Ab (Ac ?_))));refine Ah rfl ?_ ?_ <;> intro h3
   ·have bf : i0 < (D8 (ofF d).1.rules t []).length := by simpa using h3
    obtain ⟨a0,ha0⟩ := Bt bf;have hd0 := Bh ha0;obtain ⟨bs0,hbl0,n9⟩ := hS0.cl;obtain ⟨ver,hvm⟩ := id hm0;rw [hd0,Mj] at hf0;refine Ai (Ac (Am (Ac (Aa (O1 (Ax Da (fun _ => rfl) rfl rfl ha0) ?_)))))
    refine O1 (Ae ld9 rfl rfl rfl) (Bz zi9 ld9 rfl (fun _ => rfl) rfl rfl rfl rfl ?_)
    refine Ab (Ac (Aa (OM rfl (O1 (Fw rfl rfl) (Ap rfl rfl rfl rfl (f34 (fun x => decide (x.var = a0)) l 35 [.pv [sV a0]] _ Om (fun x _ => f35 x a0 _)) ?_)))))
    refine OA rfl (Ab (Ac (Am (Ac (Aa (OM rfl (O1 (A8 (q := 0) ok3 rfl rfl) ?_)))))));refine OA rfl (Ab ?_);refine Ah rfl ?_ ?_ <;> intro h4
    ·have e2 : It l a0 = none := by
      rcases Adc (l := l) (s := a0) with ⟨_,e⟩ | ⟨n,x,e1,_⟩
      ·exact e
      ·rw [e1] at h4; exact absurd h4 (by simp)
     rw [e2] at hf0;refine Ac (Aa (OA rfl (OA rfl (Ab ?_))))
     have hE : Ex d m t l = 5 := by unfold Ex; rw [if_pos hO,if_pos hC]; exact hf0
     have hne : 5 ≠ (0 : Int) := by decide
     refine An ?_
     exact ⟨_,rfl,_,J,ap_ hw hB0,nl,.same rfl,(by unfold Gj; rw [hE,if_neg hne]; rfl),rfl⟩
    ·obtain ⟨n,x,e1,e2,e3⟩ : ∃ n x,A7 (fun x => decide (x.var = a0)) l 0 = Int.ofNat n /\ l[n]? = some x /\ It l a0 = some x.val := by
      rcases Adc (l := l) (s := a0) with ⟨e1,_⟩ | h
      ·rw [e1] at h4; exact absurd h4 (by decide)
      ·exact h
     rw [e3] at hf0;simp only at hf0
     refine Hu [(54,.bool (decide (x.val < 0) || decide (m.n <= x.val)))] ?_ ?_
     ·rcases au_ (decide (x.val < 0)) with hg6 | hg6
      ·refine Fx (anns := [aP 0 0,aP 0 0,aP 0 0,aP 0 0,aR 0 0,aP 0 0,aP 0 0,aP 0 0,aP 0 0,aP 0 0,aP 0 0,aR 0 0,aP 0 0,aP 0 0,aP 0 0,aR 0 0,aP 0 0,aP 0 0,aP 0 0]) A1 Kr Kr ?_;refine DF (Ag rfl) (DF (Ag rfl) (DF (Ax (i := n) Aer (fun _ => rfl) rfl (congrArg (fun x => some (AV.int .i64 x)) e1) e2) ?_))
       refine DF (Ad Aes rfl rfl) (DF (Ae ld3 rfl rfl rfl) (DF (A8 (q := 0) ok3 rfl rfl) (DF (Ag rfl) ?_)))
       refine Wx (w := by first|rfl|simp only [hg6]<;>rfl|simp [hg6]) ?_
       refine Wx (w := by first|rfl|simp only [hg6]<;>rfl|simp [hg6]) ?_
       refine Wx (w := by first|rfl|simp only [hg6]<;>rfl|simp [hg6]) ?_
       refine Wx (w := by first|rfl|simp only [hg6]<;>rfl|simp [hg6]) ?_
       refine Wx (w := by first|rfl|simp only [hg6]<;>rfl|simp [hg6]) ?_
       refine Wx (w := by first|rfl|simp only [hg6]<;>rfl|simp [hg6]) ?_
       refine Wx (w := by first|rfl|simp only [hg6]<;>rfl|simp [hg6]) ?_
       refine Wx (w := by first|rfl|simp only [hg6]<;>rfl|simp [hg6]) ?_
       refine Wx (w := by first|rfl|simp only [hg6]<;>rfl|simp [hg6]) ?_
       refine Wx (w := by first|rfl|simp only [hg6]<;>rfl|simp [hg6]) ?_
       refine DF (Bu rfl (by first|rfl|simp only [hg6]<;>rfl|simp [hg6]) rfl) ?_
       refine DF (Bk rfl) (Bi ?_)
       exact ⟨rfl,rfl,⟨⟨congrArg (fun b => some (AV.bool b)) (by first|rfl|simp only [hg6]<;>rfl|simp [hg6]),trivial⟩,sb,rfl⟩⟩
      ·refine Fx (anns := [aP 0 0,aP 0 0,aP 0 0,aP 0 0,aR 0 0,aP 0 0,aP 0 0,aP 0 0,aP 0 0,aP 0 0,aP 0 0,aR 0 0,aP 0 0,aP 0 0,aP 0 0,aR 0 0,aP 0 0,aP 0 0,aP 0 0]) A1 Kr Kr ?_;refine DF (Ag rfl) (DF (Ag rfl) (DF (Ax (i := n) Aer (fun _ => rfl) rfl (congrArg (fun x => some (AV.int .i64 x)) e1) e2) ?_))
       refine DF (Ad Aes rfl rfl) (DF (Ae ld3 rfl rfl rfl) (DF (A8 (q := 0) ok3 rfl rfl) (DF (Ag rfl) ?_)))
       refine Wn (w := by first|rfl|simp only [hg6]<;>rfl|simp [hg6]) (Ag rfl) ?_
       refine Wn (w := by first|rfl|simp only [hg6]<;>rfl|simp [hg6]) (Ag rfl) ?_
       refine Wn (w := by first|rfl|simp only [hg6]<;>rfl|simp [hg6]) (Ax (i := n) Aer (fun _ => rfl) rfl (congrArg (fun x => some (AV.int .i64 x)) e1) e2) ?_
       refine Wn (w := by first|rfl|simp only [hg6]<;>rfl|simp [hg6]) (Ad Aes rfl rfl) ?_
       refine Wn (w := by first|rfl|simp only [hg6]<;>rfl|simp [hg6]) (Ae ld3 rfl rfl rfl) ?_
       refine Wn (w := by first|rfl|simp only [hg6]<;>rfl|simp [hg6]) (Ag rfl) ?_
       refine Wn (w := by first|rfl|simp only [hg6]<;>rfl|simp [hg6]) (Hq rfl) ?_
       refine Wn (w := by first|rfl|simp only [hg6]<;>rfl|simp [hg6]) (Ad Ak7 rfl rfl) ?_
       refine Wn (w := by first|rfl|simp only [hg6]<;>rfl|simp [hg6]) (Df n9 ld3 rfl Aho) ?_
       refine Wn (w := by first|rfl|simp only [hg6]<;>rfl|simp [hg6]) (Eq ok3 rfl rfl) ?_
       refine DF (Br rfl (by first|rfl|simp only [hg6]<;>rfl|simp [hg6]) rfl) ?_
       refine DF (Bk rfl) (Bi ?_)
       exact ⟨rfl,rfl,⟨⟨congrArg (fun b => some (AV.bool b)) (by first|rfl|simp only [hg6]<;>rfl|simp [hg6]),trivial⟩,sb,rfl⟩⟩
     refine Ah rfl ?_ ?_ <;> intro h5
     ·rw [if_pos h5] at hf0;refine Ac (Aa (OA rfl (OA rfl (Ab ?_))))
      have hE : Ex d m t l = 3 := by unfold Ex; rw [if_pos hO,if_pos hC]; exact hf0
      have hne : 3 ≠ (0 : Int) := by decide
      refine An ?_
      exact ⟨_,rfl,_,J,ap_ hw hB0,nl,.same rfl,(by unfold Gj; rw [hE,if_neg hne]; rfl),rfl⟩
     ·skip
      refine Ai ?_;refine Cc (anns := [aP 0 0,aR 0 0,aP 0 0,aP 0 0,aP 0 0,aP 0 0,aR 0 0,aE 0 1]) A1 (As (l := []) trivial) Kr Kr ?_;refine DF (Ag rfl) (DF (Ae ld9 rfl rfl rfl) (DF (Ag rfl) (DF (Ag rfl) (DF (Ax (i := n) Aer (fun _ => rfl) rfl (congrArg (fun x => some (AV.int .i64 x)) e1) e2) ?_))))
      refine DF (Ad Aes rfl rfl) (DF (Ae ld3 rfl rfl rfl) (DT (E8 (v := x.val) st9 Uh rfl hvm rfl rfl (fun te k1 k2 => by first | exact Fq k1 k2 | exact Fs k1 k2 | exact Ge k1 k2 | exact Gf k1 k2 | exact Ft k1 k2 rfl)) ?_))
      refine Bi (Aa (O1 (Ay (q := 1) ok3 rfl rfl Om) ?_));refine OM rfl (Ab ?_)
      refine ⟨bf,SL,vm.put a0 x.val,dh_,hS0.of_get (by rw [a_,if_neg Om]) (by rw [a_,if_neg Om]),⟨by rw [Ak]; exact hB0.1,fun b hb => by rw [a_,if_neg Om]; exact hB0.2 b hb⟩,(by rw [Ci ha0]; exact hv0.put e3),(by rw [hf0,if_neg (by rw [h5]; simp)])⟩
   ·have bq : (D8 (ofF d).1.rules t []).length <= i0 := by simpa using h3
    rw [at_ bq] at hv0
    have hV0 : Mj m.n l (D8 (ofF d).1.rules t []) = 0 := by rw [hf0,ah_ bq]; rfl
    have hby := hv0.by
    have hfr : ∀ s,0 <= byM vm s /\ byM vm s < m.n := fun s => by rw [hby]; exact Ac3 hn1 hV0 s
    refine Ba ?_;refine Ac (Aa (OM rfl (O1 (Ae Bv rfl rfl (A9 (A2 _))) (OM rfl (Ap rfl rfl rfl rfl (f36 d (ofF d).1 m.n (tmO d m) vm (nx J) (nx J + 1) (nx J) (nx τ) _ hS0 hm0 htm hn5 hfr t hok Om) ?_)))));refine OA rfl (OA rfl (Ab ?_))
    have hE : Ex d m t l = 0 := by unfold Ex; rw [if_pos hO,if_pos hC]; exact hV0
    refine An ?_
    exact ⟨_,rfl,_,J,ap_ hw hB0,nl,.same rfl,(by unfold Gj; rw [if_pos hE,hE,hby]; rfl),rfl⟩
theorem Auv (t : Au) : ∃ la ka,eT t = [sV la,slV eT 2 ka] := by obtain ⟨l,k⟩ := t; exact ⟨l,k,Ne l k⟩
def zTr : List AV := [.str [],.nil (.slice none 0 0)]
theorem WFS.setC {J : Sto} (hw : WFS J) {a : Nat} {i : Int} (ha : a < nx J) : WFS (J.set a (.cells [iV i])) := by
 intro b O hb;rw [a_] at hb
 split at hb
 ·rename_i he; cases hb; subst he; exact ⟨by rw [Ak]; exact ha,rfl,trivial⟩
 ·obtain ⟨h1,h2,h3⟩ := hw b O hb;rw [Ak];refine ⟨h1,h2,?_⟩;cases O with
  | iter m ver left cur =>
   cases m with
   | none => trivial
   | some r =>
    intro kt es hr;rw [a_] at hr
    split at hr
    ·cases hr
    ·rw [Ak]; exact h3 kt es hr
  | _ => trivial
structure CpS (r c e n : Nat) (m : SM Au) (J : Sto) : Prop where
 ge : J.get e = some (.cells [iV (.ofNat n)])
 gc : J.get c = some (.cells [.fn (.func 52) [] [.pv [.mp r],.pr c 0,.pr e 0]])
 gm : Bx Bg J r m
 ce : c ≠ e
 re : r ≠ e
def cpV (k : Au) (fl : Bool) (r c e : Nat) : List AV := [Bg k,.bool fl,.pv [.mp r],.pr c 0,.pr e 0]
def gvT (m : SM Au) (s : Str) : List AV := ((m.get s).map eT).getD zTr
theorem Ass (m : SM Au) (s : Str) : (gvT m s).length = 2 := by unfold gvT; cases m.get s with | none => rfl | some t => exact A2 t
theorem Aqz (m : SM Au) (s : Str) : ((m.get s).map Bg).getD (.agg [.str [],.nil (.slice none 0 0)]) = .agg (gvT m s) := by unfold gvT; cases m.get s <;> rfl
theorem f52n (fl : Bool) (s : Str) (ks : List Au) (res : Au -> Au) (m : SM Au) (r c e n : Nat) (J : Sto) (h : CpS r c e n m J) (hnc : ((((m.get s).isSome && fl) && decide (Int.ofNat ks.length = (0 : Int))) = false)) (hks : ks.length < 100000) (hn : n + (1 + Dh (ks.map res)) <= 4000) (ih : ∀ k ∈ ks,∀ n τ,CpS r c e n m τ -> n + Bw (res k) <= 4000 -> A6 Ew 52 (cpV k fl r c e) τ fun v J' => v = Bg (res k) /\ J' = τ.set e (.cells [iV (.ofNat (n + Bw (res k)))])) : A6 Ew 52 (cpV (.node s ks) fl r c e) J fun v J' => v = Bg (.node s (ks.map res)) /\ J' = J.set e (.cells [iV (.ofNat (n + (1 + Dh (ks.map res))))]) := by
 refine Az Tryz.func52 rfl rfl fun hw hu0 => ?_
 rw [show cpV (.node s ks) fl r c e = [.agg [sV s,slV eT 2 ks],.bool fl,.pv [.mp r],.pr c 0,.pr e 0] by unfold cpV; rw [Gi]]
 have hel := (hw _ _ h.ge).1;have hcl := (hw _ _ h.gc).1
 have hrl : r < nx J := by obtain ⟨v,h9⟩ := h.gm; exact (hw _ _ h9).1
 have hce := h.ce;have hre := h.re
 have hm1 : Bx Bg (J.new (.cells zTr)) r m := by obtain ⟨v,h9⟩ := h.gm; exact ⟨v,by rw [ab_,if_neg Om]; exact h9⟩
 have mq : (J.new (.cells zTr)).get e = some (.cells [iV (.ofNat n)]) := by rw [ab_,if_neg Om]; exact h.ge
 have b8 : ((J.new (.cells zTr)).set e (.cells [iV (.ofNat (n + 1))])).get e = some (.cells [iV (.ofNat (n + 1))]) := by rw [a_,if_pos rfl]
 refine Ac (Aa (Ar Bv rfl rfl rfl (O1 (Cw Sk) (Ab (Ac (Ac (Aa ?_)))))));refine O1 (Ae ld87 rfl rfl rfl) (O1 (Ad I1 rfl rfl) (O1 (Ae ld9 rfl rfl rfl) (O1 (Kf st9 Apo rfl hm1 rfl) ?_)));rw [Aqz];refine OM rfl (O1 (Al rfl rfl) (O1 (Al rfl rfl) (Bz Sk Bv rfl (fun _ => rfl) rfl (Bj (Ass m s)) rfl rfl ?_)))
 refine OA rfl (Ab (Ac (Aa (OM rfl (OM rfl ?_)))));refine Cy 1 _ ?_ rfl rfl rfl rfl rfl (Aw rfl) (fun hg => ?_) (fun hg => ?_) ?_
 rotate_left
 ·refine On hg (Ag rfl) (Ab ?_);refine ⟨rfl,?_,?_⟩
  ·exact sb
  ·exact rfl
 ·refine Of hg (Ab ?_);exact ⟨rfl,sb⟩
 refine OM rfl ?_;refine Cy 4 _ ?_ rfl rfl rfl rfl rfl (Aw rfl) (fun hg => ?_) (fun hg => ?_) ?_
 rotate_left
 ·refine On hg (Ad Gg rfl rfl) (On hg (Ae Mf rfl rfl rfl) (On hg (Aq Wd rfl) (On hg (Do (q := 0) ok3 rfl rfl) (Ab ?_))));refine ⟨rfl,?_,?_⟩
  ·exact sb
  ·exact rfl
 ·refine Of hg (Of hg (Of hg (Of hg (Ab ?_))));exact ⟨rfl,sb⟩
 refine Ab ?_;refine Ah rfl ?_ ?_ <;> intro h1
 ·exact absurd (h1.symm.trans hnc) (by simp)
 ·skip
  refine Ai (Ac (Ac (Aa (O1 (Df mq ld3 rfl rfl) (O1 (Ay (q := 1) ok3 rfl rfl Om) ?_)))));refine O1 (Dg mq ld3 rfl rfl rfl rfl) (Ab (Ac (Aa (O1 (Df b8 ld3 rfl rfl) (O1 (Ca (q := 4000) ok3 rfl rfl) (Ab ?_))))));refine Ah rfl ?_ ?_ <;> intro h2
  ·exact absurd h2 (by simp only [am_,decide_eq_true_eq]; omega)
  ·skip
   refine Ai (Ac (Aa (O1 (Ad I1 rfl rfl) (O1 (Ae ld9 rfl rfl rfl) (O1 (B1 Api rfl rfl) (O1 (I5 (n := nx J + 1) Sk (by rw [Ak,Aj])) ?_))))))
   refine O1 (Dg (a := nx J + 1) (off := 0) (cs := zTr) (cs' := [sV s,.nil (.slice none 0 0)]) (by rw [ab_,if_pos (by rw [Ak,Aj])]; rfl) Bv rfl rfl rfl rfl) ?_
   refine Ab (Ac (Ac (Aa (O1 (Ad Gg rfl rfl) (O1 (Ae Mf rfl rfl rfl) (O1 (Aq Wd rfl) (OM rfl ?_)))))));refine Ab (Am ?_)
   refine B8 ks.length (fun i0 => [(1,.bool fl),(3,.pr c 0),(7,.pr (nx J) 0),(10,.pr (nx J + 1) 0),(43,slV eT 2 ks),(44,iV (.ofNat ks.length)),(45,iV (.ofNat i0))]) (fun i0 J0 => ∃ vp,J0.get (nx J + 1) = some (.cells [sV s,vp]) /\ Own J0 (nx J + 2) eT 2 ((ks.take i0).map res) vp /\ J0.get (nx J) = some (.cells zTr) /\ (∀ b,b < nx J -> b ≠ e -> J0.get b = J.get b) /\ J0.get e = some (.cells [iV (.ofNat (n + 1 + Dh ((ks.take i0).map res)))]) /\ nx J + 2 <= nx J0) SL ⟨.nil (.slice none 0 0),by rw [a_,if_pos rfl],.nil,by rw [a_,if_neg Om,ab_,if_neg (by rw [Ak,Aj]; omega),a_,if_neg Om,ab_,if_pos rfl]; rfl,fun b hb hbe => by rw [a_,if_neg Om,ab_,if_neg (by rw [Ak,Aj]; omega),a_,if_neg hbe,ab_,if_neg Om],by rw [a_,if_neg Om,ab_,if_neg (by rw [Ak,Aj]; omega),a_,if_pos rfl]; rfl,by rw [Ak,Aj,Ak,Aj]; exact nl⟩ ?_
   rintro i0 J0 hi0 ⟨vp,h8,bn,h20,hg0,jx,hn0⟩;refine Ac (Aa (O1 (A8 ok3 rfl rfl) (Ab (Ac ?_))));refine Ah rfl ?_ ?_ <;> intro h3
   ·have bf : i0 < ks.length := by simpa using h3
    obtain ⟨a0,ha0⟩ := Bt bf;have hd0 := Bh ha0
    have hA0 : (ks.map res)[i0]? = some (res a0) := by rw [bn_,ha0]; rfl
    have hct := Mn hA0;have hmt : (ks.take i0).map res = (ks.map res).take i0 := List.map_take ..
    have mw : (ks.take (i0 + 1)).map res = (ks.take i0).map res ++ [res a0] := by rw [Ci ha0,cc_]; rfl
    rw [← hmt] at hct;obtain ⟨la,ka,he⟩ := Auv (res a0);have jz : J0.get c = some (.cells [.fn (.func 52) [] [.pv [.mp r],.pr c 0,.pr e 0]]) := (hg0 c hcl hce).trans h.gc
    have hkn : A6 Ew 52 (cpV a0 fl r c e) J0 fun v J' => v = .agg [sV la,slV eT 2 ka] /\ J' = J0.set e (.cells [iV (.ofNat (n + 1 + Dh ((ks.take i0).map res) + Bw (res a0)))]) := by
     rw [← he]
     exact ih a0 (af_ ha0) _ J0 ⟨jx,jz,(by obtain ⟨v,h9⟩ := h.gm; exact ⟨v,(hg0 r hrl hre).trans h9⟩),hce,hre⟩ Om
    have bh : (((ks.take i0).map res).length + [res a0].length) * (40 + 1) <= sizeLim := by rw [cs_,bl_]; simp [sizeLim]; omega
    have dn : Own (J0.set e (.cells [iV (.ofNat (n + 1 + Dh ((ks.take i0).map res) + Bw (res a0)))])) (nx J + 2) eT 2 ((ks.take i0).map res) vp := bn.mono (by rw [Ak]; exact nl) fun a tl _ h11 h12 _ => by rw [a_,if_neg Om]
    obtain ⟨v1,τ1,jy,ho1,hb1,_⟩ := ej_ (by' := 40) (enc := eT) (sz := 2) A2 (by rw [Ak]; exact hn0) dn [res a0] bh
    have jy : Di (J0.set e (.cells [iV (.ofNat (n + 1 + Dh ((ks.take i0).map res) + Bw (res a0)))])) 2 40 vp 1 (eT (res a0)) = some (v1,τ1) := by simpa using jy
    have h81 : (J0.set e (.cells [iV (.ofNat (n + 1 + Dh ((ks.take i0).map res) + Bw (res a0)))])).get (nx J + 1) = some (.cells [sV s,vp]) := by rw [a_,if_neg Om]; exact h8
    have h8t : τ1.get (nx J + 1) = some (.cells [sV s,vp]) := (hb1.2 _ Om).trans h81;refine Ai (Ac (Am (Ac (Aa (O1 (Ax Aai A2 rfl rfl ha0) (O1 (Ae Bv rfl rfl (Cj (A2 a0) _)) (Bz Sk Bv rfl (fun _ => rfl) rfl (Bj (A2 a0)) rfl rfl ?_)))))))
    refine Ab ?_;refine Ai4 (anns := [⟨.pure,0,1⟩,⟨.read,0,1⟩,⟨.read,0,0⟩,⟨.read,0,0⟩,⟨.pure,0,0⟩,⟨.eff,0,1⟩,⟨.pure,1,1⟩,⟨.eff,1,2⟩,⟨.pure,2,2⟩,⟨.eff,2,3⟩]) A1 (As (l := [(52,cpV a0 fl r c e,J0,.agg [sV la,slV eT 2 ka],J0.set e (.cells [iV (.ofNat (n + 1 + Dh ((ks.take i0).map res) + Bw (res a0)))]))]) ⟨hkn,trivial⟩) Kr ?_
    refine DF (Ad Gg rfl rfl) (DF (Df h8 Mf rfl rfl) (DF (Df jz Agu rfl rfl) (DF (Ae Bv rfl rfl (A9 (A2 a0))) (DF (Ag rfl) (DT (Bl rfl rfl Bm) (DF (Bn Aai byW rfl rfl rfl) (DT (B0 Aai rfl Wd rfl rfl rfl (new := eT (res a0)) (by rw [he]; rfl) jy) ?_)))))))
    refine DF (Ad Gg rfl rfl) (DT (Dg h8t Mf rfl rfl (Mi ho1) rfl) (Bi ?_))
    refine ⟨⟨trivial,(fun τ hτ => by rcases (show τ = J0 ∨ τ = J0.set e (.cells [iV (.ofNat (n + 1 + Dh ((ks.take i0).map res) + Bw (res a0)))]) by simpa using hτ) with rfl | rfl; exact ⟨_,Df h8 Mf rfl rfl⟩; exact ⟨_,Df h81 Mf rfl rfl⟩),(fun τ hτ => by simp at hτ; subst hτ; exact ⟨_,Df jz Agu rfl rfl⟩),(fun τ hτ => by simp at hτ; subst hτ; exact ⟨_,Ae Bv rfl rfl (A9 (A2 a0))⟩),trivial,trivial,trivial,trivial,trivial,trivial,trivial⟩,?_⟩
    refine Aa (O1 (Ay (q := 1) ok3 rfl rfl Om) ?_);refine OM rfl (Ab ?_)
    refine ⟨bf,SL,v1,by rw [a_,if_pos rfl],by rw [mw]; exact ho1.mono (by rw [Ak]; exact nl) fun a tl _ h11 h12 _ => by rw [a_,if_neg Om],by rw [a_,if_neg Om,hb1.2 _ Om,a_,if_neg Om]; exact h20,fun b hb hbe => by rw [a_,if_neg Om,hb1.2 b Om,a_,if_neg hbe]; exact hg0 b hb hbe,by rw [a_,if_neg Om,hb1.2 _ Om,a_,if_pos rfl,mw,Mm]; simp only [Dh,dn_,e_],by rw [Ak]; exact ax_ hn0 (ax_ (by rw [Ak]; exact nl) hb1.1)⟩
   ·have bq : ks.length <= i0 := by simpa using h3
    refine Ba ?_;refine Ac (Aa (O1 (Df h8 Bv rfl rfl) (O1 (Dg (cs' := [sV s,vp]) h20 Bv rfl rfl rfl rfl) (Ab ?_))));refine An ?_;rw [at_ bq] at bn jx
    exact ⟨[.agg [sV s,vp]],B6 Bv rfl (by simp only [Sto.cells]; rw [a_,if_pos rfl]) rfl rfl,.agg [sV s,slV eT 2 (ks.map res)],J.set e (.cells [iV (.ofNat (n + (1 + Dh (ks.map res))))]),ap_ (hw.setC hel) ⟨by rw [Ak,Ak]; omega,fun b hb => by
     rw [Ak] at hb;rw [a_,if_neg Om,a_]
     split
     ·rename_i hbe; subst hbe; rw [jx,e_]
     ·rename_i hbe; exact hg0 b hb hbe⟩,by rw [Ak]; exact nl,.agg (.cons (.same rfl) (.cons ((bn.mono (by rw [Ak]; exact nl) (fun a tl _ h11 h12 _ => by rw [a_,if_neg Om])).fz A2 (fun a ha => by rw [a_,if_neg Om]; exact hw.none Om) (Co Me _)) .nil)),by rw [Gi],rfl⟩
theorem f52l (s : Str) (b : Au) (m : SM Au) (r c e n : Nat) (J : Sto) (h : CpS r c e n m J) (hms : m.get s = some b) (hb : ∀ τ,CpS r c e n m τ -> A6 Ew 52 (cpV b false r c e) τ fun v J' => v = Bg b /\ J' = τ.set e (.cells [iV (.ofNat (n + Bw b))])) : A6 Ew 52 (cpV (.node s []) true r c e) J fun v J' => v = Bg b /\ J' = J.set e (.cells [iV (.ofNat (n + Bw b))]) := by
 refine Az Tryz.func52 rfl rfl fun hw hu0 => ?_
 rw [show cpV (.node s []) true r c e = [.agg [sV s,slV eT 2 []],.bool true,.pv [.mp r],.pr c 0,.pr e 0] by unfold cpV; rw [Gi]]
 have hel := (hw _ _ h.ge).1;have hcl := (hw _ _ h.gc).1
 have hrl : r < nx J := by obtain ⟨v,h9⟩ := h.gm; exact (hw _ _ h9).1
 have hce := h.ce;have hre := h.re
 have hm1 : Bx Bg (J.new (.cells zTr)) r m := by obtain ⟨v,h9⟩ := h.gm; exact ⟨v,by rw [ab_,if_neg Om]; exact h9⟩
 have hCp : CpS r c e n m (J.new (.cells zTr)) := ⟨by rw [ab_,if_neg Om]; exact h.ge,by rw [ab_,if_neg Om]; exact h.gc,hm1,hce,hre⟩
 have hgv : gvT m s = eT b := by unfold gvT; rw [hms]; rfl
 refine Ac (Aa (Ar Bv rfl rfl rfl (O1 (Cw Sk) (Ab (Ac (Ac (Aa ?_)))))));refine O1 (Ae ld87 rfl rfl rfl) (O1 (Ad I1 rfl rfl) (O1 (Ae ld9 rfl rfl rfl) (O1 (Kf st9 Apo rfl hm1 rfl) ?_)));rw [Aqz,hgv];refine OM rfl (O1 (Al rfl rfl) (O1 (Al rfl rfl) (Bz Sk Bv rfl (fun _ => rfl) rfl (Bj (A2 b)) rfl rfl ?_)))
 refine OA rfl (Ab (Ac (Aa (OM rfl (OM rfl ?_)))));refine Cy 1 _ ?_ rfl rfl rfl rfl rfl (Aw rfl) (fun hg => ?_) (fun hg => ?_) ?_
 rotate_left
 ·refine On hg (Ag rfl) (Ab ?_);refine ⟨rfl,?_,?_⟩
  ·exact sb
  ·exact rfl
 ·refine Of hg (Ab ?_);exact ⟨rfl,sb⟩
 refine OM rfl ?_;refine Cy 4 _ ?_ rfl rfl rfl rfl rfl (Aw rfl) (fun hg => ?_) (fun hg => ?_) ?_
 rotate_left
 ·refine On hg (Ad Gg rfl rfl) (On hg (Ae Mf rfl rfl rfl) (On hg (Aq Wd rfl) (On hg (Do (q := 0) ok3 rfl rfl) (Ab ?_))));refine ⟨rfl,?_,?_⟩
  ·exact sb
  ·exact rfl
 ·refine Of hg (Of hg (Of hg (Of hg (Ab ?_))));exact ⟨rfl,sb⟩
 refine Ab ?_;refine Ah rfl ?_ ?_ <;> intro h1
 ·skip
  refine Ac (Aa (O1 (Df hCp.gc Agu rfl rfl) (O1 (Ae Bv rfl rfl (A9 (A2 b))) (Ap rfl rfl rfl rfl (hb _ hCp) (O1 (Dg (a := nx J) (off := 0) (cs := zTr) (cs' := eT b) (by rw [a_,if_neg Om,ab_,if_pos rfl]; rfl) Bv rfl rfl (Bj (A2 b)) (E4 (A2 b))) ?_)))))
  refine Ab ?_;refine An ?_
  exact ⟨_,B6 (vs := eT b) (v := Bg b) Bv rfl (by simp only [Sto.cells]; rw [a_,if_pos rfl]) (A9 (A2 _)) rfl,Bg b,J.set e (.cells [iV (.ofNat (n + Bw b))]),ap_ (hw.setC hel) ⟨by rw [Ak,Ak,Ak,Aj]; omega,fun b hb => by
   rw [Ak] at hb;rw [a_,if_neg Om,a_,a_]
   split
   ·rfl
   ·rw [ab_,if_neg Om]⟩,by rw [Ak]; exact nl,.same (Ua b),rfl,rfl⟩
 ·exact absurd h1 (by rw [hms]; simp)
theorem f52c (m : SM Au) (r c e : Nat) (t : Au) : ∀ (n : Nat) (J : Sto),CpS r c e n m J -> n + Bw t <= 4000 -> A6 Ew 52 (cpV t false r c e) J fun v J' => v = Bg t /\ J' = J.set e (.cells [iV (.ofNat (n + Bw t))]) := by
 refine Au.ind' (P := fun t => ∀ (n : Nat) (J : Sto),CpS r c e n m J -> n + Bw t <= 4000 -> A6 Ew 52 (cpV t false r c e) J fun v J' => v = Bg t /\ J' = J.set e (.cells [iV (.ofNat (n + Bw t))])) ?_ t
 intro s ks ih n J h hn;have hlk := Jl ks;unfold Bw at hn ⊢
 have := f52n false s ks id m r c e n J h (by simp) Om (by rw [List.map_id]; exact hn) fun k hk n τ hτ hnk => ih k hk n τ hτ hnk
 rw [List.map_id] at this;exact this
theorem Aht {x : Str} {b : Au} : ∀ l : List Au,subL x b l = l.map (Dz x b)
 | [] => rfl
 | t :: r => by rw [subL,Aht r]; rfl
theorem f52s (x : Str) (b : Au) (r c e : Nat) (t : Au) : ∀ (n : Nat) (J : Sto),CpS r c e n [(x,b)] J -> Bw t <= 100000 -> n + Bw (Dz x b t) <= 4000 -> A6 Ew 52 (cpV t true r c e) J fun v J' => v = Bg (Dz x b t) /\ J' = J.set e (.cells [iV (.ofNat (n + Bw (Dz x b t)))]) := by
 refine Au.ind' (P := fun t => ∀ (n : Nat) (J : Sto),CpS r c e n [(x,b)] J -> Bw t <= 100000 -> n + Bw (Dz x b t) <= 4000 -> A6 Ew 52 (cpV t true r c e) J fun v J' => v = Bg (Dz x b t) /\ J' = J.set e (.cells [iV (.ofNat (n + Bw (Dz x b t)))])) ?_ t
 intro s ks ih n J h hc hn;unfold Dz at hn ⊢
 by_cases hs : (decide (s = x) && ks.isEmpty) = true
 ·rw [if_pos hs] at hn ⊢;simp only [ad_,decide_eq_true_eq,List.isEmpty_iff] at hs;obtain ⟨rfl,rfl⟩ := hs
  exact f52l s b _ r c e n J h (by simp [SM.get]) fun τ hτ => f52c _ r c e b n τ hτ hn
 ·rw [if_neg hs] at hn ⊢;rw [Aht] at hn ⊢;have hlk := Jl ks;unfold Bw at hn hc ⊢
  refine f52n true s ks (Dz x b) _ r c e n J h ?_ Om hn fun k hk n τ hτ hnk => ih k hk n τ hτ (by have := Mo hk; omega) hnk
  cases hh : ((SM.get [(x,b)] s).isSome && true && decide (Int.ofNat ks.length = (0 : Int))) with
  | false => rfl
  | true =>
   exfalso
   apply hs;simp only [SM.get,Bool.and_true,ad_,decide_eq_true_eq] at hh;obtain ⟨h1,h2⟩ := hh
   have h3 : ks = [] := dj_.1 (by simpa using h2)
   by_cases hx : s = x
   ·subst hx; subst h3; simp
   ·rw [if_neg hx] at h1; cases h1
theorem f30 (x : Str) (b t : Au) (r : Nat) (J : Sto) (hm : Bx Bg J r [(x,b)]) (hc : Bw t <= 100000) (hn : Bw (Dz x b t) <= 4000) (hh : hT (Dz x b t) <= 100) : Cv 30 [Bg t,.mp r] J (.tup [Bg (Dz x b t),iV 0]) := by
 refine Ar7 Tryz.func30 rfl rfl fun hw hu0 => ?_
 have hrl : r < nx J := by obtain ⟨v,h9⟩ := hm; exact (hw _ _ h9).1
 refine Aa (Ar Bv rfl (Bj (A2 t)) rfl (Ar ld87 rfl rfl rfl (O1 (Cw Sk) (O1 (I5 (n := nx J + 1) zi46 (Aj _ _)) (Ab ?_)))));refine ⟨9,_,.pr (nx J) 0,.pr (nx J + 1) 0,rfl,rfl,rfl,rfl,rfl,rfl,rfl,Fw rfl rfl,?_⟩
 refine Ac (Aa (O1 (I5 (n := nx J + 2) zi3 (by rw [Aj,Aj])) ?_))
 refine O1 (Dg (a := nx J + 2) (off := 0) (cs := [iV 0]) (cs' := [iV 0]) (by rw [ab_,if_pos (by rw [Aj,Aj])]; rfl) ld3 rfl rfl rfl rfl) ?_
 refine Ab (Ac (Aa (O1 (I5 (n := nx J + 3) zi130 (by rw [Ak,Aj,Aj,Aj])) ?_)))
 refine Ab (Ac (Aa (O1 (Fw rfl rfl) (O1 (Dg (a := nx J + 3) (off := 0) (cs := [.nil .nilFunc]) (cs' := [.fn (.func 52) [] [.pv [.mp r],.pr (nx J + 3) 0,.pr (nx J + 2) 0]]) (by rw [ab_,if_pos (by rw [Ak,Aj,Aj,Aj])]) Agu rfl rfl rfl rfl) ?_))))
 refine Ab ?_
 have hSg : ∀ a,a < nx J -> ((((((J.new (.cells [.str [],.nil (.slice none 0 0)])).new (.cells [.int .i64 0])).new (.cells [.int .i64 0])).set (nx J + 2) (.cells [iV 0])).new (.cells [.nil .nilFunc])).set (nx J + 3) (.cells [.fn (.func 52) [] [.pv [.mp r],.pr (nx J + 3) 0,.pr (nx J + 2) 0]])).get a = J.get a := fun a ha => by rw [a_,if_neg Om,ab_,if_neg (by rw [Ak,Aj,Aj,Aj]; omega),a_,if_neg Om,ab_,if_neg (by rw [Aj,Aj]; omega),ab_,if_neg (by rw [Aj]; omega),ab_,if_neg Om]
 have hS0 : ((((((J.new (.cells [.str [],.nil (.slice none 0 0)])).new (.cells [.int .i64 0])).new (.cells [.int .i64 0])).set (nx J + 2) (.cells [iV 0])).new (.cells [.nil .nilFunc])).set (nx J + 3) (.cells [.fn (.func 52) [] [.pv [.mp r],.pr (nx J + 3) 0,.pr (nx J + 2) 0]])).get (nx J) = some (.cells [.str [],.nil (.slice none 0 0)]) := by rw [a_,if_neg Om,ab_,if_neg (by rw [Ak,Aj,Aj,Aj]; omega),a_,if_neg Om,ab_,if_neg (by rw [Aj,Aj]; omega),ab_,if_neg (by rw [Aj]; omega),ab_,if_pos rfl]
 have hS1 : ((((((J.new (.cells [.str [],.nil (.slice none 0 0)])).new (.cells [.int .i64 0])).new (.cells [.int .i64 0])).set (nx J + 2) (.cells [iV 0])).new (.cells [.nil .nilFunc])).set (nx J + 3) (.cells [.fn (.func 52) [] [.pv [.mp r],.pr (nx J + 3) 0,.pr (nx J + 2) 0]])).get (nx J + 1) = some (.cells [.int .i64 0]) := by rw [a_,if_neg Om,ab_,if_neg (by rw [Ak,Aj,Aj,Aj]; omega),a_,if_neg Om,ab_,if_neg (by rw [Aj,Aj]; omega),ab_,if_pos (by rw [Aj])]
 have hS2 : ((((((J.new (.cells [.str [],.nil (.slice none 0 0)])).new (.cells [.int .i64 0])).new (.cells [.int .i64 0])).set (nx J + 2) (.cells [iV 0])).new (.cells [.nil .nilFunc])).set (nx J + 3) (.cells [.fn (.func 52) [] [.pv [.mp r],.pr (nx J + 3) 0,.pr (nx J + 2) 0]])).get (nx J + 2) = some (.cells [iV (.ofNat 0)]) := by rw [a_,if_neg Om,ab_,if_neg (by rw [Ak,Aj,Aj,Aj]; omega),a_,if_pos rfl]; rfl
 have hSn : nx ((((((J.new (.cells [.str [],.nil (.slice none 0 0)])).new (.cells [.int .i64 0])).new (.cells [.int .i64 0])).set (nx J + 2) (.cells [iV 0])).new (.cells [.nil .nilFunc])).set (nx J + 3) (.cells [.fn (.func 52) [] [.pv [.mp r],.pr (nx J + 3) 0,.pr (nx J + 2) 0]])) = nx J + 4 := by rw [Ak,Aj,Ak,Aj,Aj,Aj]
 have hCp : CpS r (nx J + 3) (nx J + 2) 0 [(x,b)] ((((((J.new (.cells [.str [],.nil (.slice none 0 0)])).new (.cells [.int .i64 0])).new (.cells [.int .i64 0])).set (nx J + 2) (.cells [iV 0])).new (.cells [.nil .nilFunc])).set (nx J + 3) (.cells [.fn (.func 52) [] [.pv [.mp r],.pr (nx J + 3) 0,.pr (nx J + 2) 0]])) := ⟨hS2,by rw [a_,if_pos rfl],(by obtain ⟨v,h9⟩ := hm; exact ⟨v,(hSg r hrl).trans h9⟩),by omega,by omega⟩
 refine Ac (Aa (O1 (Df hCp.gc Agu rfl rfl) (O1 (Ae Bv rfl rfl (A9 (A2 t))) (Ap rfl rfl rfl rfl (f52s x b r (nx J + 3) (nx J + 2) t 0 _ hCp hc Om) ?_))))
 refine O1 (Dg (a := nx J) (off := 0) (cs := [.str [],.nil (.slice none 0 0)]) (cs' := eT (Dz x b t)) (by rw [a_,if_neg Om]; exact hS0) Bv rfl rfl (Bj (A2 _)) (E4 (A2 _))) ?_
 refine Ab (Ac (Ac (Aa (O1 (Df (by rw [a_,if_pos rfl]) Bv rfl (A9 (A2 _))) ?_))))
 refine Ap rfl rfl rfl rfl (f49 (Dz x b t) _ hn hh) (OA rfl (Ab (Ac (Aa (OM rfl (O1 (Cx (q := 0) Jj rfl rfl) (Ab ?_)))))));refine Ah rfl ?_ ?_ <;> intro h1
 ·exact absurd h1 (by simp)
 ·refine Ai (Ac (Aa (O1 (Df (by rw [a_,if_pos rfl]) Bv rfl (A9 (A2 _))) ?_)))
  refine O1 (Dg (a := nx J) (off := 0) (cs := eT (Dz x b t)) (cs' := eT (Dz x b t)) (by rw [a_,if_pos rfl]) Bv rfl rfl (Bj (A2 _)) (E4 rfl)) ?_
  refine O1 (Dg (a := nx J + 1) (off := 0) (cs := [.int .i64 0]) (cs' := [iV 0]) (by rw [a_,if_neg Om,a_,if_neg Om,a_,if_neg Om]; exact hS1) ld46 rfl rfl rfl rfl) ?_
  refine Ab ?_;refine An ?_
  exact ⟨[Bg (Dz x b t),iV 0],B6 (vs := eT (Dz x b t)) Bv rfl (by simp only [Sto.cells]; rw [a_,if_neg Om,a_,if_pos rfl]) (A9 (A2 _)) (B6 (vs := [iV 0]) ld46 rfl (by simp only [Sto.cells]; rw [a_,if_pos rfl]) rfl rfl),.tup [Bg (Dz x b t),iV 0],J,ap_ hw ⟨by rw [Ak,Ak,Ak,Ak,hSn]; omega,fun a ha => by rw [a_,if_neg Om,a_,if_neg Om,a_,if_neg Om,a_,if_neg Om]; exact hSg a ha⟩,nl,.same (by show (AV.und (nx J) (Bg (Dz x b t)) && (true && true)) = true; rw [Ua]; rfl),rfl,rfl⟩
def O3 : Au := .node [] []
theorem Ux {J τ : Sto} : FzL J τ [.str [],.nil (.slice none 0 0)] (eT O3) := .cons (.same rfl) (.cons Ds .nil)
def Jm (d : Db) (t : Au) (x : Str) (b : Au) : Int :=
 if I6 d t = 0 then (if I3 (ofF d).1.rules x = true then (if (Cq (ofF d).1.rules b).isSome = true then (if Wo (ofF d).1 b = (L0 (ofF d).1.rules x).sort then 0 else 11) else 192) else 1) else I6 d t
theorem Ast {ρ : Ao} {J : Sto} {Rr : Rec} {t n kt sz : Nat} {z : AV} {agg : Bool} (hi : mpI Ew.P t = some (kt,z,sz,agg)) (hn : nx J = n) : Bo Ew Rr (.makeMap t none) ρ J (.mp n) (J.new (.map kt [] 0)) := by subst hn; exact Ga hi
theorem Ahu (l : List Rl) (x : Str) : (L0 l x).var = I3 l x := by unfold L0 I3; cases Cf l x <;> rfl
theorem Asu {d : Db} {t : Au} {x : Str} {b : Au} (h : Jm d t x b = 0) : I6 d t = 0 /\ I3 (ofF d).1.rules x = true /\ (Cq (ofF d).1.rules b).isSome = true := by
 unfold Jm at h
 split at h
 ·rename_i h1
  split at h
  ·rename_i h2
   split at h
   ·rename_i h3; exact ⟨h1,h2,h3⟩
   ·cases h
  ·cases h
 ·rename_i h1; exact absurd h h1
theorem f9s (d : Db) (t : Au) (x : Str) (b : Au) (J : Sto) (hD : DbB d) (hvf : d.vars.length + d.frames.length < 1000000) (hb : Bw t <= 4000) (hh : hT t <= 100) (hbb : Bw b <= 4000) (hhb : hT b <= 100) (hsb : Bw (Dz x b t) <= 4000) (hsh : hT (Dz x b t) <= 100) : Cv 9 [dbV d,Bg t,slV eS 3 [⟨x,b⟩]] J (.tup [Bg (if Jm d t x b = 0 then Dz x b t else O3),iV (Jm d t x b)]) := by
 have hG := Xk d;have hgl := hG.len;refine Az Tryz.func9 rfl rfl fun hw hu0 => ?_
 refine Ac (Aa (Ar Hy rfl rfl rfl (Ar Bv rfl (Bj (A2 t)) rfl (O1 (Cw Sk) (OA rfl (Ab (Ac ?_)))))));refine Aa (O1 (Ae Hy rfl rfl rfl) (O1 (Ae Bv rfl rfl (A9 (A2 _))) (Ap rfl rfl rfl rfl (f27 d t _ hD hvf hb hh) (OM rfl (O1 (Al rfl rfl) (O1 (Al rfl rfl) (O1 (Al rfl rfl) ?_)))))));refine Bz Ajp D3 rfl (fun _ => rfl) rfl rfl rfl rfl ?_
 refine OA rfl (OA rfl (Ab (Ac (Ac (Aa (OM rfl (O1 (Cx (q := 0) Jj rfl rfl) ?_)))))));refine Ab ?_;refine Ah rfl ?_ ?_ <;> intro h1
 ·have hC : ¬ I6 d t = 0 := by simpa using h1
  refine Ac (Aa (O1 (B1 Api rfl rfl) (OM rfl (O1 (Dg (a := nx J) (off := 0) (cs := [.str [],.nil (.slice none 0 0)]) (cs' := [.str [],.nil (.slice none 0 0)]) (by rw [ab_,if_pos rfl]) Bv rfl rfl rfl rfl) ?_))))
  refine OA rfl (Ab ?_)
  have hE : Jm d t x b = (I6 d t) := by unfold Jm; rw [if_neg hC]
  have hne : (I6 d t) ≠ (0 : Int) := hC;refine An ?_
  exact ⟨[.agg [.str [],.nil (.slice none 0 0)],iV (I6 d t)],B6 Bv rfl (by simp only [Sto.cells]; rw [a_,if_pos rfl]) rfl (Dj rfl rfl),.tup [Bg O3,iV (I6 d t)],J,ap_ hw ⟨by rw [Ak,Aj]; omega,fun b hb => by rw [a_,if_neg Om,ab_,if_neg Om]⟩,nl,.tup (.cons (.agg Ux) (.cons (.same rfl) .nil)),(by rw [hE,if_neg hne]),rfl⟩
 ·have hC : I6 d t = 0 := by simpa using h1
  refine Ai (Ac (Aa (O1 (Ast (n := nx J + 1) Apo (Aj _ _)) (OA rfl (Ab (Ac (Ac ?_)))))));refine Aa (OM rfl (O1 (Aq sl51 rfl) (OM rfl (Ab (Am ?_)))))
  refine B8 [(⟨x,b⟩ : Sb)].length (fun i0 => [(4,.pv (eT t)),(6,.pr (nx J) 0),(8,.pv [A3 (ofF d).1.sorts,slV eR 4 (ofF d).1.rules]),(11,.mp (nx J + 1)),(31,slV eS 3 [⟨x,b⟩]),(32,iV (.ofNat [(⟨x,b⟩ : Sb)].length)),(33,iV (.ofNat i0))]) (fun i0 J0 => J0.get (nx J) = some (.cells [.str [],.nil (.slice none 0 0)]) /\ Below (nx J) J J0 /\ ((i0 = 0 /\ Bx Bg J0 (nx J + 1) []) ∨ (i0 = 1 /\ Bx Bg J0 (nx J + 1) [(x,b)] /\ Jm d t x b = 0))) SL ⟨(by rw [ab_,if_neg (by rw [Aj]; omega),ab_,if_pos rfl]),⟨by rw [Aj,Aj]; omega,fun b hb => by rw [ab_,if_neg (by rw [Aj]; omega),ab_,if_neg Om]⟩,.inl ⟨rfl,⟨0,by rw [ab_,if_pos (by rw [Aj])]; rfl⟩⟩⟩ ?_
  rintro i0 J0 hi0 ⟨hc0,hB0,hor⟩;refine Ac (Aa (O1 (A8 ok3 rfl rfl) (Ab (Ac ?_))));refine Ah rfl ?_ ?_ <;> intro h2
  ·have bf : i0 < [(⟨x,b⟩ : Sb)].length := by have h9 : (↑i0 : Int) < ↑([(⟨x,b⟩ : Sb)].length) := of_decide_eq_true h2; exact Int.ofNat_lt.1 h9
   obtain ⟨a0,ha0⟩ := Bt bf;have hd0 := Bh ha0
   obtain rfl : i0 = 0 := by simpa using bf
   obtain rfl : a0 = ⟨x,b⟩ := by have := ha0; simpa using this.symm
   have hm0 : Bx Bg J0 (nx J + 1) [] := by
    rcases hor with ⟨_,h⟩ | ⟨h,_⟩
    ·exact h
    ·cases h
   obtain ⟨ver,hvm⟩ := id hm0;refine Ai (Ac (Am (Ac (Aa (O1 (Ax el51 Ai3 rfl rfl ha0) (O1 (Ae ld50 rfl rfl (Cj (Ai3 _) _)) (Bz zi50 ld50 rfl (fun _ => rfl) rfl (Bj (Ai3 _)) rfl rfl ?_)))))))
   refine Ab (Ac (Aa (O1 (Ae D3 rfl rfl rfl) (O1 (Ad Ajm rfl rfl) (O1 (Ae ld9 rfl rfl rfl) (Ap rfl rfl rfl rfl (f28 (ofF d).1 x _ Om) ?_))))));refine Bz X1 Ey rfl (fun _ => rfl) rfl rfl rfl rfl ?_
   refine Ab (Ac (Ac (Aa (O1 (Ad Aan rfl rfl) (O1 (Ae ld4 rfl rfl rfl) (O1 (Bb rfl) (Ab ?_)))))));refine Ah rfl ?_ ?_ <;> intro h3
   ·have hV : ¬ I3 (ofF d).1.rules x = true := by rw [← Ahu]; simpa using h3
    refine Ac (Aa (O1 (B1 Api rfl rfl) (O1 (Dg (a := nx J) (off := 0) (cs := [.str [],.nil (.slice none 0 0)]) (cs' := [.str [],.nil (.slice none 0 0)]) hc0 Bv rfl rfl rfl rfl) (OA rfl (Ab ?_)))))
    have hE : Jm d t x b = 1 := by unfold Jm; rw [if_pos hC,if_neg hV]
    have hne : 1 ≠ (0 : Int) := by decide
    refine An ?_
    exact ⟨[.agg [.str [],.nil (.slice none 0 0)],iV 1],B6 Bv rfl (by simp only [Sto.cells]; rw [a_,if_pos rfl]) rfl (Dj rfl rfl),.tup [Bg O3,iV 1],J,ap_ hw ⟨by rw [Ak]; exact hB0.1,fun b hb => by rw [a_,if_neg Om]; exact hB0.2 b hb⟩,nl,.tup (.cons (.agg Ux) (.cons (.same rfl) .nil)),(by rw [hE,if_neg hne]),rfl⟩
   ·have hV : I3 (ofF d).1.rules x = true := by rw [← Ahu]; simpa using h3
    refine Ai (Ac (Ac (Aa (OM rfl (O1 (Ad Ajm rfl rfl) (O1 (Ae ld9 rfl rfl rfl) (O1 (Kf st9 Apo rfl hm0 rfl) ?_)))))));refine OM rfl (O1 (Al rfl rfl) (O1 (Al rfl rfl) (Bz Sk Bv rfl (fun _ => rfl) rfl rfl rfl rfl ?_)))
    refine OA rfl (Ab (Ac (Aa (OM rfl (Ab ?_)))));refine Ah rfl ?_ ?_ <;> intro h4
    ·exact absurd (show false = true from h4) (by decide)
    ·skip
     refine Ai (Ac (Aa (O1 (Ae D3 rfl rfl rfl) (O1 (Ad Apk rfl rfl) (O1 (Ae Bv rfl rfl (A9 (A2 _))) (Ap rfl rfl rfl rfl (f29 (ofF d).1 b _ (Xk d) (Aqy d) Aj4 hbb hhb) (OM rfl ?_)))))));refine O1 (Al rfl rfl) (O1 (Al rfl rfl) (OA rfl (OA rfl (Ab (Ac (Ac (Aa ?_)))))));refine OM rfl (O1 (Cx (q := 0) Jj rfl rfl) (Ab ?_));refine Ah rfl ?_ ?_ <;> intro h5
     ·have hF : ¬ (Cq (ofF d).1.rules b).isSome = true := fun h => by unfold okC at h5; rw [if_pos h] at h5; exact absurd h5 (by simp)
      refine Ac (Aa (O1 (B1 Api rfl rfl) (OM rfl (O1 (Dg (a := nx J) (off := 0) (cs := [.str [],.nil (.slice none 0 0)]) (cs' := [.str [],.nil (.slice none 0 0)]) hc0 Bv rfl rfl rfl rfl) (OA rfl (Ab ?_))))))
      have hE : Jm d t x b = (okC (ofF d).1 b 192) := by unfold Jm; rw [if_pos hC,if_pos hV,if_neg hF]; unfold okC; rw [if_neg hF]
      have hne : (okC (ofF d).1 b 192) ≠ (0 : Int) := by unfold okC; rw [if_neg hF]; decide
      refine An ?_
      exact ⟨[.agg [.str [],.nil (.slice none 0 0)],iV (okC (ofF d).1 b 192)],B6 Bv rfl (by simp only [Sto.cells]; rw [a_,if_pos rfl]) rfl (Dj rfl rfl),.tup [Bg O3,iV (okC (ofF d).1 b 192)],J,ap_ hw ⟨by rw [Ak]; exact hB0.1,fun b hb => by rw [a_,if_neg Om]; exact hB0.2 b hb⟩,nl,.tup (.cons (.agg Ux) (.cons (.same rfl) .nil)),(by rw [hE,if_neg hne]),rfl⟩
     ·have hF : (Cq (ofF d).1.rules b).isSome = true := by
       cases hh : (Cq (ofF d).1.rules b).isSome with
       | true => rfl
       | false => unfold okC at h5; rw [hh] at h5; exact absurd h5 (by simp)
      refine Ai (Ac (Ac (Aa (OM rfl (O1 (Ad Aev rfl rfl) (O1 (Ae ld9 rfl rfl rfl) (O1 (Lx ok9 rfl rfl) ?_)))))));refine Ab ?_;refine Ah rfl ?_ ?_ <;> intro h6
      ·have hQ : ¬ Wo (ofF d).1 b = (L0 (ofF d).1.rules x).sort := by simpa using h6
       refine Ac (Aa (O1 (B1 Api rfl rfl) (O1 (Dg (a := nx J) (off := 0) (cs := [.str [],.nil (.slice none 0 0)]) (cs' := [.str [],.nil (.slice none 0 0)]) hc0 Bv rfl rfl rfl rfl) (OA rfl (Ab ?_)))))
       have hE : Jm d t x b = 11 := by unfold Jm; rw [if_pos hC,if_pos hV,if_pos hF,if_neg hQ]
       have hne : 11 ≠ (0 : Int) := by decide
       refine An ?_
       exact ⟨[.agg [.str [],.nil (.slice none 0 0)],iV 11],B6 Bv rfl (by simp only [Sto.cells]; rw [a_,if_pos rfl]) rfl (Dj rfl rfl),.tup [Bg O3,iV 11],J,ap_ hw ⟨by rw [Ak]; exact hB0.1,fun b hb => by rw [a_,if_neg Om]; exact hB0.2 b hb⟩,nl,.tup (.cons (.agg Ux) (.cons (.same rfl) .nil)),(by rw [hE,if_neg hne]),rfl⟩
      ·have hQ : Wo (ofF d).1 b = (L0 (ofF d).1.rules x).sort := by simpa using h6
       refine Ai (Aa (OM rfl (O1 (Ad Ajm rfl rfl) (O1 (Ae ld9 rfl rfl rfl) (O1 (Ad Apk rfl rfl) (O1 (Ae Bv rfl rfl (A9 (A2 _))) (O1 (E8 (v := b) st9 Apo rfl hvm rfl rfl (fun te k1 k2 => by first | exact Fq k1 k2 | exact Fs k1 k2 | exact Ge k1 k2 | exact Gf k1 k2 | exact Ft k1 k2 (A2 b))) ?_)))))))
       refine Ab (Aa (O1 (Ay (q := 1) ok3 rfl rfl Om) ?_));refine OM rfl (Ab ?_)
       refine ⟨bf,SL,(by rw [a_,if_neg Om]; exact hc0),⟨by rw [Ak]; exact hB0.1,fun b hb => by rw [a_,if_neg Om]; exact hB0.2 b hb⟩,.inr ⟨rfl,dh_,(by unfold Jm; rw [if_pos hC,if_pos hV,if_pos hF,if_pos hQ])⟩⟩
  ·have bq : 1 <= i0 := by have h9 : ¬ (↑i0 : Int) < ↑([(⟨x,b⟩ : Sb)].length) := of_decide_eq_false h2; have h8 : ¬ i0 < 1 := fun hh => h9 (Int.ofNat_lt.2 hh); omega
   obtain ⟨hm1,hE⟩ : Bx Bg J0 (nx J + 1) [(x,b)] /\ Jm d t x b = 0 := by
    rcases hor with ⟨h,_⟩ | ⟨_,h⟩
    ·omega
    ·exact h
   refine Ba ?_;refine Ac (Aa (O1 (Ae Bv rfl rfl (A9 (A2 _))) (OM rfl (Ap rfl rfl rfl rfl (f30 x b t (nx J + 1) _ hm1 Om hsb hsh) ?_))));refine O1 (Al rfl rfl) (O1 (Al rfl rfl) (O1 (Dg (a := nx J) (off := 0) (cs := [.str [],.nil (.slice none 0 0)]) (cs' := eT (Dz x b t)) hc0 Bv rfl rfl (Bj (A2 _)) (E4 (A2 (Dz x b t)))) (OA rfl (Ab ?_))));refine An ?_
   exact ⟨[Bg (Dz x b t),iV 0],B6 (vs := eT (Dz x b t)) Bv rfl (by simp only [Sto.cells]; rw [a_,if_pos rfl]) (A9 (A2 _)) (Dj rfl rfl),.tup [Bg (Dz x b t),iV 0],J,ap_ hw ⟨by rw [Ak]; exact hB0.1,fun b hb => by rw [a_,if_neg Om]; exact hB0.2 b hb⟩,nl,.same (by show (AV.und (nx J) (Bg (Dz x b t)) && (true && true)) = true; rw [Ua]; rfl),(by rw [hE,if_pos rfl]),rfl⟩
theorem Al4 (t : Tb) : (eTb t).length = 2 := rfl
theorem Ahv {N : Nat} (t : Tb) : AV.unds N (eTb t) = true := by
 show (AV.und N (sV t.label) && (AV.und N (slV eI 1 t.vals) && true)) = true
 rw [show AV.und N (slV eI 1 t.vals) = true from Ez (fun _ => rfl) _]; rfl
theorem f8o (m : Md) (J : Sto) (hb : m.tabs.length < 1000000) : Cv 8 [mdV m] J (mdV m) := by
 refine Az Tryz.func8 rfl rfl fun hw hu0 => ?_
 refine Ac (Aa (Ar Apg rfl rfl rfl (O1 (Cw zi40) (Ab (Ac (Aa (O1 (Ad Auf rfl rfl) ?_)))))))
 refine O1 (Ae ld3 rfl rfl rfl) (O1 (Ad Aph rfl rfl) (O1 (Ae Wc rfl rfl rfl) (O1 (B1 bd40 rfl rfl) (O1 (I5 (n := nx J + 1) zi40 (Aj _ _)) (O1 (Dg (a := nx J + 1) (off := 0) (cs := [.int .i64 0,.nil (.slice none 0 0),.nil (.slice none 0 0)]) (cs' := [iV m.n,slV eI 1 m.des,.nil (.slice none 0 0)]) (by rw [ab_,if_pos (Aj _ _).symm]) Aaj rfl rfl rfl rfl) ?_)))))
 refine Ab (Ac (Ac (Aa (O1 (Ad Ajk rfl rfl) (O1 (Ae ld27 rfl rfl rfl) (O1 (Aq sl27 rfl) (OM rfl ?_)))))));refine Ab (Am ?_)
 refine B8 m.tabs.length (fun i0 => [(2,.pr (nx J) 0),(3,.pr (nx J + 1) 0),(12,slV eTb 2 m.tabs),(13,iV (.ofNat m.tabs.length)),(14,iV (.ofNat i0))]) (fun i0 J0 => ∃ v,J0.get (nx J) = some (.cells [.int .i64 0,.nil (.slice none 0 0),.nil (.slice none 0 0)]) /\ J0.get (nx J + 1) = some (.cells [iV m.n,slV eI 1 m.des,v]) /\ Own J0 (nx J + 2) eTb 2 (m.tabs.take i0) v /\ nx J + 2 <= nx J0 /\ (∀ b,b < nx J -> J0.get b = J.get b)) SL ⟨.nil (.slice none 0 0),(by rw [a_,if_neg Om,ab_,if_neg (by rw [Aj]; omega),ab_,if_pos rfl]),(by rw [a_,if_pos rfl]),.nil,(by rw [Ak,Aj,Aj]; omega),fun b hb => by rw [a_,if_neg Om,ab_,if_neg (by rw [Aj]; omega),ab_,if_neg Om]⟩ ?_
 rintro i0 J0 hi0 ⟨v,hc0,hc1,bn,hn0,hg0⟩;refine Ac (Aa (O1 (A8 ok3 rfl rfl) (Ab (Ac ?_))));refine Ah rfl ?_ ?_ <;> intro h1
 ·have bf : i0 < m.tabs.length := by simpa using h1
  obtain ⟨a0,ha0⟩ := Bt bf;have hd0 := Bh ha0
  have bh : ((m.tabs.take i0).length + [a0].length) * (40 + 1) <= sizeLim := by rw [bl_]; simp [sizeLim]; omega
  obtain ⟨v1,τ1,hap,ho1,hb1,_⟩ := bn.app (by' := 40) Al4 hn0 [a0] bh
  have hn1 := hb1.1;have hc1t : τ1.get (nx J + 1) = some (.cells [iV m.n,slV eI 1 m.des,v]) := (hb1.2 _ Om).trans hc1;refine Ai (Ac (Am (Ac (Aa (O1 (Ax el27 (fun _ => rfl) rfl rfl ha0) ?_)))))
  refine O1 (Ae Apm rfl rfl rfl) (Bz zi69 Apm rfl (fun _ => rfl) rfl rfl rfl rfl ?_)
  refine Ab (Aa (O1 (Ad Ajl rfl rfl) (O1 (Df hc1 ld38 rfl rfl) (O1 (Ae Apm rfl rfl rfl) (E6 (Bn el38 byW rfl rfl rfl) (Gd (len := 1)) rfl rfl (O1 (B0 el38 rfl sl38 rfl rfl rfl (new := [a0].flatMap eTb) rfl hap) (O1 (Ad Ajl rfl rfl) ?_)))))));refine O1 (Dg (a := nx J + 1) (off := 2) (cs := [iV m.n,slV eI 1 m.des,v]) (cs' := [iV m.n,slV eI 1 m.des,v1]) hc1t ld38 rfl rfl (Mi ho1) rfl) (Ab (Aa (O1 (Ay (q := 1) ok3 rfl rfl Om) ?_)));refine OM rfl (Ab ?_)
  refine ⟨bf,SL,v1,(by rw [a_,if_neg Om]; exact (hb1.2 _ Om).trans hc0),(by rw [a_,if_pos rfl]),(by rw [Ci ha0]; exact ho1.mono (by rw [Ak]; exact nl) fun a tl _ h8 _ _ => by rw [a_,if_neg Om]),(by rw [Ak]; omega),fun b hb => by rw [a_,if_neg Om]; exact (hb1.2 _ Om).trans (hg0 b hb)⟩
 ·have bq : m.tabs.length <= i0 := by simpa using h1
  rw [at_ bq] at bn;refine Ba ?_;refine Ac (Aa (O1 (Df hc1 Aaj rfl rfl) (O1 (Dg (a := nx J) (off := 0) (cs := [.int .i64 0,.nil (.slice none 0 0),.nil (.slice none 0 0)]) (cs' := [iV m.n,slV eI 1 m.des,v]) hc0 Aaj rfl rfl rfl rfl) (Ab ?_))));refine An ?_
  exact ⟨[.agg [iV m.n,slV eI 1 m.des,v]],B6 Aaj rfl (by simp only [Sto.cells]; rw [a_,if_pos rfl]) rfl rfl,_,J,ap_ hw ⟨by rw [Ak]; omega,fun b hb => by rw [a_,if_neg Om]; exact hg0 b hb⟩,nl,.agg (.cons (.same rfl) (.cons (.same (Ez (fun _ => rfl) _)) (.cons ((bn.mono (by rw [Ak]; exact nl) fun a tl _ h8 _ _ => by rw [a_,if_neg Om]).fz Al4 (fun a ha => hw.none Om) (Co Ahv _)) .nil))),rfl,rfl⟩
theorem Ahw (k : Kn) (l : List Str) : 0 <= k.textF l := by
 unfold Kn.textF
 repeat' split
 all_goals omega
theorem Asv (k : Kn) (h : Hp) : 0 <= hypT k h := by unfold hypT; split <;> omega
theorem Asw (k : Kn) (lab : SM Bool) (ty : SM Str) (h : Hp) (du : Bool) : 0 <= Ur k lab ty h du := by
 have h1 := Ahw k h.text;have h2 := Asv k h;unfold Ur
 repeat' split
 all_goals omega
theorem Ahx (k : Kn) (nh : Nat) : ∀ (l : List Hp) (i : Nat) (lab : SM Bool) (ty : SM Str),0 <= (Ik k nh l i lab ty).1
 | [],_,_,_ => by unfold Ik; simp
 | h :: r,i,lab,ty => by
  unfold Ik
  split
  ·exact Asw ..
  ·exact Ahx k nh r ..
theorem Aq0 (k : Kn) (f : Fr) : 0 <= Jk k f := by
 unfold Jk
 repeat' split
 all_goals omega
theorem Ans (pw : Str -> Bool) (k : Kn) (f : Fr) (before : List Hp) : 0 <= Es pw k f before := by
 have h1 := Ahx (k.fr f.label) f.hyps.length f.all 0 [] [];have h2 := Ahw (k.fr f.label) f.text;have h3 := Aq0 (k.fr f.label) f;unfold Es
 repeat' split
 all_goals omega
theorem Add (pw : Str -> Bool) : ∀ (l : List Fr) (k : Kn) (before : List Hp),0 <= Hi pw l k before
 | [],_,_ => by unfold Hi; omega
 | f :: r,k,before => by
  unfold Hi
  split
  ·exact Ans ..
  ·exact Add pw r ..
theorem Al5 : ∀ (l : List Str) (k : Kn),0 <= (Qj l k).1
 | [],k => by unfold Qj; simp
 | c :: r,k => by unfold Qj; have := Al5 r { k with vars := k.vars.put c true }; cases O5 c <;> cases k.isSym c <;> simp [this]
theorem Asx (d : Db) (k : Kn) : 0 <= (Jr d k).1 := by
 unfold Jr
 split
 ·exact Al5 ..
 ·rcases Alj d.consts k with h | h | h <;> omega
theorem Ant (pw : Str -> Bool) (d : Db) : 0 <= Et pw d := by
 have h1 := Asx d kn0;have h2 := Add pw d.frames (Jr d kn0).2 [];unfold Et
 repeat' split
 all_goals omega
theorem Aq1 (d : Db) : 0 <= (ofF d).2 := by
 have h1 := Ant Ei d
 have h2 : 0 <= Dt d := by
  unfold Dt
  repeat' split
  all_goals omega
 unfold ofF
 repeat' split
 all_goals (try omega)
 all_goals (show (0 : Int) <= _; simp; try omega)
end Go.AM
