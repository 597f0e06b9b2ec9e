/- A part of the proof; shortened by program. -/
import Derived.Test.YtcnkdbldfpaebaaGreatDoorP25
set_option maxRecDepth 100000
set_option maxHeartbeats 4000000
set_option linter.unusedSimpArgs false
set_option linter.unusedVariables false
namespace Go.AM
open Go Go.Proofs
def Anq (l : List Int) : AV := slV eI 1 l
theorem Ada : ∀ {l : List AV} {i : Nat} {v : AV},i < l.length -> D9 l i [v] = some (l.set i v)
 | [],i,v,h => by simp at h
 | x :: r,0,v,_ => by cases r <;> rfl
 | x :: r,i + 1,v,h => by
  have := Ada (l := r) (i := i) (v := v) (by simpa using h)
  simp only [D9,this,List.set_cons_succ]
def Ny (d : Db) (g : Gr) (n : Int) (b : List AV) (r : Nat) : List AV := [A3 d.consts,A3 d.vars,slV eF 8 d.frames,A3 g.sorts,slV eR 4 g.rules,iV n] ++ b ++ [.mp r]
theorem Aj3 {d : Db} {g : Gr} {n : Int} {b : List AV} {r i : Nat} {v : AV} (hb : b.length = 5) (hi : i < 5) : D9 (Ny d g n b r) (6 + i) [v] = some (Ny d g n (b.set i v) r) := by
 have hl : ([A3 d.consts,A3 d.vars,slV eF 8 d.frames,A3 g.sorts,slV eR 4 g.rules,iV n] : List AV).length = 6 := rfl
 rw [Ada (by simp only [Ny,az_,hb,hl,cw_]; omega)]
 congr 1
 unfold Ny
 rw [cf_,cf_,List.set_append_right _ _ (by rw [hl]; omega),hl,show 6 + i - 6 = i by omega,List.set_append_left _ _ (by rw [hb]; exact hi)]
theorem Aho {d : Db} {g : Gr} {n : Int} {b : List AV} {r : Nat} : Iq 1 false ((Ny d g n b r).drop 5) = some (iV n) := rfl
theorem Aqu {d : Db} {g : Gr} {n : Int} {b : List AV} {r : Nat} : Iq 2 true ((Ny d g n b r).drop 3) = some (grV g) := rfl
theorem Uw {d : Db} {g : Gr} {n : Int} {b : List AV} {r : Nat} (hb : b.length = 5) : Iq 1 false ((Ny d g n b r).drop 11) = some (.mp r) := by
 match b,hb with
 | [_,_,_,_,_],_ => rfl
structure K9 (d : Db) (g : Gr) (n : Int) (tm : SM (List Int)) (N a r : Nat) (J : Sto) : Prop where
 cl : ∃ b,b.length = 5 /\ J.get a = some (.cells (Ny d g n b r))
 mp : Bx Anq J r tm
 na : N <= a
 nr : N <= r
 ar : a ≠ r
theorem K9.of_get {d : Db} {g : Gr} {n : Int} {tm : SM (List Int)} {N a r : Nat} {J τ : Sto} (h : K9 d g n tm N a r J) (ha : τ.get a = J.get a) (hr : τ.get r = J.get r) : K9 d g n tm N a r τ := by
 obtain ⟨⟨b,h1,h2⟩,⟨ver,h3⟩,h4,h5,h6⟩ := h;exact ⟨⟨b,h1,ha.trans h2⟩,⟨ver,hr.trans h3⟩,h4,h5,h6⟩
theorem f54 (d : Db) (g : Gr) (n : Int) (l : List Int) (J : Sto) (hb : l.length < 1000000) (hl : ∀ x ∈ l,0 <= x /\ x < 5) : A6 Ew 54 [dbV d,grV g,iV n,slV eI 1 l] J fun v J' => v = .pr (nx J + 1) 0 /\ K9 d g n [] (nx J) (nx J + 1) (nx J) J' /\ Below (nx J) J J' := by
 refine Az Tryz.func54 rfl rfl fun hw hu0 => ?_
 refine Ac (Aa (Ar Hy rfl rfl rfl (Ar D3 rfl rfl rfl (OA rfl (Ab (Ac (Aa ?_)))))));refine O1 (Ae Hy rfl rfl rfl) (O1 (Ae D3 rfl rfl rfl) (OM rfl (O1 (Ga Agt) (O1 (B1 bd105 rfl rfl) (O1 (Aoq ld105 rfl rfl) ?_)))));rw [Aj];refine OA rfl (Ab (Ac (Ac (Aa (OM rfl (O1 (Aq Aep rfl) (OM rfl ?_)))))));refine Ab (Am ?_)
 refine B8 l.length (fun i0 => [(9,.pr (nx J + 1) 0),(18,slV eI 1 l),(19,iV (.ofNat l.length)),(20,iV (.ofNat i0))]) (fun i0 J0 => K9 d g n [] (nx J) (nx J + 1) (nx J) J0 /\ Below (nx J) J J0) SL ⟨⟨⟨List.replicate 5 (.bool false),rfl,by rw [ab_,if_pos (Aj _ _).symm]; rfl⟩,⟨0,by rw [ab_,if_neg (by rw [Aj]; omega),ab_,if_pos rfl]; rfl⟩,by omega,nl,by omega⟩,⟨by rw [Aj,Aj]; omega,fun b hb => by rw [ab_,if_neg (by rw [Aj]; omega),ab_,if_neg Om]⟩⟩ ?_
 rintro i0 J0 hi0 ⟨hS0,hB0⟩;refine Ac (Aa (O1 (A8 ok3 rfl rfl) (Ab (Ac ?_))));refine Ah rfl ?_ ?_ <;> intro h1
 ·have bf : i0 < l.length := by simpa using h1
  obtain ⟨a0,ha0⟩ := Bt bf;have hd0 := Bh ha0;obtain ⟨k,hk⟩ := Int.eq_ofNat_of_zero_le (hl a0 (af_ ha0)).1
  have hk5 : k < 5 := by have := (hl a0 (af_ ha0)).2; omega
  have hkv : (iV a0) = .int .i64 (.ofNat k) := congrArg iV hk;obtain ⟨bs,hbl,hbc⟩ := hS0.cl;refine Ai (Ac (Am (Ac (Aa (O1 (Ax Agr (fun _ => rfl) rfl rfl ha0) ?_)))))
  refine O1 (Ae ld3 rfl rfl rfl) (OA rfl (Ab (Aa (OM rfl (OM rfl (O1 (Hq rfl) (O1 (Ad Ar9 rfl rfl) ?_)))))))
  refine O1 (Lm (v := .pr (nx J + 1) (6 + k * 1)) ar102 rfl (congrArg some hkv) hk5 rfl) (O1 (Dg (c := [.bool true]) hbc ld4 rfl rfl rfl (by rw [ey_]; exact Aj3 hbl hk5)) ?_)
  refine Ab (Aa (O1 (Ay (q := 1) ok3 rfl rfl Om) ?_));refine OM rfl (Ab ?_)
  refine ⟨bf,SL,⟨⟨bs.set k (.bool true),by rw [List.length_set]; exact hbl,by rw [a_,if_pos rfl]⟩,(by obtain ⟨ver,h9⟩ := hS0.mp; exact ⟨ver,by rw [a_,if_neg Om]; exact h9⟩),hS0.na,hS0.nr,hS0.ar⟩,⟨by rw [Ak]; exact hB0.1,fun b hb => by rw [a_,if_neg Om]; exact hB0.2 b hb⟩⟩
 ·have bq : l.length <= i0 := by simpa using h1
  refine Dp fun hw1 => ?_
  refine Ba ?_;refine Ac (Aa (OM rfl (OA rfl (Ab ?_))));refine An ?_
  exact ⟨_,rfl,.pr (nx J + 1) 0,_,ag_ hw1 nl (fun _ _ => rfl),hB0.1,.same (Dk (by obtain ⟨_,_,hbc⟩ := hS0.cl; exact (hw1 _ _ hbc).1)),rfl,hS0,hB0⟩
theorem Aqv {tm : SM (List Int)} {n : Int} {f : Str -> Int} {ks : List Au} {i : Nat} {a : Au} (h : ks[i]? = some a) : atF n (evL tm n f (ks.take (i + 1))) = atF n (evL tm n f (ks.take i)) * n + evT tm n f a := by
 rw [Ci h,Lp,cc_,← Lp];exact Alx _ _ _
theorem Al3 {n : Int} (hn : 1 <= n) {i : Nat} : ∀ j,n ^ i <= n ^ (i + j)
 | 0 => Int.le_refl _
 | j + 1 => by
  have h1 := Al3 hn (i := i) j;have h2 : n ^ (i + j) * 1 <= n ^ (i + j) * n := Int.mul_le_mul_of_nonneg_left hn (Int.pow_nonneg Om);rw [← e_,Int.pow_succ];omega
theorem Asq {g : List Rl} {tm : SM (List Int)} {n : Int} {f : Str -> Int} (ht : Abq g tm n) (hf : ∀ s,0 <= f s /\ f s < n) {s : Str} {ks : List Au} {tab : List Int} (ho : okT g (.node s ks) = true) (hs : tm.get s = some tab) {i : Nat} (hi : i <= ks.length) : 0 <= atF n (evL tm n f (ks.take i)) /\ atF n (evL tm n f (ks.take i)) < 10001 := by
 obtain ⟨r,h1,h2,h3⟩ := ht.key s tab hs
 have bx : Eh r = ks.length := by
  unfold okT at ho;rw [h1] at ho;simp only [ad_,decide_eq_true_eq] at ho;exact ho.1
 have hn := ht.n1
 obtain ⟨k1,k2⟩ := Ac2 hn (evL tm n f (ks.take i)) fun v hv => by
  rw [Lp] at hv;obtain ⟨k,hk,rfl⟩ := by_.1 hv;exact Uu ht hf k (Rc ho k (cy_ hk))
 have hl : (evL tm n f (ks.take i)).length = i := by rw [Lp,cs_,bl_]; omega
 rw [hl] at k2
 have h4 : n ^ i <= n ^ Eh r := by
  have := Al3 hn (i := i) (Eh r - i)
  rwa [show i + (Eh r - i) = Eh r by omega] at this
 have h5 := ht.len s tab hs;rw [← h3] at h4;simp only [am_] at h4
 exact ⟨k1,by omega⟩
def byM (vm : SM Int) (s : Str) : Int := (vm.get s).getD 0
theorem f36n (d : Db) (g : Gr) (n : Int) (tm : SM (List Int)) (vm : SM Int) (s : Str) (ks : List Au) (N a r q : Nat) (J : Sto) (hS : K9 d g n tm N a r J) (hv : Bx iV J q vm) (ht : Abq g.rules tm n) (h5 : n <= 5) (hf : ∀ s,0 <= byM vm s /\ byM vm s < n) (ho : okT g.rules (.node s ks) = true) (hb : ks.length < 1000000) (ih : ∀ k ∈ ks,Cv 36 [.pr a 0,Bg k,.mp q] J (iV (evT tm n (byM vm) k))) : Cv 36 [.pr a 0,Bg (.node s ks),.mp q] J (iV (evT tm n (byM vm) (.node s ks))) := by
 rw [Gi];obtain ⟨bs,hbl,hbc⟩ := hS.cl;refine Az Tryz.func36 rfl rfl fun hw hu0 => ?_
 refine Ac (Aa (Ar Bv rfl rfl rfl (OA rfl (Ab (Ac ?_)))));refine Fx (anns := [aP 0 0,aP 0 0,aP 0 0,aR 0 0,aP 0 0,aR 0 0,aR 0 0,aP 0 0,aP 0 0,aP 0 0,aP 0 0,aP 0 0]) A1 Kr Kr ?_;refine DF (Ag rfl) (DF (Hq rfl) (DF (Ad Ye rfl rfl) (DF (Df hbc Ak6 rfl (Uw hbl)) (DF (Ad I1 rfl rfl) (DF (Ae ld9 rfl rfl rfl) (DF (Kf st9 Agt rfl hS.mp rfl) (DF (Ag rfl) ?_)))))));refine DF (Al rfl rfl) (DF (Al rfl rfl) (DF (Bk rfl) (DF (Bk rfl) (Bi ?_))));refine ⟨rfl,rfl,?_⟩;refine Ac (Ac (Aa (OM rfl (O1 (Bb rfl) (Ab ?_)))));refine Ah rfl ?_ ?_ <;> intro h1
 ·have hs : tm.get s = none := by
   cases hh : tm.get s with
   | none => rfl
   | some x => rw [hh] at h1; simp at h1
  refine Ac (Aa (OM rfl (O1 (Ad I1 rfl rfl) (O1 (Ae ld9 rfl rfl rfl) (O1 (Aej st9 Uh rfl hv rfl) (OA rfl (Ab ?_)))))));refine An ?_
  refine ⟨_,rfl,_,_,ag_ hw nl (fun _ _ => rfl),nl,.same (by cases vm.get s <;> rfl),?_,rfl⟩
  rw [evT,hs]; show _ = iV (byM vm s); unfold byM; cases vm.get s <;> rfl
 ·obtain ⟨tab,hs⟩ : ∃ tab,tm.get s = some tab := by
   cases hh : tm.get s with
   | none => rw [hh] at h1; simp at h1
   | some x => exact ⟨x,rfl⟩
  refine Ai (Ac (Aa (OA rfl (Ab (Ac (Ac (Aa ?_)))))));refine O1 (Ad Gg rfl rfl) (O1 (Ae Mf rfl rfl rfl) (O1 (Aq Wd rfl) (OM rfl (Ab (Am ?_)))))
  refine B8 ks.length (fun i0 => [(0,.pr a 0),(2,.mp q),(7,Anq tab),(9,iV (atF n (evL tm n (byM vm) (ks.take i0)))),(29,slV eT 2 ks),(30,iV (.ofNat ks.length)),(31,iV (.ofNat i0))]) (fun i0 J0 => J0 = J) ⟨rfl,rfl,(show some (((tm.get s).map Anq).getD (.nil (.slice none 0 0))) = some (Anq tab) by rw [hs]; rfl),rfl,rfl,rfl,rfl,trivial⟩ rfl ?_
  rintro i0 J0 hi0 rfl;refine Ac (Aa (O1 (A8 ok3 rfl rfl) (Ab (Ac ?_))));refine Ah rfl ?_ ?_ <;> intro h2
  ·have bf : i0 < ks.length := by simpa using h2
   obtain ⟨a0,ha0⟩ := Bt bf;have hd0 := Bh ha0;obtain ⟨hr1,hr2⟩ := Asq ht hf ho hs hi0;obtain ⟨hr3,hr4⟩ := Uu ht hf a0 (Rc ho a0 (af_ ha0));have hn1 := ht.n1;have hm0 : atF n (evL tm n (byM vm) (ks.take i0)) * n <= 10000 * 5 := Int.mul_le_mul Om h5 Om Om;have hm1 : 0 <= atF n (evL tm n (byM vm) (ks.take i0)) * n := Int.mul_nonneg hr1 Om;have e9 := Aqv (tm := tm) (n := n) (f := byM vm) ha0;refine Ai (Ac (Am (Ac (Aa (O1 (Ax Aai A2 rfl rfl ha0) (O1 (Ae Bv rfl rfl (Cj (A2 a0) _)) (Bz Sk Bv rfl (fun _ => rfl) rfl (Bj (A2 a0)) rfl rfl ?_)))))))
   refine Ab ?_;refine Ig 1 (anns := [aP 0 1,aP 0 1,aP 0 1,aP 0 1,aR 0 1,aP 0 1,aP 0 0,aR 0 0,aP 0 0,aE 0 1,aP 1 1,aP 1 1]) A1 (As (l := [(36,[.pr a 0,Bg a0,.mp q],J0,iV (evT tm n (byM vm) a0),J0)]) ⟨ih a0 (af_ ha0),trivial⟩) Kr Kr ?_;refine DF (Ag rfl) (DF (Ag rfl) (DF (Hq rfl) (DF (Ad Ak7 rfl rfl) (DF (Df hbc ld3 rfl Aho) (DF (Al0 ok3 rfl rfl Om Om) ?_)))));refine DF (Ag rfl) (DF (Ae Bv rfl rfl (A9 (A2 _))) (DF (Ag rfl) (DT (Bl rfl rfl Bm) (DF (Aku ok3 rfl rfl Om Om) ?_))));refine DF (Bk rfl) (Bi ?_)
   refine ⟨(by intro e he; simp at he; rcases he with rfl | rfl <;> exact .refl),?_⟩
   refine Aa (O1 (Ay (q := 1) ok3 rfl rfl Om) ?_);refine OM rfl (Ab ?_);refine ⟨bf,⟨rfl,rfl,rfl,congrArg (fun x => some (iV x)) e9.symm,rfl,rfl,rfl,trivial⟩,rfl⟩
  ·have bq : ks.length <= i0 := by simpa using h2
   obtain ⟨hq1,hq2⟩ := ev_at ht hf ho hs;obtain ⟨x,hx⟩ := Bt hq2
   have hxe : atF n (evL tm n (byM vm) (ks.take i0)) = Int.ofNat (atF n (evL tm n (byM vm) ks)).toNat := by rw [at_ bq]; exact (Int.toNat_of_nonneg hq1).symm
   refine Ba ?_;refine Ac (Aa (OM rfl (OM rfl (O1 (Ax Agr (fun _ => rfl) rfl (congrArg (fun x => some (AV.int .i64 x)) hxe) hx) ?_))))
   refine O1 (Ae ld3 rfl rfl rfl) (OA rfl (Ab ?_));refine An (Bq hw rfl ?_);rw [evT,hs]; simp only [hx]; rfl
theorem f36 (d : Db) (g : Gr) (n : Int) (tm : SM (List Int)) (vm : SM Int) (N a r q : Nat) (J : Sto) (hS : K9 d g n tm N a r J) (hv : Bx iV J q vm) (ht : Abq g.rules tm n) (h5 : n <= 5) (hf : ∀ s,0 <= byM vm s /\ byM vm s < n) (t : Au) : okT g.rules t = true -> Bw t <= 100000 -> Cv 36 [.pr a 0,Bg t,.mp q] J (iV (evT tm n (byM vm) t)) := by
 refine Au.ind' (P := fun t => okT g.rules t = true -> Bw t <= 100000 -> Cv 36 [.pr a 0,Bg t,.mp q] J (iV (evT tm n (byM vm) t))) ?_ t
 intro s ks ih ho hb;have hlk := Jl ks
 have hc : 1 + Dh ks <= 100000 := by unfold Bw at hb; exact hb
 refine f36n d g n tm vm s ks N a r q J hS hv ht h5 hf ho Om fun k hk => ih k hk (Rc ho k hk) ?_
 have := Mo hk;omega
theorem Ahp {d : Db} : (ofF d).1 = zG ∨ Gy (ofF d).1 = 0 := by
 unfold ofF
 split
 ·exact .inl rfl
 ·split
  ·exact .inl rfl
  ·split
   ·exact .inl rfl
   ·split
    ·exact .inl rfl
    ·rename_i hc; exact .inr (by simpa using hc)
theorem Xk (d : Db) : GOk (ofF d).1 := by
 rcases Ahp (d := d) with h | h
 ·rw [h]
  exact ⟨⟨fun r hr => (by cases hr),fun r hr => (by cases hr)⟩,fd_,fun r hr => (by cases hr),by simp [zG],fun r hr => (by cases hr)⟩
 ·exact Anm h
theorem Aut {te : TI} {n : Nat} {l : List Int} (_ : te.size = n) (h : te.isAgg = false) : O4 te (Anq l) = true := by unfold Anq slV O4; rw [h]; rfl
structure MdB (m : Md) : Prop where
 d : m.des.length < 1000000
 t : m.tabs.length < 1000000
 v : ∀ t ∈ m.tabs,t.vals.length < 1000000
theorem f31 (d : Db) (m : Md) (J : Sto) (hD : DbB d) (hvf : d.vars.length + d.frames.length < 1000000) (hM : MdB m) : A6 Ew 31 [dbV d,mdV m] J fun v J' => (∃ p,v = .tup [p,iV (Fa (ofF d) m)] /\ Below (nx J) J J' /\ (Fa (ofF d) m = 0 -> p = .pr (nx J + 1) 0 /\ K9 d (ofF d).1 m.n (Ml (ofF d).1.rules m.n m.tabs).2 (nx J) (nx J + 1) (nx J) J')) := by
 have hG := Xk d;have hgl := hG.len;have hMd := hM.d;have hMt := hM.t;refine Az Tryz.func31 rfl rfl fun hw hu0 => ?_
 refine Ac (Aa (Ar Hy rfl rfl rfl (Ar Aaj rfl rfl rfl (OA rfl (OA rfl (Ab (Ac ?_)))))));refine Aa (O1 (Ae Hy rfl rfl rfl) (Ap rfl rfl rfl rfl (f47 d _ hD hvf) (OM rfl (O1 (Al rfl rfl) (O1 (Al rfl rfl) (Bz Ajp D3 rfl (fun _ => rfl) rfl rfl rfl rfl ?_))))))
 refine OA rfl (Ab (Ac (Ac (Aa (OM rfl (O1 (Cx (q := 0) Jj rfl rfl) (Ab ?_)))))));refine Ah rfl ?_ ?_ <;> intro h1
 ·skip
  refine Ac (Aa (OM rfl (OA rfl (OA rfl (Ab ?_)))))
  have hE : Fa (ofF d) m = (ofF d).2 := by unfold Fa; rw [if_neg (by simpa using h1)]
  have hne : (ofF d).2 ≠ (0 : Int) := by simpa using h1
  refine An ?_
  exact ⟨_,rfl,_,_,ag_ hw nl (fun _ _ => rfl),nl,.same rfl,_,by rw [hE]; rfl,eo_,fun h => absurd (hE ▸ h) hne⟩
 ·have he1 : (ofF d).2 = 0 := by simpa using h1
  refine Ai (Ac (Ac (Aa (O1 (Ad Aeq rfl rfl) (O1 (Ae ld3 rfl rfl rfl) (O1 (Ad Apj rfl rfl) (O1 (Ae Wc rfl rfl rfl) ?_)))))));refine Ap rfl rfl rfl rfl (f53 m.n m.des _ hM.d) (OA rfl (Ab (Ac (Aa (OM rfl (O1 (Cx (q := 0) Jj rfl rfl) (Ab ?_)))))));refine Ah rfl ?_ ?_ <;> intro h2
  ·skip
   refine Ac (Aa (OM rfl (OA rfl (OA rfl (Ab ?_)))))
   have hE : Fa (ofF d) m = Wl m.n m.des := by unfold Fa; rw [if_pos he1,if_neg (by simpa using h2)]
   have hne : Wl m.n m.des ≠ (0 : Int) := by simpa using h2
   refine An ?_
   exact ⟨_,rfl,_,_,ag_ hw nl (fun _ _ => rfl),nl,.same rfl,_,by rw [hE]; rfl,eo_,fun h => absurd (hE ▸ h) hne⟩
  ·have he2 : Wl m.n m.des = 0 := by simpa using h2
   obtain ⟨hn1,hn5,hnd⟩ := Alz he2;refine Ai (Ac (Aa (O1 (Ae Hy rfl rfl rfl) (O1 (Ae D3 rfl rfl rfl) (O1 (Ad Aeq rfl rfl) (O1 (Ae ld3 rfl rfl rfl) (O1 (Ad Apj rfl rfl) ?_)))))))
   refine O1 (Ae Wc rfl rfl rfl) (B4 rfl rfl rfl rfl (f54 d (ofF d).1 m.n m.des _ hM.d (fun x hx => ⟨(hnd x hx).1,by have := (hnd x hx).2; omega⟩)) ?_)
   rintro _ τ ⟨rfl,hS,hB⟩;refine OA rfl (Ab (Ac (Ac (Aa (O1 (Ad Ajl rfl rfl) (O1 (Ae ld38 rfl rfl rfl) (O1 (Aq sl38 rfl) ?_)))))));refine OM rfl (Ab (Am ?_));refine B8 m.tabs.length (fun i0 => [(3,.pv [iV m.n,slV eI 1 m.des,slV eTb 2 m.tabs]),(6,.pv [A3 (ofF d).1.sorts,slV eR 4 (ofF d).1.rules]),(9,.pr (nx J + 1) 0),(40,slV eTb 2 m.tabs),(41,iV (.ofNat m.tabs.length)),(42,iV (.ofNat i0))]) (fun i0 J0 => ∃ tm,K9 d (ofF d).1 m.n tm (nx J) (nx J + 1) (nx J) J0 /\ Below (nx J) J J0 /\ Mk (ofF d).1.rules m.n m.tabs [] = Mk (ofF d).1.rules m.n (m.tabs.drop i0) tm) SL ⟨[],hS,hB,rfl⟩ ?_
   rintro i0 J0 hi0 ⟨tm,hS0,hB0,hf0⟩;refine Ac (Aa (O1 (A8 ok3 rfl rfl) (Ab (Ac ?_))));refine Ah rfl ?_ ?_ <;> intro h3
   ·have bf : i0 < m.tabs.length := by simpa using h3
    obtain ⟨a0,ha0⟩ := Bt bf;have hd0 := Bh ha0;obtain ⟨bs,hbl,hbc⟩ := hS0.cl;have hav := hM.v a0 (af_ ha0)
    obtain ⟨r,hrA,hrN⟩ : ∃ r : Rl,(0 <= A7 (fun r => decide (r.label = a0.label)) (ofF d).1.rules 0 -> ∃ n,A7 (fun r => decide (r.label = a0.label)) (ofF d).1.rules 0 = Int.ofNat n /\ (ofF d).1.rules[n]? = some r /\ Cf (ofF d).1.rules a0.label = some r) /\ (A7 (fun r => decide (r.label = a0.label)) (ofF d).1.rules 0 < 0 -> Cf (ofF d).1.rules a0.label = none) := by
     rcases Nx (l := (ofF d).1.rules) (s := a0.label) with ⟨e1,e2⟩ | ⟨n,r,e1,e2,e3⟩
     ·exact ⟨⟨[],[],[],false⟩,fun h => absurd (e1 ▸ h) (by decide),fun _ => e2⟩
     ·exact ⟨r,fun _ => ⟨n,e1,e2,e3⟩,fun h => by rw [e1] at h; simp at h; omega⟩
    rw [hd0,Mk] at hf0;refine Ai (Ac (Am (Ac (Aa (O1 (Ax el38 (fun _ => rfl) rfl rfl ha0) ?_)))))
    refine O1 (Ae ld81 rfl rfl rfl) (Bz zi81 ld81 rfl (fun _ => rfl) rfl rfl rfl rfl ?_)
    refine Ab (Ac (Aa (O1 (Ae D3 rfl rfl rfl) (O1 (Ad Ajn rfl rfl) (O1 (Ae ld9 rfl rfl rfl) (Ap rfl rfl rfl rfl (f48 (ofF d).1 a0.label _ Om) ?_))))));refine OA rfl (Ab (Ac (Ac ?_)));refine Fx (anns := [aP 0 0,aP 0 0,aP 0 0,aR 0 0,aP 0 0,aR 0 0,aR 0 0,aP 0 0,aP 0 0,aP 0 0,aP 0 0,aP 0 0]) A1 Kr Kr ?_;refine DF (Ag rfl) (DF (Hq rfl) (DF (Ad Ye rfl rfl) (DF (Df hbc Ak6 rfl (Uw hbl)) (DF (Ad Ajn rfl rfl) (DF (Ae ld9 rfl rfl rfl) (DF (Kf st9 Agt rfl hS0.mp rfl) (DF (Ag rfl) ?_)))))));refine DF (Al rfl rfl) (DF (Al rfl rfl) (DF (Bk rfl) (DF (Bk rfl) (Bi ?_))));refine ⟨rfl,rfl,?_⟩;refine Ac (Aa (OM rfl (O1 (A8 (q := 0) ok3 rfl rfl) (OM rfl ?_))));refine Cm 6 _ ?_ rfl rfl rfl rfl rfl (Aw rfl) (fun hg => ?_) (fun hg => ?_) ?_
    rotate_left
    ·obtain ⟨n,hFn,hrn,_⟩ := hrA (by have := of_decide_eq_false hg; omega)
     refine On hg (Ad Gh rfl rfl) (On hg (Ae Qg rfl rfl rfl) (On hg (Ag rfl) (On hg (Ax (i := n) La (fun _ => rfl) rfl (congrArg (fun x => some (AV.int .i64 x)) hFn) hrn) ?_)))
     refine On hg (Ad Aan rfl rfl) (On hg (Ae ld4 rfl rfl rfl) (Ab ?_));refine ⟨rfl,?_,?_⟩
     ·exact sb
     ·exact rfl
    ·refine Of hg (Of hg (Of hg (Of hg (Of hg (Of hg (Ab ?_))))));exact ⟨rfl,sb⟩
    refine OM rfl ?_;refine Cm 1 _ ?_ rfl rfl rfl rfl rfl (Aw rfl) (fun hg => ?_) (fun hg => ?_) ?_
    rotate_left
    ·refine On hg (Ag rfl) (Ab ?_);refine ⟨rfl,?_,?_⟩
     ·exact sb
     ·exact rfl
    ·refine Of hg (Ab ?_);exact ⟨rfl,sb⟩
    refine Ab ?_;refine Ah rfl ?_ ?_ <;> intro h4
    ·refine Dp fun hw1 => ?_
     have hT : Mk (ofF d).1.rules m.n m.tabs [] = (360,tm) := by
      rw [hf0]
      by_cases hF : A7 (fun r => decide (r.label = a0.label)) (ofF d).1.rules 0 < 0
      ·rw [hrN hF]
      ·obtain ⟨n,e1,e2,e3⟩ := hrA Om;rw [e3];simp only;rw [if_pos]
       have h4' : ((decide (A7 (fun r => decide (r.label = a0.label)) (ofF d).1.rules 0 < 0) || r.var) || (tm.get a0.label).isSome) = true := h4
       rwa [decide_eq_false hF,Bool.false_or] at h4'
     refine Ac (Aa (OA rfl (OA rfl (Ab ?_))))
     have hE : Fa (ofF d) m = 360 := by unfold Fa; rw [if_pos he1,if_pos he2]; unfold Ml; simp only; rw [hT]; rfl
     have hne : 360 ≠ (0 : Int) := by decide
     refine An ?_
     exact ⟨_,rfl,_,_,ag_ hw1 nl (fun _ _ => rfl),hB0.1,.same rfl,_,by rw [hE]; rfl,hB0,fun h => absurd (hE ▸ h) hne⟩
    ·have h4' : ((decide (A7 (fun r => decide (r.label = a0.label)) (ofF d).1.rules 0 < 0) || r.var) || (tm.get a0.label).isSome) = false := h4
     simp only [cp_] at h4';have hF : ¬ A7 (fun r => decide (r.label = a0.label)) (ofF d).1.rules 0 < 0 := of_decide_eq_false h4'.1.1
     obtain ⟨n,hFn,hrn,hro⟩ := hrA Om;have hrp := hG.prt r (af_ hrn);have hna : Eh r <= r.parts.length := df_ _ _;rw [hro] at hf0;simp only at hf0
     rw [if_neg (by rw [h4'.1.2,h4'.2]; simp)] at hf0
     refine Ai (Ac ?_);refine Ig 1 (anns := [aP 0 1,aR 0 1,aP 0 0,aR 0 0,aP 0 0,aP 0 0,aR 0 0,aE 0 1,aE 1 2,aP 2 2]) A1 (As (l := [(56,[.agg (eR r)],J0,iV (.ofNat (Eh r)),J0),(55,[iV m.n,iV (.ofNat (Eh r)),iV 10000],J0,iV (Hj m.n 10000 (Eh r) 1),J0)]) ⟨f56 r _ Om,f55 m.n (Eh r) _ hn1 hn5 Om,trivial⟩) Kr Kr ?_;refine DF (Ad Aeq rfl rfl) (DF (Ae ld3 rfl rfl rfl) (DF (Ad Gh rfl rfl) (DF (Ae Qg rfl rfl rfl) (DF (Ag rfl) (DF (Ax (i := n) La (fun _ => rfl) rfl (congrArg (fun x => some (AV.int .i64 x)) hFn) hrn) ?_)))))
     refine DF (Ae Ey rfl rfl (Cj (Ae6 r) _)) (DT (Bl rfl rfl Bm) (DT (Bl rfl rfl (D1 (by decide) Bm)) ?_))
     refine DF (Bk rfl) (Bi ?_)
     refine ⟨(by intro e he; simp at he; rcases he with rfl | rfl | rfl <;> exact .refl),?_⟩
     refine Ac (Ac (Aa (OM rfl (O1 (Ca (q := 10000) ok3 rfl rfl) (Ab ?_)))));refine Ah rfl ?_ ?_ <;> intro h5
     ·refine Dp fun hw1 => ?_
      rw [if_pos h5] at hf0;refine Ac (Aa (OA rfl (OA rfl (Ab ?_))))
      have hE : Fa (ofF d) m = 4 := by unfold Fa; rw [if_pos he1,if_pos he2]; unfold Ml; simp only; rw [hf0]; rfl
      have hne : 4 ≠ (0 : Int) := by decide
      refine An ?_
      exact ⟨_,rfl,_,_,ag_ hw1 nl (fun _ _ => rfl),hB0.1,.same rfl,_,by rw [hE]; rfl,hB0,fun h => absurd (hE ▸ h) hne⟩
     ·rw [if_neg (by rw [h5]; simp)] at hf0
      refine Ai (Ac (Ac (Aa (O1 (Ad Ajo rfl rfl) (O1 (Ae Wc rfl rfl rfl) (O1 (Aq Aep rfl) (OM rfl ?_)))))));refine O1 (Cx ok3 rfl rfl) (OM rfl ?_);refine Cm 4 _ ?_ rfl rfl rfl rfl rfl (Aw rfl) (fun hg => ?_) (fun hg => ?_) ?_
      rotate_left
      ·refine On hg (Ad Ajo rfl rfl) (On hg (Ae Wc rfl rfl rfl) (On hg (Fw rfl rfl) (B5 rfl rfl rfl (by rw [hg]; rfl) rfl rfl rfl rfl (f57 (fun v => decide (v < 0) || decide (m.n <= v)) a0.vals 58 [.pv [iV m.n,slV eI 1 m.des,slV eTb 2 m.tabs]] _ Om (fun a _ => f58 a m _)) ?_)))
       refine Ab ?_;refine ⟨rfl,?_,?_⟩
       ·exact sb
       ·exact rfl
      ·refine Of hg (Of hg (Of hg (Of hg (Ab ?_))));exact ⟨rfl,sb⟩
      refine Ab ?_;refine Ah rfl ?_ ?_ <;> intro h6
      ·refine Dp fun hw1 => ?_
       have h6' : (!decide (Int.ofNat a0.vals.length = Hj m.n 10000 (Eh r) 1) || a0.vals.any fun v => decide (v < 0) || decide (m.n <= v)) = true := h6
       rw [if_pos h6'] at hf0;refine Ac (Aa (OA rfl (OA rfl (Ab ?_))))
       have hE : Fa (ofF d) m = 360 := by unfold Fa; rw [if_pos he1,if_pos he2]; unfold Ml; simp only; rw [hf0]; rfl
       have hne : 360 ≠ (0 : Int) := by decide
       refine An ?_
       exact ⟨_,rfl,_,_,ag_ hw1 nl (fun _ _ => rfl),hB0.1,.same rfl,_,by rw [hE]; rfl,hB0,fun h => absurd (hE ▸ h) hne⟩
      ·have h6' : (!decide (Int.ofNat a0.vals.length = Hj m.n 10000 (Eh r) 1) || a0.vals.any fun v => decide (v < 0) || decide (m.n <= v)) = false := h6
       obtain ⟨vm,hvm⟩ := id hS0.mp;refine Ai ?_;refine Cc (anns := [aP 0 0,aP 0 0,aP 0 0,aR 0 0,aP 0 0,aR 0 0,aP 0 0,aR 0 0,aE 0 1]) A1 (As (l := []) trivial) Kr Kr ?_;refine DF (Ag rfl) (DF (Hq rfl) (DF (Ad Ye rfl rfl) (DF (Df hbc Ak6 rfl (Uw hbl)) (DF (Ad Ajn rfl rfl) (DF (Ae ld9 rfl rfl rfl) (DF (Ad Ajo rfl rfl) (DF (Ae Wc rfl rfl rfl) ?_)))))))
       refine DT (E8 (v := a0.vals) st9 Agt rfl hvm rfl rfl (fun te k1 k2 => by first | exact Aut k1 k2 | exact Fq k1 k2 | exact Fs k1 k2 | exact Ge k1 k2 | exact Gf k1 k2 | exact Ft k1 k2 rfl)) ?_
       refine Bi (Aa (O1 (Ay (q := 1) ok3 rfl rfl Om) ?_));refine OM rfl (Ab ?_)
       refine ⟨bf,SL,tm.put a0.label a0.vals,⟨⟨bs,hbl,by rw [a_,if_neg Om]; exact hbc⟩,dh_,hS0.na,hS0.nr,hS0.ar⟩,⟨by rw [Ak]; exact hB0.1,fun b hb => by rw [a_,if_neg Om]; exact hB0.2 b hb⟩,by rw [hf0,if_neg (by rw [h6']; simp)]⟩
   ·have bq : m.tabs.length <= i0 := by simpa using h3
    obtain ⟨bs,hbl,hbc⟩ := hS0.cl
    have hT : Mk (ofF d).1.rules m.n m.tabs [] = (0,tm) := by rw [hf0,ah_ bq]; rfl
    refine Ba ?_;refine Ac (Ac ?_);refine Cc (anns := [aP 0 0,aP 0 0,aP 0 0,aR 0 0,aR 0 0,aR 0 0,aE 0 1,aR 1 1,aP 1 1]) A1 (As (l := [(59,[grV (ofF d).1],J0,slV eR 4 (axR (ofF d).1.rules),J0)]) ⟨f59 (ofF d).1 _ Om,trivial⟩) Kr Kr ?_;refine DF (Ag rfl) (DF (Hq rfl) (DF (Ad Ye rfl rfl) (DF (Df hbc Ak6 rfl (Uw hbl)) (DF (Ak0 Agt rfl hS0.mp) (DF (Ae D3 rfl rfl rfl) (DT (Bl rfl rfl Bm) (DF (Aq X0 rfl) ?_)))))));refine DF (Cx ok3 rfl rfl) (Bi ?_);refine Ah rfl ?_ ?_ <;> intro h4
    ·refine Dp fun hw1 => ?_
     have hL : ¬ tm.length = (axR (ofF d).1.rules).length := by have := h4; simp at this; omega
     refine Ac (Aa (OA rfl (OA rfl (Ab ?_))))
     have hE : Fa (ofF d) m = 360 := by unfold Fa; rw [if_pos he1,if_pos he2]; unfold Ml; simp only; rw [hT]; simp only [if_neg hL]; rfl
     have hne : 360 ≠ (0 : Int) := by decide
     refine An ?_
     exact ⟨_,rfl,_,_,ag_ hw1 nl (fun _ _ => rfl),hB0.1,.same rfl,_,by rw [hE]; rfl,hB0,fun h => absurd (hE ▸ h) hne⟩
    ·refine Dp fun hw1 => ?_
     have hL : tm.length = (axR (ofF d).1.rules).length := by have := h4; simp at this; omega
     refine Ai (Ac (Aa (OM rfl (OA rfl (OA rfl (Ab ?_))))))
     have hO : Ml (ofF d).1.rules m.n m.tabs = (0,tm) := by unfold Ml; simp only; rw [hT]; simp only [if_pos hL]; rfl
     have hE : Fa (ofF d) m = 0 := by unfold Fa; rw [if_pos he1,if_pos he2,hO]
     refine An ?_
     exact ⟨_,rfl,_,_,ag_ hw1 nl (fun _ _ => rfl),hB0.1,.same (by show (AV.und (nx J0) (.pr (nx J + 1) 0) && (true && true)) = true; rw [show AV.und (nx J0) (.pr (nx J + 1) 0) = true from Dk (hw1 _ _ hbc).1]; rfl),_,by rw [hE]; rfl,hB0,fun _ => ⟨rfl,by rw [hO]; exact hS0⟩⟩
def spV (g : Gr) (q : Nat) : AV := .pv [A3 g.sorts,slV eR 4 g.rules,.mp q]
theorem Aqw {g : Gr} (hG : GOk g) (s : Str) : (Cf g.rules s = none /\ (Ev g.rules 0 []).get s = none) ∨ ∃ r j,Cf g.rules s = some r /\ (Ev g.rules 0 []).get s = some j /\ g.rules[j]? = some r := by
 obtain ⟨k1,k2⟩ := Aay (s := s) (i := 0) (m := []) hG.nd fun _ _ => rfl
 cases h : Cf g.rules s with
 | none => exact .inl ⟨rfl,k1 h⟩
 | some r =>
  obtain ⟨j,h1,h2⟩ := k2 r h
  exact .inr ⟨r,j,rfl,by rw [h1,bf_],h2⟩
def Nz : Au -> Str
 | .node l _ => l
theorem Ats {g : List Rl} {k : Au} {q : Str} : decide (Cq g k = some q) = ((Cf g (Nz k)).isSome && decide ((L0 g (Nz k)).sort = q) && (Cq g k).isSome) := by
 cases k with
 | node l ks =>
  unfold Cq Nz L0;cases h : Cf g l with
  | none => rfl
  | some r =>
   simp only [fq_,Bool.true_and,ee_]
   split
   ·simp
   ·simp
theorem Ahq {l : List (Option Str)} {ps : List Pt} {p : Pt} : I4 l (ps ++ [p]) = (I4 l ps && (decide (p.sort = []) || decide (l[p.arg.toNat]? = some (some p.sort)))) := by unfold I4; rw [List.all_append]; simp
theorem Xl {l : List (Option Str)} {ps : List Pt} {i : Nat} (h : I4 l (ps.take i) = false) : I4 l ps = false := by
 cases hh : I4 l ps with
 | false => rfl
 | true =>
  unfold I4 at h hh;rw [bu_] at hh;rw [show (ps.take i).all _ = true from bu_.2 fun x hx => hh x (cy_ hx)] at h
  cases h
theorem f76 (g : Gr) (q : Nat) (s : Str) (J : Sto) (hG : GOk g) (hm : Bx iN J q (Ev g.rules 0 [])) : Cv 76 [spV g q,sV s] J (.tup [.agg (eR (L0 g.rules s)),.bool (Cf g.rules s).isSome]) := by
 refine Az Tryz.func76 rfl rfl fun hw hu0 => ?_
 have hm1 : Bx iN (J.new (.cells [.str [],.str [],.nil (.slice none 0 0),.bool false])) q (Ev g.rules 0 []) := by
  obtain ⟨v,h⟩ := hm
  exact ⟨v,by rw [ab_,if_neg (by have := (hw _ _ h).1; omega)]; exact h⟩
 refine Ac (Aa (O1 (Cw X1) (OA rfl (Ab (Ac (Aa (OM rfl ?_)))))));refine O1 (Bp rfl) (O1 (Ad Alc rfl rfl) (O1 (Ae Atd rfl rfl rfl) (OM rfl (O1 (Kf st9 Uh rfl hm1 rfl) (OM rfl (O1 (Al rfl rfl) (O1 (Al rfl rfl) ?_)))))));refine OA rfl (OA rfl (Ab (Ac (Ac (Aa (OM rfl (O1 (Bb rfl) ?_)))))));refine Ab ?_;refine Ah rfl ?_ ?_ <;> intro h1
 ·have e0 : Cf g.rules s = none := by
   rcases Aqw hG s with ⟨e,_⟩ | ⟨r,j,_,e2,_⟩
   ·exact e
   ·rw [e2] at h1; exact absurd h1 (by simp)
  refine Ac (Aa (O1 (B1 Am8 rfl rfl) (O1 (Dg (a := nx J) (off := 0) (cs := [.str [],.str [],.nil (.slice none 0 0),.bool false]) (cs' := [.str [],.str [],.nil (.slice none 0 0),.bool false]) (by rw [ab_,if_pos rfl]) Ey rfl rfl rfl rfl) ?_)))
  refine OA rfl (Ab ?_);refine An ?_
  exact ⟨[.agg [.str [],.str [],.nil (.slice none 0 0),.bool false],.bool false],B6 Ey rfl (by simp only [Sto.cells]; rw [a_,if_pos rfl]) rfl (Dj rfl rfl),_,J,ap_ hw ⟨by rw [Ak,Aj]; omega,fun b hb => by rw [a_,if_neg Om,ab_,if_neg Om]⟩,nl,.tup (.cons (.agg Aqh) (.cons (.same rfl) .nil)),by unfold L0; rw [e0]; rfl,rfl⟩
 ·obtain ⟨r,j,e1,e2,e3⟩ : ∃ r j,Cf g.rules s = some r /\ (Ev g.rules 0 []).get s = some j /\ g.rules[j]? = some r := by
   rcases Aqw hG s with ⟨_,e⟩ | h
   ·rw [e] at h1; exact absurd h1 (by simp)
   ·exact h
  refine Ai (Ac (Aa (OM rfl (O1 (Bp rfl) (O1 (Ad Asa rfl rfl) (O1 (Ad Gh rfl rfl) (O1 (Ae Qg rfl rfl rfl) ?_)))))))
  refine OM rfl (O1 (Ax (i := j) La (fun _ => rfl) rfl (show some ((Option.map iN ((Ev g.rules 0 []).get s)).getD (iV 0)) = some (iN j) by rw [e2]; rfl) e3) ?_)
  refine O1 (Ae Ey rfl rfl (Cj (Ae6 r) _)) (O1 (Dg (a := nx J) (off := 0) (cs := [.str [],.str [],.nil (.slice none 0 0),.bool false]) (cs' := eR r) (by rw [ab_,if_pos rfl]) Ey rfl rfl rfl rfl) ?_)
  refine OA rfl (Ab ?_);refine An ?_
  exact ⟨[.agg (eR r),.bool true],B6 Ey rfl (by simp only [Sto.cells]; rw [a_,if_pos rfl]) rfl (Dj rfl rfl),_,J,ap_ hw ⟨by rw [Ak,Aj]; omega,fun b hb => by rw [a_,if_neg Om,ab_,if_neg Om]⟩,nl,.tup (.cons (.same (Nv r)) (.cons (.same rfl) .nil)),by unfold L0; rw [e1]; rfl,rfl⟩
theorem Aqx {g : List Rl} {l : List Au} {j : Nat} : (Qp g l)[j]? = l[j]?.map (Cq g) := by rw [Wj,bn_]
theorem f98n (g : Gr) (q : Nat) (s : Str) (ks : List Au) (J : Sto) (hG : GOk g) (hm : Bx iN J q (Ev g.rules 0 [])) (hb : ks.length < 1000000) (ih : ∀ k ∈ ks,Cv 98 [spV g q,Bg k] J (.bool (Cq g.rules k).isSome)) : Cv 98 [spV g q,Bg (.node s ks)] J (.bool (Cq g.rules (.node s ks)).isSome) := by
 rw [Gi];refine Az Tryz.func98 rfl rfl fun hw hu0 => ?_
 refine Ac (Aa (Ar Bv rfl rfl rfl (OA rfl (Ab (Ac (Aa (OM rfl ?_)))))));refine O1 (Ad I1 rfl rfl) (O1 (Ae ld9 rfl rfl rfl) (Ap rfl rfl rfl rfl (f76 g q s _ hG hm) (OM rfl (O1 (Al rfl rfl) (O1 (Al rfl rfl) (Bz X1 Ey rfl (fun _ => rfl) rfl rfl rfl rfl ?_))))))
 refine OA rfl (Ab (Ac (Ac (Aa (OM rfl (O1 (Bb rfl) (Ab ?_)))))));refine Ah rfl ?_ ?_ <;> intro h1
 ·have e0 : Cf g.rules s = none := by
   cases hh : Cf g.rules s with
   | none => rfl
   | some x => rw [hh] at h1; exact absurd h1 (by simp)
  refine Ac (Aa (OA rfl (Ab ?_)));refine An (Bq hw rfl ?_);rw [Cq,e0]; rfl
 ·obtain ⟨r,hr⟩ : ∃ r,Cf g.rules s = some r := by
   cases hh : Cf g.rules s with
   | none => rw [hh] at h1; exact absurd h1 (by simp)
   | some x => exact ⟨x,rfl⟩
  have hrl : L0 g.rules s = r := by unfold L0; rw [hr]; rfl
  rw [hrl];have hpl := hG.prt r (Nw hr);refine Ai (Ac (Aa (OA rfl (Ab (Ac (Ac (Aa ?_)))))));refine O1 (Ad Lz rfl rfl) (O1 (Ae Abo rfl rfl rfl) (O1 (Aq Ags rfl) (OM rfl (Ab (Am ?_)))));refine B8 r.parts.length (fun i0 => [(0,spV g q),(3,.pv [sV s,slV eT 2 ks]),(7,iV (.ofNat ((r.parts.take i0).filter fun p => !decide (p.sort = [])).length)),(22,slV ePt 3 r.parts),(23,iV (.ofNat r.parts.length)),(24,iV (.ofNat i0))]) (fun i0 J0 => J0 = J /\ I4 (Qp g.rules ks) (r.parts.take i0) = true) SL ⟨rfl,rfl⟩ ?_
  rintro i0 J0 hi0 ⟨rfl,hp0⟩;refine Ac (Aa (O1 (A8 ok3 rfl rfl) (Ab (Ac ?_))));refine Ah rfl ?_ ?_ <;> intro h2
  ·have bf : i0 < r.parts.length := by simpa using h2
   obtain ⟨a0,ha0⟩ := Bt bf;have hd0 := Bh ha0
   have hl0 : ((r.parts.take i0).filter fun p => !decide (p.sort = [])).length <= i0 := ax_ (df_ _ _) (by rw [bl_]; omega)
   have ht0 : ((r.parts.take (i0 + 1)).filter fun p => !decide (p.sort = [])).length = ((r.parts.take i0).filter fun p => !decide (p.sort = [])).length + if (!decide (a0.sort = [])) = true then 1 else 0 := by
    rw [Ci ha0,dw_,az_]
    congr 1
    cases hq : (!decide (a0.sort = [])) <;> simp [hq]
   have hps := Ahq (l := Qp g.rules ks) (ps := r.parts.take i0) (p := a0);rw [← Ci ha0,hp0,Bool.true_and] at hps;refine Ai (Ac (Am (Ac (Aa (O1 (Ax Abp (fun _ => rfl) rfl rfl ha0) ?_)))))
   refine O1 (Ae Ox rfl rfl rfl) (Bz Ak9 Ox rfl (fun _ => rfl) rfl rfl rfl rfl ?_)
   refine Ab (Ac (Ac (Aa (O1 (Ad Q7 rfl rfl) (O1 (Ae ld9 rfl rfl rfl) (O1 (I0 (q := []) ok9 rfl rfl) (Ab ?_)))))));refine Ah rfl ?_ ?_ <;> intro h3
   ·have h3' : a0.sort = [] := of_decide_eq_true h3
    rw [show (!decide (a0.sort = [])) = false by rw [decide_eq_true h3']; rfl,if_neg (by simp),dn_] at ht0
    refine Ba ?_;refine Aa (O1 (Ay (q := 1) ok3 rfl rfl Om) ?_);refine OM rfl (Ab ?_)
    refine ⟨bf,⟨rfl,rfl,(by rw [ht0]; rfl),rfl,rfl,rfl,trivial⟩,rfl,(by rw [hps,decide_eq_true h3']; rfl)⟩
   ·have h3' : ¬ a0.sort = [] := of_decide_eq_false h3
    rw [show (!decide (a0.sort = [])) = true by rw [decide_eq_false h3']; rfl,if_pos rfl] at ht0
    obtain ⟨j,hj,hjn⟩ := hG.arg r (Nw hr) a0 (af_ ha0) h3'
    have hjt : a0.arg.toNat = j := by rw [hj]; rfl
    rw [decide_eq_false h3',Bool.false_or,Aqx,hjt] at hps;refine Ai (Ac (Aa (OM rfl (O1 (Ay (q := 1) ok3 rfl rfl Om) ?_))));refine OA rfl (Ab (Ac (Ac (Aa (O1 (Ad Ui rfl rfl) (O1 (Ae ld3 rfl rfl rfl) (O1 (Ad Gg rfl rfl) ?_)))))));refine O1 (Ae Mf rfl rfl rfl) (O1 (Aq Wd rfl) (O1 (Eq ok3 rfl rfl) (Ab ?_)));refine Ah rfl ?_ ?_ <;> intro h4
    ·have hkn : ks[j]? = none := List.getElem?_eq_none (by have := of_decide_eq_true h4; rw [hj] at this; simp only [am_] at this; omega)
     have hP : I4 (Qp g.rules ks) r.parts = false := Xl (i := i0 + 1) (by rw [hps,hkn]; rfl)
     have hF : Cq g.rules (.node s ks) = none := by
      rw [Cq,hr]; simp only; rw [if_neg];rw [hP,Bool.false_and]; simp
     refine Ac (Aa (OA rfl (Ab ?_)));refine An (Bq hw rfl ?_);rw [hF]; rfl
    ·obtain ⟨k,hk⟩ := Bt (show j < ks.length by have := of_decide_eq_false h4; rw [hj] at this; simp only [am_] at this; omega)
     rw [hk] at hps
     have mj : I4 (Qp g.rules ks) (r.parts.take (i0 + 1)) = ((Cf g.rules (Nz k)).isSome && decide ((L0 g.rules (Nz k)).sort = a0.sort) && (Cq g.rules k).isSome) := by rw [hps,← Ats]; simp
     have n7 : ∀ r,Iq 1 false (eT k ++ r) = some (sV (Nz k)) := fun r => by cases k; rw [Ne]; rfl
     refine Ai (Ac (Aa (OM rfl (O1 (Ad Gg rfl rfl) (O1 (Ae Mf rfl rfl rfl) (O1 (Ad Ui rfl rfl) (O1 (Ae ld3 rfl rfl rfl) ?_)))))));refine O1 (Ax (i := j) Aai A2 rfl (congrArg (fun x => some (AV.int .i64 x)) hj) hk) ?_
     refine O1 (Ad I1 rfl rfl) (O1 (Ae ld9 rfl rfl (n7 _)) (Ap rfl rfl rfl rfl (f76 g q (Nz k) _ hG hm) (OM rfl (O1 (Al rfl rfl) (O1 (Al rfl rfl) (Bz X1 Ey rfl (fun _ => rfl) rfl rfl rfl rfl ?_))))))
     refine OA rfl (Ab (Ac (Aa (OM rfl (O1 (Bb rfl) (OM rfl ?_))))));refine Cm 5 _ ?_ rfl rfl rfl rfl rfl (Aw rfl) (fun hg => ?_) (fun hg => ?_) ?_
     rotate_left
     ·refine On hg (Ad Aev rfl rfl) (On hg (Ae ld9 rfl rfl rfl) (On hg (Ad Q7 rfl rfl) (On hg (Ae ld9 rfl rfl rfl) (On hg (Lx ok9 rfl rfl) (Ab ?_)))));refine ⟨rfl,?_,?_⟩
      ·exact sb
      ·exact rfl
     ·refine Of hg (Of hg (Of hg (Of hg (Of hg (Ab ?_)))));exact ⟨rfl,sb⟩
     refine OM rfl ?_;refine Cm 9 _ ?_ rfl rfl rfl rfl rfl (Aw rfl) (fun hg => ?_) (fun hg => ?_) ?_
     rotate_left
     ·refine On hg (Ag rfl) (On hg (Ad Gg rfl rfl) (On hg (Ae Mf rfl rfl rfl) (On hg (Ad Ui rfl rfl) (On hg (Ae ld3 rfl rfl rfl) (On hg (Ax (i := j) Aai A2 rfl (congrArg (fun x => some (AV.int .i64 x)) hj) hk) ?_)))))
      refine On hg (Ae Bv rfl rfl (Cj (A2 k) _)) (B5 rfl rfl rfl (by rw [hg]; rfl) rfl rfl rfl rfl (ih k (af_ hk)) ?_)
      refine On hg (Bb rfl) (Ab ?_);refine ⟨rfl,?_,?_⟩
      ·exact sb
      ·exact rfl
     ·refine Of hg (Of hg (Of hg (Of hg (Of hg (Of hg (Of hg (Of hg ?_)))))));refine Of hg (Ab ?_);exact ⟨rfl,sb⟩
     refine Ab ?_;refine Ah rfl ?_ ?_ <;> intro h5
     ·have h5' : ((!(Cf g.rules (Nz k)).isSome || !decide ((L0 g.rules (Nz k)).sort = a0.sort)) || !(Cq g.rules k).isSome) = true := h5
      have hP : I4 (Qp g.rules ks) r.parts = false := Xl (i := i0 + 1) (by rw [mj]; revert h5'; cases (Cf g.rules (Nz k)).isSome <;> cases decide ((L0 g.rules (Nz k)).sort = a0.sort) <;> cases (Cq g.rules k).isSome <;> simp)
      have hF : Cq g.rules (.node s ks) = none := by
       rw [Cq,hr]; simp only; rw [if_neg];rw [hP,Bool.false_and]; simp
      refine Ac (Aa (OA rfl (Ab ?_)));refine An (Bq hw rfl ?_);rw [hF]; rfl
     ·have h5' : ((!(Cf g.rules (Nz k)).isSome || !decide ((L0 g.rules (Nz k)).sort = a0.sort)) || !(Cq g.rules k).isSome) = false := h5
      have hps : I4 (Qp g.rules ks) (r.parts.take (i0 + 1)) = true := by rw [mj]; revert h5'; cases (Cf g.rules (Nz k)).isSome <;> cases decide ((L0 g.rules (Nz k)).sort = a0.sort) <;> cases (Cq g.rules k).isSome <;> simp
      refine Ai (Aa (O1 (Ay (q := 1) ok3 rfl rfl Om) ?_));refine OM rfl (Ab ?_)
      refine ⟨bf,⟨rfl,rfl,(by rw [ht0]; rfl),rfl,rfl,rfl,trivial⟩,rfl,hps⟩
  ·have bq : r.parts.length <= i0 := by simpa using h2
   rw [at_ bq] at hp0 ⊢;refine Ba ?_;refine Ac (Aa (OM rfl (O1 (Ad Gg rfl rfl) (O1 (Ae Mf rfl rfl rfl) (O1 (Aq Wd rfl) (O1 (Do ok3 rfl rfl) (OA rfl ?_)))))));refine Ab ?_;refine An (Bq hw rfl ?_);rw [Cq,hr]; simp only; rw [hp0,Bool.true_and]; show AV.bool _ = _; congr 1; unfold Eh; by_cases hh : (r.parts.filter fun p => !decide (p.sort = [])).length = ks.length <;> simp [hh] <;> omega
theorem f98 (g : Gr) (q : Nat) (J : Sto) (hG : GOk g) (hm : Bx iN J q (Ev g.rules 0 [])) (t : Au) : Bw t <= 100000 -> Cv 98 [spV g q,Bg t] J (.bool (Cq g.rules t).isSome) := by
 refine Au.ind' (P := fun t => Bw t <= 100000 -> Cv 98 [spV g q,Bg t] J (.bool (Cq g.rules t).isSome)) ?_ t
 intro s ks ih hb;have hlk := Jl ks
 have hc : 1 + Dh ks <= 100000 := by unfold Bw at hb; exact hb
 refine f98n g q s ks J hG hm Om fun k hk => ih k hk ?_
 have := Mo hk;omega
theorem Xm {a : Rl} : ∀ (l : List Rl) (i : Nat) (m : SM Nat),Ev (l ++ [a]) i m = (Ev l i m).put a.label (i + l.length)
 | [],i,m => rfl
 | x :: l,i,m => by
  simp only [av_,Ev,Xm l,aq_]
  congr 1; omega
theorem f75 (g : Gr) (t : Au) (J : Sto) (hG : GOk g) (hB : GrB g) (hc : Gy g = 0) (hb : Bw t <= 4000) (hh : hT t <= 100) : A6 Ew 75 [grV g,Bg t] J fun v J' => (∃ p,v = .tup [p,iV (if (Cq g.rules t).isSome = true then 0 else 2)] /\ Below (nx J) J J' /\ ((Cq g.rules t).isSome = true -> ∃ q,p = spV g q /\ Bx iN J' q (Ev g.rules 0 []))) := by
 have hdp := Atq t 1;have hgl := hG.len;refine Az Tryz.func75 rfl rfl fun hw hu0 => ?_
 refine Ac (Aa (Ar D3 rfl rfl rfl (Ar Bv rfl (Bj (A2 t)) rfl (OA rfl (OA rfl (Ab (Ac ?_)))))));refine Ac (Aa (O1 (Ae D3 rfl rfl rfl) (Ap rfl rfl rfl rfl (f71 g _ hB) (OA rfl (Ab (Ac (Aa ?_)))))));refine OM rfl (O1 (Cx (q := 0) Jj rfl rfl) (Ab ?_));refine Ah rfl ?_ ?_ <;> intro h1
 ·exact absurd h1 (by rw [hc]; simp)
 ·skip
  refine Ai (Ac (Aa (O1 (Ae Bv rfl rfl (A9 (A2 _))) (Ap rfl rfl rfl rfl (f97 t _ 1 Om hb) ?_))));refine OM rfl (O1 (Al rfl rfl) (O1 (Al rfl rfl) (OA rfl (OA rfl (Ab (Ac (Ac ?_)))))));refine Aa (OM rfl (O1 (Ca (q := 4000) ok3 rfl rfl) (Ab ?_)));refine Ah rfl ?_ ?_ <;> intro h2
  ·exact absurd h2 (by simp only [am_,decide_eq_true_eq]; omega)
  ·skip
   refine Ai (Ac (Ac (Aa (OM rfl (O1 (Ca (q := 100) ok3 rfl rfl) (Ab ?_))))));refine Ah rfl ?_ ?_ <;> intro h3
   ·exact absurd h3 (by simp only [am_,decide_eq_true_eq]; omega)
   ·skip
    refine Ai (Ac (Aa (O1 (Ae D3 rfl rfl rfl) (O1 (Ga Uh) (O1 (B1 bd195 rfl rfl) (Ar ld195 rfl rfl rfl (OA rfl ?_)))))));refine Ab (Ac (Ac (Aa (O1 (Ad Gh rfl rfl) (O1 (Ae Qg rfl rfl rfl) (O1 (Aq X0 rfl) (OM rfl ?_)))))));refine Ab (Am ?_)
    refine B8 g.rules.length (fun i0 => [(3,.pv (eT t)),(9,spV g (nx J)),(31,slV eR 4 g.rules),(32,iV (.ofNat g.rules.length)),(33,iV (.ofNat i0))]) (fun i0 J0 => Bx iN J0 (nx J) (Ev (g.rules.take i0) 0 []) /\ Below (nx J) J J0 /\ nx J < nx J0) SL ⟨⟨0,by rw [ab_,if_pos rfl]; rfl⟩,⟨by rw [Aj]; omega,fun b hb => by rw [ab_,if_neg Om]⟩,by rw [Aj]; omega⟩ ?_
    rintro i0 J0 hi0 ⟨hm0,hb0,hn0⟩;refine Ac (Aa (O1 (A8 ok3 rfl rfl) (Ab (Ac ?_))));refine Ah rfl ?_ ?_ <;> intro h4
    ·have bf : i0 < g.rules.length := by simpa using h4
     obtain ⟨a0,ha0⟩ := Bt bf;have hd0 := Bh ha0;obtain ⟨vm,hvm⟩ := id hm0
     have n8 : ((J0.new (.cells [.str [],.str [],.nil (.slice none 0 0),.bool false])).set (nx J0) (.cells (eR a0))).get (nx J) = some (.map 9 (Cp iN (Ev (g.rules.take i0) 0 [])) vm) := by rw [a_,if_neg Om,ab_,if_neg Om]; exact hvm
     have hcl : ((J0.new (.cells [.str [],.str [],.nil (.slice none 0 0),.bool false])).set (nx J0) (.cells (eR a0))).get (nx J0) = some (.cells (eR a0)) := by rw [a_,if_pos rfl]
     have e9 : Ev (g.rules.take (i0 + 1)) 0 [] = (Ev (g.rules.take i0) 0 []).put a0.label i0 := by rw [Ci ha0,Xm,bl_,bf_,fm_ hi0]
     refine Ai (Ac (Am (Ac (Aa (OM rfl (O1 (Ax La (fun _ => rfl) rfl rfl ha0) ?_))))))
     refine O1 (Ae Ey rfl rfl (Cj (Ae6 a0) _)) (O1 (Cw X1) (OA rfl (O1 (Dg (a := nx J0) (off := 0) (cs := [.str [],.str [],.nil (.slice none 0 0),.bool false]) (cs' := eR a0) (by rw [ab_,if_pos rfl]) Ey rfl rfl rfl rfl) ?_)))
     refine Ab ?_;refine Cc (anns := [aP 0 0,aP 0 0,aP 0 0,aR 0 0,aP 0 0,aR 0 0,aP 0 0,aE 0 1]) A1 (As (l := []) trivial) Kr Kr ?_
     refine DF (Ag rfl) (DF (Bp rfl) (DF (Ad Alc rfl rfl) (DF (Ae Atd rfl rfl rfl) (DF (Ad Aam rfl rfl) (DF (Df hcl ld9 rfl rfl) (DF (Ag rfl) (DT (E8 (v := i0) st9 Uh rfl n8 rfl rfl (fun te k1 k2 => by first | exact Aqk k1 k2 | exact Fq k1 k2 | exact Fs k1 k2 | exact Ge k1 k2 | exact Gf k1 k2 | exact Ft k1 k2 rfl)) ?_)))))))
     refine Bi (Aa (O1 (Ay (q := 1) ok3 rfl rfl Om) ?_));refine OM rfl (Ab ?_)
     refine ⟨bf,SL,(by rw [e9]; exact dh_),⟨by rw [Ak,Ak,Aj]; omega,fun b hb => by rw [a_,if_neg Om,a_,if_neg Om,ab_,if_neg Om]; exact hb0.2 b hb⟩,by rw [Ak,Ak,Aj]; omega⟩
    ·have bq : g.rules.length <= i0 := by simpa using h4
     have hm1 : Bx iN J0 (nx J) (Ev g.rules 0 []) := by rw [at_ bq] at hm0; exact hm0
     refine Dp fun hw1 => ?_
     refine Ba ?_;refine Ac (Ac (Aa (OM rfl (O1 (Ae Bv rfl rfl (A9 (A2 _))) (Ap rfl rfl rfl rfl (f98 g (nx J) _ hG hm1 t Om) ?_)))));refine O1 (Bb rfl) (Ab ?_);refine Ah rfl ?_ ?_ <;> intro h5
     ·have hF : (Cq g.rules t).isSome = false := by simpa using h5
      refine Ac (Aa (OA rfl (OA rfl (Ab ?_))));refine An ?_
      exact ⟨_,rfl,_,_,ag_ hw1 nl (fun _ _ => rfl),hb0.1,.same rfl,_,by rw [hF]; rfl,hb0,fun h => absurd (hF.symm.trans h) (by simp)⟩
     ·have hF : (Cq g.rules t).isSome = true := by simpa using h5
      refine Ai (Ac (Aa (OM rfl (OA rfl (OA rfl (Ab ?_))))));refine An ?_
      exact ⟨_,rfl,_,_,ag_ hw1 nl (fun _ _ => rfl),hb0.1,.same (by show (AV.und (nx J0) (spV g (nx J)) && (true && true)) = true; rw [show AV.und (nx J0) (spV g (nx J)) = true by show (AV.und (nx J0) (A3 g.sorts) && (AV.und (nx J0) (slV eR 4 g.rules) && (AV.und (nx J0) (.mp (nx J)) && true))) = true; rw [show AV.und (nx J0) (A3 g.sorts) = true from Ez Nt _,Ez Nv,show AV.und (nx J0) (.mp (nx J)) = true from Dk hn0]; rfl]; rfl),_,by rw [hF]; rfl,hb0,fun _ => ⟨_,rfl,hm1⟩⟩
theorem Auu (t : Au) : Iq 1 false (eT t) = some (sV (Nz t)) := by cases t; rw [Ne]; rfl
def Wo (g : Gr) (t : Au) : Str := (Cq g.rules t).getD []
def okC (g : Gr) (t : Au) (c : Int) : Int := if (Cq g.rules t).isSome = true then 0 else c
theorem Asr {g : Gr} {t : Au} (h : (Cq g.rules t).isSome = true) : (L0 g.rules (Nz t)).sort = Wo g t := by
 have := Ats (g := g.rules) (k := t) (q := Wo g t);obtain ⟨q,hq⟩ := bp_.1 h
 have he : Wo g t = q := by unfold Wo; rw [hq]; rfl
 rw [he,hq] at this
 simp at this
 rw [he]; exact this.2
theorem Adb {g : Gr} {t : Au} (h : (Cq g.rules t).isSome = false) : Wo g t = [] := by
 unfold Wo;cases hh : Cq g.rules t with
 | none => rfl
 | some q => rw [hh] at h; cases h
theorem f50 (g : Gr) (t : Au) (J : Sto) (hG : GOk g) (hB : GrB g) (hc : Gy g = 0) (hb : Bw t <= 4000) (hh : hT t <= 100) : Cv 50 [grV g,Bg t] J (.tup [sV (Wo g t),iV (okC g t 2)]) := by
 refine Az Tryz.func50 rfl rfl fun hw hu0 => ?_
 refine Ac (Aa (Ar D3 rfl rfl rfl (Ar Bv rfl (Bj (A2 t)) rfl (OA rfl (OA rfl (Ab (Ac ?_)))))));refine Aa (O1 (Ae D3 rfl rfl rfl) (O1 (Ae Bv rfl rfl (A9 (A2 _))) (B4 rfl rfl rfl rfl (f75 g t _ hG hB hc hb hh) ?_)));rintro _ τ ⟨p,rfl,ba,hq⟩;refine OM rfl (O1 (Al rfl rfl) (O1 (Al rfl rfl) (OA rfl (OA rfl (Ab (Ac (Ac ?_)))))));refine Aa (OM rfl (O1 (Cx (q := 0) Jj rfl rfl) (Ab ?_)));refine Ah rfl ?_ ?_ <;> intro h1
 ·have hF : (Cq g.rules t).isSome = false := by
   cases hh : (Cq g.rules t).isSome with
   | false => rfl
   | true => rw [hh] at h1; exact absurd h1 (by simp)
  refine Ac (Aa (OM rfl (OA rfl (OA rfl (Ab ?_)))));refine An ?_
  exact ⟨_,rfl,_,J,ap_ hw ba,nl,.same rfl,by rw [Adb hF]; unfold okC; rw [hF]; rfl,rfl⟩
 ·have hF : (Cq g.rules t).isSome = true := by
   cases hh : (Cq g.rules t).isSome with
   | true => rfl
   | false => rw [hh] at h1; exact absurd h1 (by simp)
  obtain ⟨q,rfl,hm⟩ := hq hF;refine Ai (Ac (Aa (OM rfl (O1 (Ad I1 rfl rfl) (O1 (Ae (v := sV (Nz t)) ld9 rfl rfl (Auu t)) (Ap rfl rfl rfl rfl (f76 g q (Nz t) _ hG hm) (OM rfl ?_)))))));refine O1 (Al rfl rfl) (O1 (Al rfl rfl) (Bz X1 Ey rfl (fun _ => rfl) rfl rfl rfl rfl ?_))
  refine OA rfl (Ab (Ac (Aa (O1 (Ad Aev rfl rfl) (O1 (Ae ld9 rfl rfl rfl) (OA rfl (OA rfl ?_)))))));refine Ab ?_;refine An ?_
  exact ⟨_,rfl,_,J,ap_ hw ba,nl,.same rfl,by rw [Asr hF]; unfold okC; rw [hF]; rfl,rfl⟩
theorem f29 (g : Gr) (t : Au) (J : Sto) (hG : GOk g) (hB : GrB g) (hc : Gy g = 0) (hb : Bw t <= 4000) (hh : hT t <= 100) : Cv 29 [grV g,Bg t] J (.tup [sV (Wo g t),iV (okC g t 192)]) := by
 refine Az Tryz.func29 rfl rfl fun hw hu0 => ?_
 refine Ac (Aa (Ar D3 rfl rfl rfl (Ar Bv rfl (Bj (A2 t)) rfl (OA rfl (OA rfl (Ab (Ac ?_)))))));refine Ac (Aa (O1 (Ae Bv rfl rfl (A9 (A2 _))) (Ap rfl rfl rfl rfl (f49 t _ hb hh) (OA rfl (Ab (Ac (Aa ?_)))))));refine OM rfl (O1 (Cx (q := 0) Jj rfl rfl) (Ab ?_));refine Ah rfl ?_ ?_ <;> intro h1
 ·exact absurd h1 (by simp)
 ·skip
  refine Ai (Ac (Aa (O1 (Ae D3 rfl rfl rfl) (O1 (Ae Bv rfl rfl (A9 (A2 _))) (Ap rfl rfl rfl rfl (f50 g t _ hG hB hc hb hh) (OM rfl (O1 (Al rfl rfl) ?_)))))));refine O1 (Al rfl rfl) (OA rfl (OA rfl (Ab (Ac (Ac (Aa (OM rfl ?_)))))));refine O1 (Cx (q := 0) Jj rfl rfl) (Ab ?_);refine Ah rfl ?_ ?_ <;> intro h2
  ·have hF : (Cq g.rules t).isSome = false := by
    cases hh : (Cq g.rules t).isSome with
    | false => rfl
    | true => unfold okC at h2; rw [hh] at h2; exact absurd h2 (by simp)
   refine Ac (Aa (OA rfl (OA rfl (Ab ?_))));refine An (Bq hw rfl ?_);rw [Adb hF]; unfold okC; rw [hF]; rfl
  ·have hF : (Cq g.rules t).isSome = true := by
    cases hh : (Cq g.rules t).isSome with
    | true => rfl
    | false => unfold okC at h2; rw [hh] at h2; exact absurd h2 (by simp)
   refine Ai (Ac (Aa (OM rfl (OA rfl (OA rfl (Ab ?_))))));refine An (Bq hw rfl ?_);unfold okC; rw [hF]; rfl
def I6 (d : Db) (t : Au) : Int := if (ofF d).2 = 0 then okC (ofF d).1 t 192 else (ofF d).2
def chkS (d : Db) (t : Au) : Str := if (ofF d).2 = 0 then Wo (ofF d).1 t else []
theorem Aj4 {d : Db} : Gy (ofF d).1 = 0 := by
 rcases Ahp (d := d) with h | h
 ·rw [h]; decide
 ·exact h
theorem Aqy (d : Db) : GrB (ofF d).1 := by
 have hG := Xk d;have hl := hG.len
 refine ⟨?_,by omega,fun r hr => by have := hG.prt r hr; omega⟩
 have h := Aj4 (d := d);unfold Gy at h
 split at h
 ·cases h
 ·rename_i h0
  simp only [bc_,decide_eq_true_eq,not_or,am_] at h0;have := h0.1.1; omega
theorem Ahr {N : Nat} (g : Gr) (s : Str) (c : Int) : AV.und N (Td [.agg [A3 g.sorts,slV eR 4 g.rules],sV s,iV c]) = true := by
 show ((AV.und N (A3 g.sorts) && (AV.und N (slV eR 4 g.rules) && true)) && (true && (true && true))) = true
 rw [show AV.und N (A3 g.sorts) = true from Ez Nt _,Ez Nv]; rfl
theorem f27 (d : Db) (t : Au) (J : Sto) (hD : DbB d) (hvf : d.vars.length + d.frames.length < 1000000) (hb : Bw t <= 4000) (hh : hT t <= 100) : Cv 27 [dbV d,Bg t] J (.tup [grV (ofF d).1,sV (chkS d t),iV (I6 d t)]) := by
 refine Az Tryz.func27 rfl rfl fun hw hu0 => ?_
 refine Ac (Aa (Ar Hy rfl rfl rfl (Ar Bv rfl (Bj (A2 t)) rfl (O1 (Cw Ajp) (OA rfl (OA rfl (Ab ?_)))))));refine Ac (Aa (O1 (Ae Hy rfl rfl rfl) (Ap rfl rfl rfl rfl (f47 d _ hD hvf) (OM rfl (O1 (Al rfl rfl) (O1 (Al rfl rfl) (Bz Ajp D3 rfl (fun _ => rfl) rfl rfl rfl rfl ?_)))))))
 refine OA rfl (Ab (Ac (Ac (Aa (OM rfl (O1 (Cx (q := 0) Jj rfl rfl) (Ab ?_)))))));refine Ah rfl ?_ ?_ <;> intro h1
 ·have h0 : ¬ (ofF d).2 = 0 := by simpa using h1
  refine Ac (Aa (O1 (Ae D3 rfl rfl rfl) (OM rfl (O1 (Dg (a := nx J) (off := 0) (cs := [.nil (.slice none 0 0),.nil (.slice none 0 0)]) (cs' := [A3 (ofF d).1.sorts,slV eR 4 (ofF d).1.rules]) (by rw [ab_,if_pos rfl]) D3 rfl rfl rfl rfl) ?_))))
  refine OA rfl (OA rfl (Ab ?_));refine An ?_
  exact ⟨[.agg [A3 (ofF d).1.sorts,slV eR 4 (ofF d).1.rules],sV [],iV (ofF d).2],B6 D3 rfl (by simp only [Sto.cells]; rw [a_,if_pos rfl]) rfl (Dj rfl (Dj rfl rfl)),_,J,ap_ hw ⟨by rw [Ak,Aj]; omega,fun b hb => by rw [a_,if_neg Om,ab_,if_neg Om]⟩,nl,.same (Ahr _ _ _),by unfold chkS I6; rw [if_neg h0,if_neg h0]; rfl,rfl⟩
 ·have h0 : (ofF d).2 = 0 := by simpa using h1
  refine Ai (Ac (Aa (O1 (Ae D3 rfl rfl rfl) (O1 (Ae Bv rfl rfl (A9 (A2 _))) (Ap rfl rfl rfl rfl (f29 (ofF d).1 t _ (Xk d) (Aqy d) Aj4 hb hh) (OM rfl (O1 (Al rfl rfl) ?_)))))));refine O1 (Al rfl rfl) (OA rfl (OA rfl (Ab (Ac (Aa (O1 (Ae D3 rfl rfl rfl) (OM rfl ?_)))))))
  refine OM rfl (O1 (Dg (a := nx J) (off := 0) (cs := [.nil (.slice none 0 0),.nil (.slice none 0 0)]) (cs' := [A3 (ofF d).1.sorts,slV eR 4 (ofF d).1.rules]) (by rw [ab_,if_pos rfl]) D3 rfl rfl rfl rfl) ?_)
  refine OA rfl (OA rfl (Ab ?_));refine An ?_
  exact ⟨[.agg [A3 (ofF d).1.sorts,slV eR 4 (ofF d).1.rules],sV (Wo (ofF d).1 t),iV (okC (ofF d).1 t 192)],B6 D3 rfl (by simp only [Sto.cells]; rw [a_,if_pos rfl]) rfl (Dj rfl (Dj rfl rfl)),_,J,ap_ hw ⟨by rw [Ak,Aj]; omega,fun b hb => by rw [a_,if_neg Om,ab_,if_neg Om]⟩,nl,.same (Ahr _ _ _),by unfold chkS I6; rw [if_pos h0,if_pos h0]; rfl,rfl⟩
theorem f32 (d : Db) (t : Au) (J : Sto) (hD : DbB d) (hvf : d.vars.length + d.frames.length < 1000000) (hb : Bw t <= 4000) (hh : hT t <= 100) : Cv 32 [dbV d,Bg t] J (.tup [sV (if I6 d t = 0 then chkS d t else []),iV (I6 d t)]) := by
 refine Az Tryz.func32 rfl rfl fun hw hu0 => ?_
 refine Ac (Aa (Ar Hy rfl rfl rfl (Ar Bv rfl (Bj (A2 t)) rfl (OA rfl (OA rfl (Ab (Ac ?_)))))));refine Aa (O1 (Ae Hy rfl rfl rfl) (O1 (Ae Bv rfl rfl (A9 (A2 _))) (Ap rfl rfl rfl rfl (f27 d t _ hD hvf hb hh) (OM rfl (O1 (Al rfl rfl) (O1 (Al rfl rfl) (O1 (Al rfl rfl) ?_)))))));refine Bz Ajp D3 rfl (fun _ => rfl) rfl rfl rfl rfl ?_
 refine OA rfl (OA rfl (Ab (Ac (Ac (Aa (OM rfl (O1 (Cx (q := 0) Jj rfl rfl) ?_)))))));refine Ab ?_;refine Ah rfl ?_ ?_ <;> intro h1
 ·have h0 : ¬ I6 d t = 0 := by simpa using h1
  refine Ac (Aa (OM rfl (OA rfl (OA rfl (Ab ?_)))));refine An (Bq hw rfl ?_);rw [if_neg h0]; rfl
 ·have h0 : I6 d t = 0 := by simpa using h1
  refine Ai (Ac (Aa (OM rfl (OA rfl (OA rfl (Ab ?_))))));refine An (Bq hw rfl ?_);rw [if_pos h0,h0]; rfl
end Go.AM
