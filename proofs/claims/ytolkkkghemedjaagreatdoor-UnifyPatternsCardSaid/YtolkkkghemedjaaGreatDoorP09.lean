/- A part of the proof; shortened by program. -/
import Derived.Test.YtolkkkghemedjaaGreatDoorP08
set_option maxRecDepth 100000
set_option linter.unusedSimpArgs false
set_option linter.unusedVariables false
namespace Go.AM
open Go Go.Proofs
theorem Kp {ρ : Al} {σ : Sto} {Rr : Rec} {t r sz : Nat} {x y : Operand} {agg : Bool} {z : AV} {α : Type} {enc : α -> AV} {m : SM α} {s : Str} {v : α} (h9 : Dz Ew.P 9 = true) (hi : mpI Ew.P t = some (9, z, sz, agg)) (hx : A0 Ew ρ x = some (.mp r)) (hm : Bg enc σ r m) (hy : A0 Ew ρ y = some (sV s)) (hg : m.get s = some v) :
  Bu Ew Rr (.lookup t x y false) ρ σ (enc v) σ := by
 have := Ags (Rr := Rr) h9 hi hx hm hy
 rwa [hg] at this
theorem Afj {ρ : Al} {σ : Sto} {Rr : Rec} {t r sz : Nat} {x y : Operand} {agg : Bool} {z : AV} {α : Type} {enc : α -> AV} {m : SM α} {s : Str} (h9 : Dz Ew.P 9 = true) (hi : mpI Ew.P t = some (9, z, sz, agg)) (hx : A0 Ew ρ x = some (.mp r)) (hm : Bg enc σ r m) (hy : A0 Ew ρ y = some (sV s)) (hg : m.get s = none) :
  Bu Ew Rr (.lookup t x y false) ρ σ z σ := by
 have := Ags (Rr := Rr) h9 hi hx hm hy
 rwa [hg] at this
theorem Anb {ρ : Al} {σ : Sto} {Rr : Rec} {x : Operand} {hi : Option Operand} {l : List Hp} {n : Nat} (hx : A0 Ew ρ x = some (slV eH 3 l)) (h2 : Gd Ew ρ hi = some (some (iV (.ofNat n)))) (hn : n <= l.length) :
  Bu Ew Rr (.slice 75 x none hi none) ρ σ (slV eH 3 (l.take n)) σ := by
 have hb : C6 l.length none none (some (iV (.ofNat n))) none = some (0, n, none) := by
  have h3 : Nat.ble n l.length = true := Nat.ble_eq_true_of_le hn;have h4 : Nat.ble 0 n = true := rfl;simp only [C6, iV, I3, h3, h4, Ls, cond_true, Bool.and_self, Lg]
 have := Agp (Rr := Rr) (σ := σ) (lo := none) (hi := hi) (mx := none) H0 Oh hx rfl h2 rfl hb (Nat.zero_le _) hn;rw [List.drop_zero, Nat.sub_zero] at this
 rwa [show slV eH 3 (l.take n) = .sv ((l.take n).flatMap eH) 3 n none by unfold slV; rw [List.length_take, Nat.min_eq_left hn]]
theorem Afk : ∀ {l m : List Str}, l.flatMap (fun s => [sV s]) = m.flatMap (fun s => [sV s]) -> l = m
 | [], [], _ => rfl
 | [], _ :: _, h => by simp at h
 | _ :: _, [], h => by simp at h
 | a :: l, b :: m, h => by
  simp only [List.flatMap_cons, List.cons_append, List.nil_append, List.cons.injEq] at h
  have h1 : a = b := by have := h.1; unfold sV at this; injection this with this; exact Fa.1 this
  rw [h1, Afk h.2]
theorem Anc : ∀ {l m : List Hp}, l.flatMap eH = m.flatMap eH -> l = m
 | [], [], _ => rfl
 | [], b :: _, h => by simp [eH] at h
 | a :: _, [], h => by simp [eH] at h
 | a :: l, b :: m, h => by
  simp only [List.flatMap_cons, eH, List.cons_append, List.nil_append, List.cons.injEq] at h;obtain ⟨h1, h2, h3, h4⟩ := h
  have e1 : a.label = b.label := by unfold sV at h1; injection h1 with h1; exact Fa.1 h1
  have e2 : a.floating = b.floating := by injection h2
  have e3 : a.text = b.text := by simp only [A9, slV, AV.sv.injEq] at h3; exact Afk h3.1
  rw [Anc h4];cases a; cases b; simp only at e1 e2 e3; subst e1 e2 e3; rfl
theorem Aph {l m : List Hp} (h : slV eH 3 l = slV eH 3 m) : l = m := by unfold slV at h; injection h with h; exact Anc h
theorem And {f : Nat} {a a' : List AV} {s : Sto} {v v' : AV} {r : List (Nat × List AV × Sto × AV × Sto)} (h : a' = a -> v = v') : Gf ((f, a, s, v, s) :: (f, a', s, v', s) :: r) f a' s = some (v', s) := by
 by_cases e : a' = a
 ·unfold Gf; rw [if_pos ⟨rfl, e, rfl⟩, h e]
 ·unfold Gf; rw [if_neg (fun hh => e hh.2.1)]; unfold Gf; rw [if_pos ⟨rfl, rfl, rfl⟩]
def Nb (d : Db) : AV := .tup [slV eH 3 ((Eo d).getD []), .bool (Eo d).isSome]
theorem Oj {d : Db} (hne : d.frames.length ≠ 0) (h : M8 d d.frames 0 ([], []) = none) : Eo d = none := by unfold Eo; rw [if_neg hne, h]
theorem Aa7 {α : Type} {f : α -> Bool} : ∀ {l : List α} {p : α × List α}, p ∈ Fu l -> l.all f = (f p.1 && p.2.all f)
 | [], p, h => by simp [Fu] at h
 | x :: m, p, h => by
  simp only [Fu, List.mem_cons, List.mem_map] at h
  rcases h with rfl | ⟨q, hq, rfl⟩
  ·rfl
  ·simp only [List.all_cons, Aa7 hq];cases f x <;> cases f q.1 <;> rfl
theorem Wo {l : List Hp} {h : Hp} (hm : h ∈ flo l) : h ∈ l /\ h.floating = true := by
 have := List.mem_filter.1 hm
 exact ⟨this.1, by have h2 := this.2; simpa [Ts] using h2⟩
theorem f185 (h : Hp) (σ : Sto) : Ah Ew 185 [.agg (eH h)] σ fun v σ' => v = .bool h.floating /\ σ' = σ := by
 refine A2 Tryz.func185 rfl rfl fun hw hu0 => ?_
 refine Ad (Aa (Ax Dy rfl rfl rfl (OA rfl (Ab (Ad (Aa (O1 (Ac Io rfl rfl) ?_)))))));refine O1 (Ae ld4 rfl rfl rfl) (OA rfl (Ab ?_));refine Ak (Bw hw rfl ?_);exact rfl
theorem f153 (d : Db) (σ : Sto) (hB : DbB d) (hfl : ∀ f ∈ d.frames, ∀ h ∈ f.all, h.floating = true -> ∃ a b, h.text = [a, b]) (hcov : d.frames.length ≠ 0 -> ∀ s, M8 d d.frames 0 ([], []) = some s -> ∀ v ∈ d.vars, (s.1.get v).isSome = true) : Ah Ew 153 [dbV d] σ fun v σ' => v = Nb d /\ σ' = σ := by
 refine A2 Tryz.func153 rfl rfl fun hw hu0 => ?_
 refine Ad (Aa (Ax Ki rfl rfl rfl (OA rfl (OA rfl (Ab (Aoy (Ad ?_)))))));refine Ad (Aa (O1 (Ac Rf rfl rfl) (O1 (Ae Ag8 rfl rfl rfl) (O1 (As Ag9 rfl) (O1 (Dq (q := 0) ok3 rfl rfl) (Ab ?_))))));refine Ai rfl (fun h1 => ?_) (fun h1 => ?_)
 ·refine Ad ?_
  refine Ht (anns := [aP 0 0, aR 0 0, aR 0 0, aP 0 0, aP 0 0, aP 0 0]) A5 (by kernel_rfl) (by kernel_rfl) ?_
  refine DF (Ac Od rfl rfl) (DF (Ae Cf rfl rfl rfl) (DF (As D0 rfl) (DF (Dq (q := 0) ok3 rfl rfl) (DF (Bv rfl) (DF (Bv rfl) (Bl ?_))))));refine ⟨rfl, rfl, ?_⟩
  have hfz : d.frames.length = 0 := by simpa using h1
  have e : Nb d = .tup [slV eH 3 [], .bool (decide (Int.ofNat d.vars.length = 0))] := by
   unfold Nb Eo; rw [if_pos hfz]
   by_cases hv : d.vars.length = 0
   ·rw [if_pos hv, hv]; rfl
   ·rw [if_neg hv, decide_eq_false (by simpa using hv)]; rfl
  refine Ak ?_
  exact ⟨_, rfl, Nb d, σ, Aw.of_same hw nl (fun _ _ => rfl), nl, by rw [e]; exact .tup (.cons C7 (.cons (.same rfl) .nil)), rfl, rfl⟩
 ·refine Aj (Ad (Aa (O1 (Cr (n := nx σ) Og rfl) (OA rfl (Ab (Ad (Aa ?_)))))));refine O1 (Cr (n := nx σ + 1) Aa2 (nx1 rfl)) (OA rfl (Ab (Ad (Ad (Aa (O1 (Ac Rf rfl rfl) (O1 (Ae Ag8 rfl rfl rfl) ?_)))))));refine O1 (As Ag9 rfl) (OM rfl (Ab ?_));have hbn := hB.n;have hbv := hB.v
  have hne : d.frames.length ≠ 0 := by simpa using h1
  have hinit0 : ∃ s, Nj σ ((σ.new (.map 9 [] 0)).new (.map 9 [] 0)) s /\ M8 d d.frames 0 ([], []) = M8 d (d.frames.drop 0) 0 s := by
   refine ⟨([], []), ⟨by simp only [Ap]; omega, fun b hb => by rw [Sto.get_new, if_neg (by rw [Ap]; omega), Sto.get_new, if_neg (by omega)], ⟨0, by rw [Sto.get_new, if_neg (by rw [Ap]; omega), Sto.get_new, if_pos rfl]; rfl⟩, ⟨[], ⟨⟨0, by rw [Sto.get_new, if_pos (by rw [Ap])]; rfl⟩, fun _ => rfl, fun _ _ _ h => (by cases h), fun _ _ h => (by cases h), fun _ _ _ h => (by cases h)⟩⟩, fun _ => rfl⟩, rfl⟩
  refine Am ?_;refine Cg d.frames.length (fun i0 => [(1, .pv [A9 d.consts, A9 d.vars, slV eF 8 d.frames]), (4, .mp (nx σ)), (5, .mp (nx σ + 1)), (34, slV eF 8 d.frames), (35, iV (.ofNat d.frames.length)), (36, iV (.ofNat i0))]) (fun i0 σ0 => ∃ s, Nj σ σ0 s /\ M8 d d.frames 0 ([], []) = M8 d (d.frames.drop i0) i0 s) ⟨rfl, rfl, rfl, rfl, rfl, rfl, trivial⟩ hinit0 ?_
  rintro i0 σ0 hi0 ⟨s0, hO0, hf0⟩;refine Ad (Aa (O1 (Bb ok3 rfl rfl) (Ab (Ad ?_))));refine Ai rfl (fun h2 => ?_) (fun h2 => ?_)
  ·have hlt0 : i0 < d.frames.length := by simpa using h2
   obtain ⟨a0, ha0⟩ := B3 hlt0;have hd0 := Bn ha0;have hFa := hB.f a0 (List.mem_of_getElem? ha0);have hall := hFa.a
   have hdl : a0.dummies.length < 1000000 := by have := hFa.a; simp [Fr.all] at this; omega
   have hhl := hFa.h;have hs1 := Gx (p := Ts) (l := a0.hyps);have hs2 := Gx (p := Ts) (l := a0.dummies);have hs1' : (flo a0.hyps).length <= a0.hyps.length := hs1;have hs2' : (flo a0.dummies).length <= a0.dummies.length := hs2;refine Aj (Ad (Am (Ad (Aa (OM rfl (O1 (A3 el23 (fun _ => rfl) rfl rfl ha0) ?_))))))
   refine O1 (Ae Oe rfl rfl rfl) (K9 zi78 Oe rfl rfl (fun _ => rfl) rfl (fun _ => rfl) rfl rfl rfl rfl rfl ?_)
   refine Ab (Ad ?_)
   refine Gu (anns := [aP 0 0, aR 0 0, aE 0 1, aP 0 1, aR 0 1, aE 1 2, aP 2 2, aP 2 2]) A5 (Ar (l := [(184, [slV eH 3 a0.hyps], σ0, slV eH 3 (flo a0.hyps), σ0), (184, [slV eH 3 a0.dummies], σ0, slV eH 3 (flo a0.dummies), σ0)]) ⟨f184 a0.hyps σ0 hFa.h, f184 a0.dummies σ0 hdl, trivial⟩) (by kernel_rfl) ?_
   refine DF (Ac G4 rfl rfl) (DF (Ae Kk rfl rfl rfl) (DT (A7 rfl rfl Ba) (DF (Ac Ul rfl rfl) (DF (Ae Kk rfl rfl rfl) (DT (A7 rfl rfl (And (fun e => by have := Aph (List.cons.inj e).1; rw [this]))) ?_)))))
   refine DF (Bv rfl) (DF (Bv rfl) (Bl ?_))
   refine ⟨rfl, by simp, ?_⟩
   refine Ad (Ad (Aa (OM rfl (O1 (As Fs rfl) (OM rfl (O1 (As Fs rfl) (O1 (A1 ok3 rfl rfl (by omega)) ?_)))))))
   refine O1 (Ac Od rfl rfl) (O1 (Ae Cf rfl rfl rfl) (O1 (As D0 rfl) (O1 (C9 ok3 rfl rfl) (OM rfl ?_))));refine Co 6 _ ?_ rfl rfl rfl rfl rfl (Av rfl) (fun hg => ?_) (fun hg => ?_) ?_
   rotate_left
   ·refine On hg (Ac G4 rfl rfl) (On hg (Ae Kk rfl rfl rfl) (On hg (Ag rfl) (On hg (As Fs rfl) (On hg (Acp H0 Oh rfl rfl Gx) (B0 rfl rfl rfl (by rw [hg]; rfl) rfl rfl rfl rfl (f44 (fun h => h.floating) (a0.hyps.drop (flo a0.hyps).length) 185 [] σ0 (by rw [List.length_drop]; omega) (fun a _ => f185 a σ0)) ?_)))))
    refine Ab ?_;refine ⟨rfl, ?_, ?_⟩
    ·exact sb
    ·exact rfl
   ·refine Of hg (Of hg (Of hg (Of hg (Of hg (Of hg (Ab ?_))))));exact ⟨rfl, sb⟩
   refine Ab ?_;refine Ai rfl (fun h3 => ?_) (fun h3 => ?_)
   ·refine Ad (Aa (OA rfl (OA rfl (Ab ?_))))
    have hO : Eo d = none := Oj hne (by rw [hf0, hd0, M8, if_pos (show Am8 d a0 = true from h3)])
    refine Ak ?_
    exact ⟨_, rfl, .tup [slV eH 3 [], .bool false], σ, Aw.below hw ⟨by have := hO0.n; omega, hO0.g⟩, nl, .tup (.cons C7 (.cons (.same rfl) .nil)), by unfold Nb; rw [hO]; rfl, rfl⟩
   ·have h3' : Am8 d a0 = false := h3
    refine Aj (Ad (Aa (OM rfl (OM rfl (O1 (Ve (z := [.nil (.slice none 0 0), .nil (.slice none 0 0)]) (by kernel_rfl) Ap3 rfl rfl) ?_)))))
    refine OM rfl (Ab (Am ?_));refine Cg 2 (fun i2 => [(1, .pv [A9 d.consts, A9 d.vars, slV eF 8 d.frames]), (4, .mp (nx σ)), (5, .mp (nx σ + 1)), (6, iV (.ofNat i0)), (34, slV eF 8 d.frames), (35, iV (.ofNat d.frames.length)), (36, iV (.ofNat i0)), (66, .agg [slV eH 3 (flo a0.hyps), slV eH 3 (flo a0.dummies)]), (67, iV (.ofNat i2))]) (fun i2 σ2 => ∃ s, Nj σ σ2 s /\ Ni i0 [flo a0.hyps, flo a0.dummies] s0 = Ni i0 ([flo a0.hyps, flo a0.dummies].drop i2) s) ⟨rfl, rfl, rfl, rfl, rfl, rfl, rfl, rfl, rfl, trivial⟩ ⟨s0, hO0, rfl⟩ ?_
    rintro i2 σ2 hi2 ⟨s2, hO2, hf2⟩;refine Ad (Aa (O1 (Bb (q := 2) ok3 rfl rfl) (Ab (Ad ?_))));refine Ai rfl (fun h4 => ?_) (fun h4 => ?_)
    ·have hlt2 : i2 < 2 := by have h9 := of_decide_eq_true h4; simp at h9; omega
     have hld2 : ∀ a2, [flo a0.hyps, flo a0.dummies][i2]? = some a2 -> Lz 1 false (([slV eH 3 (flo a0.hyps), slV eH 3 (flo a0.dummies)] : List AV).drop (i2 * 1)) = some (slV eH 3 a2) := fun a2 ha => by
      match i2, hlt2, ha with
      | 0, _, ha => cases ha; rfl
      | 1, _, ha => cases ha; rfl
     obtain ⟨a2, ha2⟩ := B3 (show i2 < [flo a0.hyps, flo a0.dummies].length from hlt2)
     have hd2 := Bn ha2
     have hfl2 : ∀ h ∈ a2, ∃ a b, h.text = [a, b] := fun h hh => by
      have hm := List.mem_of_getElem? ha2;simp only [List.mem_cons, List.not_mem_nil, or_false] at hm
      rcases hm with rfl | rfl
      ·exact hfl a0 (List.mem_of_getElem? ha0) h (by simp [Fr.all, (Wo hh).1]) (Wo hh).2
      ·exact hfl a0 (List.mem_of_getElem? ha0) h (by simp [Fr.all, (Wo hh).1]) (Wo hh).2
     have hl2 : a2.length < 1000000 := by
      have hm := List.mem_of_getElem? ha2;simp only [List.mem_cons, List.not_mem_nil, or_false] at hm
      rcases hm with rfl | rfl <;> omega
     refine Aj (Ad (Am (Ad (Aa (O1 (Akm (v := slV eH 3 a2) Ap3 rfl rfl hlt2 (hld2 a2 ha2)) (OA rfl (Ab ?_)))))));refine Ad (Aa (OM rfl (O1 (As Fs rfl) (OM rfl (Ab (Am ?_))))));refine Cg a2.length (fun i4 => [(1, .pv [A9 d.consts, A9 d.vars, slV eF 8 d.frames]), (4, .mp (nx σ)), (5, .mp (nx σ + 1)), (6, iV (.ofNat i0)), (11, slV eH 3 a2), (34, slV eF 8 d.frames), (35, iV (.ofNat d.frames.length)), (36, iV (.ofNat i0)), (66, .agg [slV eH 3 (flo a0.hyps), slV eH 3 (flo a0.dummies)]), (67, iV (.ofNat i2)), (70, slV eH 3 a2), (71, iV (.ofNat a2.length)), (72, iV (.ofNat i4))]) (fun i4 σ4 => ∃ s, Nj σ σ4 s /\ V4 i0 a2 a2 0 s2 = V4 i0 a2 (a2.drop i4) i4 s) ⟨rfl, rfl, rfl, rfl, rfl, rfl, rfl, rfl, rfl, rfl, rfl, rfl, rfl, trivial⟩ ⟨s2, hO2, rfl⟩ ?_
     rintro i4 σ4 hi4 ⟨s4, hO4, hf4⟩;refine Ad (Aa (O1 (Bb ok3 rfl rfl) (Ab (Ad ?_))));refine Ai rfl (fun h5 => ?_) (fun h5 => ?_)
     ·have hlt4 : i4 < a2.length := by simpa using h5
      obtain ⟨a4, ha4⟩ := B3 hlt4;have hd4 := Bn ha4;obtain ⟨t0, t1, htx⟩ := hfl2 a4 (List.mem_of_getElem? ha4);have htv : txv a4 = t1 := Wn htx;refine Ec fun hw4 => ?_
      refine Aj (Ad (Am (Ad (Aa (OM rfl (O1 (A3 H0 (fun _ => rfl) rfl rfl ha4) ?_))))))
      refine O1 (Ae Dy rfl rfl rfl) (K9 Rh Dy rfl rfl (fun _ => rfl) rfl (fun _ => rfl) rfl rfl rfl rfl rfl ?_)
      refine Ab (Ad (Aa (O1 (Ac Da rfl rfl) (O1 (Ae Cf rfl rfl rfl) (O1 (A3 C5 (fun _ => rfl) rfl rfl (by rw [htx]; rfl : a4.text[1]? = some t1) (i := 1)) ?_)))))
      refine O1 (Ae ld9 rfl rfl rfl) (OA rfl (Ab ?_));refine Agt (fun L τ => L = [(1, .pv [A9 d.consts, A9 d.vars, slV eF 8 d.frames]), (4, .mp (nx σ)), (5, .mp (nx σ + 1)), (6, iV (.ofNat i0)), (11, slV eH 3 a2), (12, iV (.ofNat i4)), (13, .pv (eH a4)), (14, sV t1), (34, slV eF 8 d.frames), (35, iV (.ofNat d.frames.length)), (36, iV (.ofNat i0)), (66, .agg [slV eH 3 (flo a0.hyps), slV eH 3 (flo a0.dummies)]), (67, iV (.ofNat i2)), (70, slV eH 3 a2), (71, iV (.ofNat a2.length)), (72, iV (.ofNat i4))] /\ Nj σ τ (Nk i0 a4 s4)) ?_ ?_
      ·refine Ad (Aa (OM rfl (O1 (Dq (q := 0) ok3 rfl rfl) (Ab ?_))));refine Ai rfl (fun h6 => ?_) (fun h6 => ?_)
       ·have hi00 : i0 = 0 := by simpa using h6
        have hn4 := hO4.n;obtain ⟨refs4, hA4⟩ := id hO4.a;obtain ⟨v1, hv1⟩ := id hO4.o;obtain ⟨v2, hv2⟩ := id hA4.m
        have hm1 : (σ4.new (.map 9 [] 0)).get (nx σ) = some (.map 9 (Ct hV s4.1) v1) := by rw [Sto.get_new, if_neg (by have := hO4.n; omega)]; exact hv1
        have hm2 : (((σ4.new (.map 9 [] 0)).set (nx σ) (.map 9 (Rd hV (.agg [.str [], .bool false, .nil (.slice none 0 0)]) s4.1 t1) (v1 + 1))).new (.stamp (nx σ) (v1 + 1) (kS t1))).get (nx (σ4.new (.map 9 [] 0))) = some (.stamp (nx σ) (v1 + 1) (kS t1)) := by rw [Sto.get_new, if_pos (by rw [An])]
        have hm3 : (((σ4.new (.map 9 [] 0)).set (nx σ) (.map 9 (Rd hV (.agg [.str [], .bool false, .nil (.slice none 0 0)]) s4.1 t1) (v1 + 1))).new (.stamp (nx σ) (v1 + 1) (kS t1))).get (nx σ) = some (.map 9 (Rd hV (.agg [.str [], .bool false, .nil (.slice none 0 0)]) s4.1 t1) (v1 + 1)) := by rw [Sto.get_new, if_neg (by rw [An, Ap]; have := hO4.n; omega), Sto.get_set, if_pos rfl]
        have hm4 : ((((σ4.new (.map 9 [] 0)).set (nx σ) (.map 9 (Rd hV (.agg [.str [], .bool false, .nil (.slice none 0 0)]) s4.1 t1) (v1 + 1))).new (.stamp (nx σ) (v1 + 1) (kS t1))).set (nx σ) (.map 9 (Ct hV (s4.1.put t1 a4)) (v1 + 1 + 1))).get (nx σ + 1) = some (.map 9 (Ct (fun q => AV.mp q) refs4) v2) := by rw [Sto.get_set, if_neg (by omega), Sto.get_new, if_neg (by rw [An, Ap]; have := hO4.n; omega), Sto.get_set, if_neg (by omega), Sto.get_new, if_neg (by have := hO4.n; omega)]; exact hv2
        have hfirst : Nj σ (((((σ4.new (.map 9 [] 0)).set (nx σ) (.map 9 (Rd hV (.agg [.str [], .bool false, .nil (.slice none 0 0)]) s4.1 t1) (v1 + 1))).new (.stamp (nx σ) (v1 + 1) (kS t1))).set (nx σ) (.map 9 (Ct hV (s4.1.put t1 a4)) (v1 + 1 + 1))).set (nx σ + 1) (.map 9 (Ct (fun q => AV.mp q) (refs4.put t1 (nx σ4))) (v2 + 1))) (Nk i0 a4 s4) := by
         rw [hi00]
         refine hO4.first (ver := v1 + 1 + 1) (ver2 := v2 + 1) hA4 hw4 (by simp only [An, Ap]; omega) (by rw [htv, Sto.get_set, if_neg (by omega), Sto.get_set, if_pos rfl]) (by rw [htv, Sto.get_set, if_pos rfl]) ⟨0, ?_⟩ (fun b h8 h9 h10 => ?_)
         ·rw [Sto.get_set, if_neg (by omega), Sto.get_set, if_neg (by omega), Sto.get_new, if_neg (by rw [An, Ap]; omega), Sto.get_set, if_neg (by omega), Sto.get_new, if_pos rfl]; rfl
         ·rw [Sto.get_set, if_neg (by omega), Sto.get_set, if_neg (by omega), Sto.get_new, if_neg (by rw [An, Ap]; omega), Sto.get_set, if_neg (by omega), Sto.get_new, if_neg (by omega)]
        skip
        refine Aa (OM rfl (OM rfl (OM rfl (OM rfl (O1 (Ae Dy rfl rfl rfl) (Aq rfl rfl rfl rfl (f186 a4 σ4 (by rw [htx]; simp)) ?_))))))
        refine O1 (Mu C1) (O1 (Aez (enc := hV) (m := s4.1) (s := t1) st9 Og rfl (hm1 : (σ4.new (.map 9 [] 0)).get (nx σ) = some (.map 9 (Ct hV s4.1) v1)) rfl) (O1 (Ao rfl rfl) (O1 (Zx (enc := hV) (m := s4.1) (s := t1) (v := a4) Og rfl rfl rfl (fun te k1 k2 => Gj k1 k2 rfl) (hm2 : (((σ4.new (.map 9 [] 0)).set (nx σ) (.map 9 (Rd hV (.agg [.str [], .bool false, .nil (.slice none 0 0)]) s4.1 t1) (v1 + 1))).new (.stamp (nx σ) (v1 + 1) (kS t1))).get (nx (σ4.new (.map 9 [] 0))) = _) (hm3 : (((σ4.new (.map 9 [] 0)).set (nx σ) (.map 9 (Rd hV (.agg [.str [], .bool false, .nil (.slice none 0 0)]) s4.1 t1) (v1 + 1))).new (.stamp (nx σ) (v1 + 1) (kS t1))).get (nx σ) = _)) ?_)))
        refine O1 (Fj (v := nx σ4) (enc := fun q => AV.mp q) st9 Aa2 rfl (hm4 : ((((σ4.new (.map 9 [] 0)).set (nx σ) (.map 9 (Rd hV (.agg [.str [], .bool false, .nil (.slice none 0 0)]) s4.1 t1) (v1 + 1))).new (.stamp (nx σ) (v1 + 1) (kS t1))).set (nx σ) (.map 9 (Ct hV (s4.1.put t1 a4)) (v1 + 1 + 1))).get (nx σ + 1) = some (.map 9 (Ct (fun q => AV.mp q) refs4) v2)) rfl rfl (fun te k1 k2 => by first | exact G2 k1 k2 | exact G3 k1 k2 | exact Hu k1 k2 | exact Hv k1 k2 | exact Gj k1 k2 rfl)) ?_
        refine Ab ?_;exact ⟨[(1, .pv [A9 d.consts, A9 d.vars, slV eF 8 d.frames]), (4, .mp (nx σ)), (5, .mp (nx σ + 1)), (6, iV (.ofNat i0)), (11, slV eH 3 a2), (12, iV (.ofNat i4)), (13, .pv (eH a4)), (14, sV t1), (34, slV eF 8 d.frames), (35, iV (.ofNat d.frames.length)), (36, iV (.ofNat i0)), (66, .agg [slV eH 3 (flo a0.hyps), slV eH 3 (flo a0.dummies)]), (67, iV (.ofNat i2)), (70, slV eH 3 a2), (71, iV (.ofNat a2.length)), (72, iV (.ofNat i4))], ⟨rfl, rfl, rfl, rfl, rfl, rfl, rfl, rfl, rfl, rfl, rfl, rfl, rfl, rfl, rfl, rfl, trivial⟩, rfl, hfirst⟩
       ·refine Aj ?_
        exact ⟨[(1, .pv [A9 d.consts, A9 d.vars, slV eF 8 d.frames]), (4, .mp (nx σ)), (5, .mp (nx σ + 1)), (6, iV (.ofNat i0)), (11, slV eH 3 a2), (12, iV (.ofNat i4)), (13, .pv (eH a4)), (14, sV t1), (34, slV eF 8 d.frames), (35, iV (.ofNat d.frames.length)), (36, iV (.ofNat i0)), (66, .agg [slV eH 3 (flo a0.hyps), slV eH 3 (flo a0.dummies)]), (67, iV (.ofNat i2)), (70, slV eH 3 a2), (71, iV (.ofNat a2.length)), (72, iV (.ofNat i4))], ⟨rfl, rfl, rfl, rfl, rfl, rfl, rfl, rfl, rfl, rfl, rfl, rfl, rfl, rfl, rfl, rfl, trivial⟩, rfl, by have h9 : i0 ≠ 0 := (by simpa using h6); unfold Nk; rw [if_neg h9]; exact hO4⟩
      ·rintro L τ ⟨rfl, hO5⟩;obtain ⟨refs, hA5⟩ := id hO5.a;have hn5 := hO5.n
       rcases hq : refs.get t1 with _ | q
       ·refine Ad (Ad (Aa (OM rfl (OM rfl (O1 (Afj st9 Aa2 rfl hA5.m rfl hq) (O1 (Al9 C1 rfl) (OM rfl ?_)))))));refine Co 6 true false rfl rfl rfl rfl rfl (Av rfl) (fun hg => ?_) (fun hg => ?_) ?_
        ·cases hg
        ·refine Of hg (Of hg (Of hg (Of hg (Of hg (Of hg (Ab ?_))))));exact ⟨rfl, sb⟩
        refine Ab ?_
        refine Ai rfl (fun h7 => ?_) (fun h7 => by cases h7)
        refine Ad (Aa (OA rfl (OA rfl (Ab ?_))))
        have hH : Afh i0 (a2.take i4) a4 s4 = none := by
         have hAn := hA5.s t1;rw [hq] at hAn;unfold Afh; rw [htv];cases hx : (Nk i0 a4 s4).2.get t1 with
         | none => rfl
         | some a => rw [hx] at hAn; cases hAn
        have e1 : V4 i0 a2 a2 0 s2 = none := by rw [hf4, hd4, V4, hH]
        have e2 : Ni i0 [flo a0.hyps, flo a0.dummies] s0 = none := by rw [hf2, hd2, Ni, e1]
        have e3 : M8 d d.frames 0 ([], []) = none := by rw [hf0, hd0, M8, if_neg (fun hh => Bool.noConfusion (h3'.symm.trans hh)), e2]
        have hO : Eo d = none := Oj hne e3;refine Ak ?_
        exact ⟨_, rfl, .tup [slV eH 3 [], .bool false], σ, Aw.below hw ⟨by omega, hO5.g⟩, nl, .tup (.cons C7 (.cons (.same rfl) .nil)), by unfold Nb; rw [hO]; rfl, rfl⟩
       have hqn := hA5.n t1 q hq;have hAq := hA5.s t1;rw [hq] at hAq;obtain ⟨aS, haS⟩ := Option.isSome_iff_exists.1 hAq.symm;have hk5 := hO5.k t1;rw [haS] at hk5;obtain ⟨h1H, h1e⟩ := Option.isSome_iff_exists.1 hk5;refine Ad (Ad (Aa (OM rfl (OM rfl (O1 (Kp (v := q) (enc := fun q => AV.mp q) st9 Aa2 rfl hA5.m rfl hq) ?_)))))
       refine O1 (Al8 C1 rfl) (OM rfl ?_);refine Co 6 _ ?_ rfl rfl rfl rfl rfl (Av rfl) (fun hg => ?_) (fun hg => ?_) ?_
       rotate_left
       ·refine On hg (Ag rfl) (On hg (Ag rfl) (On hg (Kp (v := h1H) (enc := hV) st9 Og rfl hO5.o rfl h1e) (On hg (Ae Dy rfl rfl rfl) (B0 rfl rfl rfl (by rw [hg]; rfl) rfl rfl rfl rfl (f187 h1H a4 τ (by rw [htx]; simp)) ?_))))
        refine On hg (A8 rfl) (Ab ?_);refine ⟨rfl, ?_, ?_⟩
        ·exact sb
        ·exact rfl
       ·cases hg
       refine Ab ?_;refine Ai rfl (fun h7 => ?_) (fun h7 => ?_)
       ·refine Ad (Aa (OA rfl (OA rfl (Ab ?_))))
        have hH : Afh i0 (a2.take i4) a4 s4 = none := by
         unfold Afh; rw [htv, haS];simp only [h1e]
         rw [if_neg (by show ¬ Ai6 h1H a4 = true; simpa using h7)]
        have e1 : V4 i0 a2 a2 0 s2 = none := by rw [hf4, hd4, V4, hH]
        have e2 : Ni i0 [flo a0.hyps, flo a0.dummies] s0 = none := by rw [hf2, hd2, Ni, e1]
        have e3 : M8 d d.frames 0 ([], []) = none := by rw [hf0, hd0, M8, if_neg (fun hh => Bool.noConfusion (h3'.symm.trans hh)), e2]
        have hO : Eo d = none := Oj hne e3;refine Ak ?_
        exact ⟨_, rfl, .tup [slV eH 3 [], .bool false], σ, Aw.below hw ⟨by omega, hO5.g⟩, nl, .tup (.cons C7 (.cons (.same rfl) .nil)), by unfold Nb; rw [hO]; rfl, rfl⟩
       ·have hsm : Ai6 h1H a4 = true := by simpa using h7
        refine Aj (Ad (Aa (OM rfl (OM rfl (O1 (Anb rfl rfl (by omega)) ?_)))))
        refine O1 (As Fs rfl) (OM rfl (Ab (Am ?_)));refine Cg (a2.take i4).length (fun i6 => [(1, .pv [A9 d.consts, A9 d.vars, slV eF 8 d.frames]), (4, .mp (nx σ)), (5, .mp (nx σ + 1)), (6, iV (.ofNat i0)), (11, slV eH 3 a2), (14, sV t1), (34, slV eF 8 d.frames), (35, iV (.ofNat d.frames.length)), (36, iV (.ofNat i0)), (66, .agg [slV eH 3 (flo a0.hyps), slV eH 3 (flo a0.dummies)]), (67, iV (.ofNat i2)), (70, slV eH 3 a2), (71, iV (.ofNat a2.length)), (72, iV (.ofNat i4)), (106, slV eH 3 (a2.take i4)), (107, iV (.ofNat (a2.take i4).length)), (108, iV (.ofNat i6))]) (fun i6 σ6 => E3 σ6 q (Aky aS ((a2.take i4).take i6)) /\ nx σ6 = nx τ /\ ∀ b, b ≠ q -> σ6.get b = τ.get b) ⟨rfl, rfl, rfl, rfl, rfl, rfl, rfl, rfl, rfl, rfl, rfl, rfl, rfl, rfl, rfl, rfl, rfl, trivial⟩ ⟨hA5.a t1 q aS hq haS, rfl, fun _ _ => rfl⟩ ?_
        rintro i6 σ6 hi6 ⟨hs6, hn6, hg6⟩;refine Ad (Aa (O1 (Bb ok3 rfl rfl) (Ab (Ad ?_))));refine Ai rfl (fun h8 => ?_) (fun h8 => ?_)
        ·have hlt6 : i6 < (a2.take i4).length := by simpa using h8
         obtain ⟨a6, ha6⟩ := B3 hlt6;have hd6 := Bn ha6;have ha6m : a6 ∈ a2 := List.mem_of_mem_take (List.mem_of_getElem? ha6);obtain ⟨u0, u1, hux⟩ := hfl2 a6 ha6m;obtain ⟨v6, hv6⟩ := id hs6
         have hlt6' : i6 < a2.length := by have h11 := hlt6; rw [List.length_take] at h11; omega
         refine Aj (Ad (Am (Ad (Aa (O1 (A3 H0 (fun _ => rfl) rfl rfl ha6) ?_)))))
         refine O1 (Ae Dy rfl rfl rfl) (B6 Rh Dy rfl (fun _ => rfl) rfl rfl rfl rfl ?_)
         refine Ab ?_
         refine Cq (anns := [aP 0 0, aP 0 0, aR 0 0, aP 0 0, aR 0 0, aP 0 0, aR 0 0, aE 0 1]) A5 (Ar (l := []) trivial) (by kernel_rfl) (by kernel_rfl) ?_
         refine DF (Ag rfl) (DF (Ag rfl) (DF (Kp (v := q) (enc := fun q => AV.mp q) st9 Aa2 rfl (hA5.m.of_get (hg6 _ (by omega))) rfl hq) ?_))
         refine DF (Ac Da rfl rfl) (DF (Ae Cf rfl rfl rfl) (DF (A3 C5 (fun _ => rfl) rfl rfl (by rw [hux]; rfl : a6.text[1]? = some u1) (i := 1)) ?_))
         refine DF (Ae ld9 rfl rfl rfl) (DT (Fj (v := true) st9 C1 rfl hv6 rfl rfl (fun te k1 k2 => by first | exact G2 k1 k2 | exact G3 k1 k2 | exact Hu k1 k2 | exact Hv k1 k2 | exact Gj k1 k2 rfl)) ?_)
         refine Bl (Aa (O1 (A1 (q := 1) ok3 rfl rfl (by omega)) ?_))
         refine OM rfl (Ab ?_)
         refine ⟨hlt6, ⟨rfl, rfl, rfl, rfl, rfl, rfl, rfl, rfl, rfl, rfl, rfl, rfl, rfl, rfl, rfl, rfl, rfl, trivial⟩, by rw [Cx ha6, Akz, Wn hux]; exact Bg.put, by rw [An]; exact hn6, fun b hb => by rw [Sto.get_set, if_neg (by omega)]; exact hg6 b hb⟩
        ·have hge6 : (a2.take i4).length <= i6 := by simpa using h8
         rw [List.take_of_length_le hge6] at hs6;refine Bf ?_
         refine Aa (O1 (A1 (q := 1) ok3 rfl rfl (by omega)) ?_)
         refine OM rfl (Ab ?_)
         refine ⟨hlt4, ⟨rfl, rfl, rfl, rfl, rfl, rfl, rfl, rfl, rfl, rfl, rfl, rfl, rfl, trivial⟩, ((Nk i0 a4 s4).1, (Nk i0 a4 s4).2.put t1 (Aky aS (a2.take i4))), hO5.turn hA5 hq (by rw [hn6]; exact nl) hs6 hg6, by rw [hf4, hd4, V4, Afh, htv, haS]; simp only [h1e]; rw [if_pos (show Ai8 (some h1H) a4 = true from hsm)]⟩
     ·have hge4 : a2.length <= i4 := by simpa using h5
      have hL4 : V4 i0 a2 a2 0 s2 = some s4 := by rw [hf4, List.drop_eq_nil_of_le hge4]; rfl
      refine Bf ?_
      refine Aa (O1 (A1 (q := 1) ok3 rfl rfl (by omega)) ?_)
      refine OM rfl (Ab ?_)
      refine ⟨hlt2, ⟨rfl, rfl, rfl, rfl, rfl, rfl, rfl, rfl, rfl, trivial⟩, s4, hO4, by rw [hf2, hd2, Ni, hL4]⟩
    ·have hge2 : 2 <= i2 := by have h9 := of_decide_eq_false h4; simp at h9; omega
     have hLs : Ni i0 [flo a0.hyps, flo a0.dummies] s0 = some s2 := by rw [hf2, List.drop_eq_nil_of_le (show [flo a0.hyps, flo a0.dummies].length <= i2 from hge2)]; rfl
     refine Bf ?_
     refine Aa (O1 (A1 (q := 1) ok3 rfl rfl (by omega)) ?_)
     refine OM rfl (Ab ?_)
     refine ⟨hlt0, ⟨rfl, rfl, rfl, rfl, rfl, rfl, trivial⟩, s2, hO2, by rw [hf0, hd0, M8, if_neg (fun hh => Bool.noConfusion (h3'.symm.trans hh)), hLs]⟩
  ·have hge0 : d.frames.length <= i0 := by simpa using h2
   have hF : M8 d d.frames 0 ([], []) = some s0 := by rw [hf0, List.drop_eq_nil_of_le hge0]; rfl
   have hcv := hcov hne s0 hF;obtain ⟨refs, hA0⟩ := id hO0.a;have hn0 := hO0.n;refine Ec fun hw0 => ?_
   refine Bf ?_;refine Ad (Aa (OA rfl (Ab (Ad (Aa (O1 (Cr (n := nx σ0) C1 rfl) (OA rfl ?_)))))));refine Ab (Ad (Aox (Ad (Am ?_))));refine E9 (fun q : AV × SM Bool × List Hp => [(1, .pv [A9 d.consts, A9 d.vars, slV eF 8 d.frames]), (4, .mp (nx σ)), (5, .mp (nx σ + 1)), (17, q.1), (18, .mp (nx σ0))])
    (fun q σ8 => Own σ8 (nx σ0 + 1) eH 3 q.2.2 q.1 /\ E3 σ8 (nx σ0) q.2.1 /\ nx σ0 + 1 <= nx σ8 /\ (∀ b, b < nx σ0 -> σ8.get b = σ0.get b) /\ q.2.2.length <= d.vars.length /\ Um d.vars s0 d.vars.length [] [] = Um d.vars s0 (d.vars.length - q.2.2.length) q.2.1 q.2.2)
    (fun q => d.vars.length - q.2.2.length) (.nil (.slice none 0 0), [], []) ⟨rfl, rfl, rfl, rfl, rfl, trivial⟩ ⟨.nil, ⟨0, by rw [Sto.get_new, if_pos rfl]; rfl⟩, by rw [Ap]; exact nl, fun b hb => by rw [Sto.get_new, if_neg (by omega)], Nat.zero_le _, rfl⟩ ?_
   rintro ⟨vo, done, out⟩ σ8 ⟨hown8, hd8, hn8, hg8, hl8, hf8⟩;simp only at hown8 hd8 hl8 hf8;refine Ad (Ad (Aa (OM rfl (O1 (Fd Fs rfl hown8.lenA.1 hown8.lenA.2) (O1 (Ac Od rfl rfl) (O1 (Ae Cf rfl rfl rfl) (O1 (As D0 rfl) ?_)))))));refine O1 (Bb ok3 rfl rfl) (Ab ?_);refine Ai rfl (fun h3 => ?_) (fun h3 => ?_)
   ·have hlt8 : out.length < d.vars.length := by simpa using h3
    refine Aj (Am (Ad (Ad (Aa (O1 (Ac Od rfl rfl) (O1 (Ae Cf rfl rfl rfl) (O1 (As D0 rfl) ?_)))))));refine OM rfl (Ab (Am ?_));refine Cg d.vars.length (fun i10 => [(1, .pv [A9 d.consts, A9 d.vars, slV eF 8 d.frames]), (4, .mp (nx σ)), (5, .mp (nx σ + 1)), (17, vo), (18, .mp (nx σ0)), (131, A9 d.vars), (132, iV (.ofNat d.vars.length)), (133, iV (.ofNat i10))])
     (fun i10 σ10 => Own σ10 (nx σ0 + 1) eH 3 out vo /\ E3 σ10 (nx σ0) done /\ nx σ0 + 1 <= nx σ10 /\ (∀ b, b < nx σ0 -> σ10.get b = σ0.get b) /\ d.vars.find? (rdy s0.2 done) = (d.vars.drop i10).find? (rdy s0.2 done)) ⟨rfl, rfl, rfl, rfl, rfl, rfl, rfl, rfl, trivial⟩ ⟨hown8, hd8, hn8, hg8, rfl⟩ ?_
    rintro i10 σ10 hi10 ⟨hown10, hd10, hn10, hg10, hf10⟩;refine Ec fun hw10 => ?_
    refine Ad (Aa (O1 (Bb ok3 rfl rfl) (Ab (Ad ?_))));refine Ai rfl (fun h4 => ?_) (fun h4 => ?_)
    ·have hlt10 : i10 < d.vars.length := by simpa using h4
     obtain ⟨v10, ha10⟩ := B3 hlt10;have hd10' := Bn ha10;obtain ⟨h1H, h1e⟩ := Option.isSome_iff_exists.1 (hcv v10 (List.mem_of_getElem? ha10));have hk0 := hO0.k v10;rw [h1e] at hk0;obtain ⟨aS, haS⟩ := Option.isSome_iff_exists.1 hk0.symm;have hs0' := hA0.s v10;rw [haS] at hs0';obtain ⟨q, hq⟩ := Option.isSome_iff_exists.1 hs0';have hqs := hA0.a v10 q aS hq haS;have hqlt : q < nx σ0 := hqs.lt hw0;obtain ⟨vq, hvq⟩ := hqs;have hvq10 : σ10.get q = some (.map 9 (Ct bV aS) vq) := (hg10 q hqlt).trans hvq;refine Aj (Ad (Am (Ad (Aa (O1 (A3 C5 (fun _ => rfl) rfl rfl ha10) ?_)))))
     refine O1 (Ae ld9 rfl rfl rfl) (OA rfl (Ab (Ad (Aa (OM rfl (OM rfl (O1 (Dj st9 C1 rfl hd10 rfl) ?_)))))));refine O1 (A8 rfl) (OA rfl (Ab (Ad (Ad (Aa (OM rfl (OM rfl ?_)))))))
     refine O1 (Kp (v := q) (enc := fun q => AV.mp q) st9 Aa2 rfl (hA0.m.of_get (hg10 _ (by omega))) rfl hq) ?_
     refine O1 (Aex C1 rfl hvq10) (Ab (Am ?_));refine E9 (fun q12 : Bool × SM Bool => [(1, .pv [A9 d.consts, A9 d.vars, slV eF 8 d.frames]), (4, .mp (nx σ)), (5, .mp (nx σ + 1)), (17, vo), (18, .mp (nx σ0)), (20, sV v10), (21, .bool q12.1), (131, A9 d.vars), (132, iV (.ofNat d.vars.length)), (133, iV (.ofNat i10)), (144, .it (nx σ10))])
      (fun q12 σ12 => (∃ cur, σ12.get (nx σ10) = some (.iter (some q) vq (Ct bV q12.2) cur)) /\ nx σ12 = nx σ10 + 1 /\ (∀ b, b < nx σ10 -> σ12.get b = σ10.get b) /\ rdy s0.2 done v10 = (q12.1 && q12.2.all fun p => done.has p.1))
      (fun q12 => q12.2.length) (!done.has v10, aS) ⟨rfl, rfl, rfl, rfl, rfl, rfl, rfl, rfl, rfl, rfl, rfl, trivial⟩
      ⟨⟨none, by rw [Sto.get_new, if_pos rfl]⟩, Ap _ _, fun b hb => by rw [Sto.get_new, if_neg (by omega)], by unfold rdy; rw [haS]; rfl⟩ ?_
     rintro ⟨ready, left⟩ σ12 ⟨⟨cur, hit⟩, hn12, hg12, hr12⟩;simp only at hit hr12
     have hd12 : E3 σ12 (nx σ0) done := hd10.of_get (hg12 _ (by omega))
     have hown12 : Own σ12 (nx σ0 + 1) eH 3 out vo := hown10.mono (by omega) fun a tl _ _ h9 _ => hg12 a h9
     refine Ad ?_
     refine Ame rfl rfl rfl hit (by show (match σ12.get q with | some (.map _ _ v) => Nat.beq v vq | _ => false) = true; rw [hg12 q (by omega), hvq10]; exact Nat.beq_refl _) (fun h0 => ?_) (fun p hp => ?_)
     ·have h0' : left = [] := by cases left with
       | nil => rfl
       | cons x l => cases h0
      subst h0'
      have hr : rdy s0.2 done v10 = ready := by rw [hr12]; simp
      have hd13 : E3 (σ12.set (nx σ10) (.iter (some q) vq [] none)) (nx σ0) done := hd12.set (by omega)
      have hown13 : Own (σ12.set (nx σ10) (.iter (some q) vq [] none)) (nx σ0 + 1) eH 3 out vo := hown12.mono (by rw [An]; exact nl) fun a tl _ _ h9 h10 => by
       rw [Sto.get_set, if_neg]; intro hh; have hh : a = nx σ10 := by omega
       subst hh; rw [hit] at h10; cases h10
      refine O1 (Ao rfl rfl) (Ab (Ad ?_))
      refine Ai rfl (fun h5 => by cases h5) (fun h5 => ?_)
      refine Bf ?_;refine Ad (Aa (OM rfl (Ab ?_)));refine Ai rfl (fun h6 => ?_) (fun h6 => ?_)
      ·have hr6 : ready = true := h6
       have hfd : d.vars.find? (rdy s0.2 done) = some v10 := by rw [hf10, hd10', List.find?_cons, hr, hr6]
       obtain ⟨vd, hvd⟩ := id hd13
       have hown14 : Own ((σ12.set (nx σ10) (.iter (some q) vq [] none)).set (nx σ0) (.map 9 (Ct bV (done.put v10 true)) (vd + 1))) (nx σ0 + 1) eH 3 out vo := hown13.mono (by simp only [An]; exact nl) fun a tl _ h8 h9 _ => by rw [Sto.get_set, if_neg (by omega)]
       have hN14 : nx σ0 + 1 <= nx ((σ12.set (nx σ10) (.iter (some q) vq [] none)).set (nx σ0) (.map 9 (Ct bV (done.put v10 true)) (vd + 1))) := by rw [An, An]; omega
       have hlim : (out.length + [h1H].length) * (48 + 1) <= sizeLim := by simp [sizeLim]; omega
       obtain ⟨v1, τ1, hap, ho1, hb1, _⟩ := hown14.app (by' := 48) Oh hN14 [h1H] hlim
       have hg14 : ∀ b, b < nx σ0 -> ((σ12.set (nx σ10) (.iter (some q) vq [] none)).set (nx σ0) (.map 9 (Ct bV (done.put v10 true)) (vd + 1))).get b = σ0.get b := fun b hb => by
        rw [Sto.get_set, if_neg (by omega), Sto.get_set, if_neg (by omega), hg12 b (by omega), hg10 b hb]
       refine Ad (Aa (OM rfl (OM rfl (O1 (Fj (v := true) st9 C1 rfl hvd rfl rfl (fun te k1 k2 => G2 k1 k2)) ?_))))
       refine Ab (Ad (Aa (OM rfl (OM rfl (OM rfl (O1 (Kp (v := h1H) (enc := hV) st9 Og rfl (hO0.o.of_get (hg14 _ (by omega))) rfl h1e) ?_))))))
       refine E2 (Br H0 byW rfl rfl rfl) (Gq (len := 1)) rfl rfl (O1 (B5 H0 rfl Fs rfl rfl rfl (new := eH h1H) rfl hap) (OA rfl (Ab ?_)));refine Bf ?_
       refine ⟨(v1, done.put v10 true, out ++ [h1H]), by show d.vars.length - (out ++ [h1H]).length < d.vars.length - out.length; rw [List.length_append]; simp; omega, ⟨rfl, rfl, rfl, rfl, rfl, trivial⟩, ho1, ⟨vd + 1, ?_⟩, Nat.le_trans hN14 hb1.1, fun b hb => (hb1.2 b (by omega)).trans (hg14 b hb), by show (out ++ [h1H]).length <= _; rw [List.length_append]; simp; omega, ?_⟩
       ·rw [hb1.2 (nx σ0) (by omega), Sto.get_set, if_pos rfl]
       ·rw [hf8]
        show _ = Um d.vars s0 (d.vars.length - (out ++ [h1H]).length) (done.put v10 true) (out ++ [h1H])
        rw [show d.vars.length - out.length = (d.vars.length - (out ++ [h1H]).length) + 1 by rw [List.length_append]; simp; omega, Um, hfd]
        simp only [h1e]
      ·have hr6 : ready = false := h6
       refine Aj (Aa (O1 (A1 (q := 1) ok3 rfl rfl (by omega)) ?_))
       refine OM rfl (Ab ?_)
       refine ⟨hlt10, ⟨rfl, rfl, rfl, rfl, rfl, rfl, rfl, rfl, trivial⟩, hown13, hd13, by rw [An]; omega, fun b hb => by rw [Sto.get_set, if_neg (by omega), hg12 b (by omega), hg10 b hb], ?_⟩
       rw [hf10, hd10', List.find?_cons, hr, hr6]
     ·obtain ⟨pq, hpq, rfl⟩ := Rc hp;obtain ⟨_, _, hpl⟩ := Pd hpq
      have hd13 : E3 (σ12.set (nx σ10) (.iter (some q) vq (Ct bV pq.2) (some (kS pq.1.1, bV pq.1.2)))) (nx σ0) done := hd12.set (by omega)
      refine O1 (Ao rfl rfl) (Ab (Ad ?_))
      refine Ai rfl (fun h5 => ?_) (fun h5 => by cases h5)
      refine Aj (Am (Ad (Aa (O1 (Aey rfl (by rw [Sto.get_set, if_pos rfl]) (by rw [Sto.get_set, if_neg (by omega), hg12 q (by omega)]; exact hvq10)) ?_))))
      refine O1 (Ao rfl rfl) (OA rfl (Ab (Aa (OM rfl (OM rfl ?_)))));refine Cv 3 _ ?_ rfl rfl rfl rfl rfl (Av rfl) (fun hg => ?_) (fun hg => ?_) ?_
      rotate_left
      ·refine X3 rfl rfl rfl rfl (by rw [show ready = _ from hg]; rfl) noR rfl rfl (Ag rfl) ?_
       refine X3 rfl rfl rfl rfl (by rw [show ready = _ from hg]; rfl) noR rfl rfl (Ag rfl) ?_
       refine X3 rfl rfl rfl rfl (by rw [show ready = _ from hg]; rfl) noR rfl rfl (Dj (s := pq.1.1) st9 C1 rfl hd13 rfl) ?_
       refine Ab ?_;refine ⟨rfl, ?_, ?_⟩
       ·exact sb
       ·exact rfl
      ·refine Q9 rfl rfl rfl rfl (by rw [show ready = _ from hg]; rfl) rfl ?_
       refine Q9 rfl rfl rfl rfl (by rw [show ready = _ from hg]; rfl) rfl ?_
       refine Q9 rfl rfl rfl rfl (by rw [show ready = _ from hg]; rfl) rfl ?_
       refine Ab ?_;exact ⟨rfl, sb⟩
      refine OA rfl (Ab ?_)
      refine ⟨(ready && done.has pq.1.1, pq.2), by show pq.2.length < left.length; omega, ⟨rfl, rfl, rfl, rfl, rfl, rfl, rfl, rfl, rfl, rfl, rfl, trivial⟩, ⟨_, by rw [Sto.get_set, if_pos rfl]⟩, by rw [An]; exact hn12, fun b hb => by rw [Sto.get_set, if_neg (by omega)]; exact hg12 b hb, ?_⟩
      rw [hr12, Aa7 hpq];cases ready <;> simp
    ·have hge10 : d.vars.length <= i10 := by simpa using h4
     have hfd : d.vars.find? (rdy s0.2 done) = none := by rw [hf10, List.drop_eq_nil_of_le hge10]; rfl
     have hO : Eo d = none := by
      unfold Eo; rw [if_neg hne, hF]
      show Um d.vars s0 d.vars.length [] [] = none
      rw [hf8, show d.vars.length - out.length = (d.vars.length - out.length - 1) + 1 by omega, Um, hfd]
     refine Bf ?_;refine Ad (Aa (OA rfl (OA rfl (Ab ?_))));refine Ak ?_
     exact ⟨_, rfl, .tup [slV eH 3 [], .bool false], σ, Aw.below hw ⟨by omega, fun b hb => (hg10 b (by omega)).trans (hO0.g b hb)⟩, nl, .tup (.cons C7 (.cons (.same rfl) .nil)), by unfold Nb; rw [hO]; rfl, rfl⟩
   ·have hge8 : d.vars.length <= out.length := by simpa using h3
    have hO : Eo d = some out := by
     unfold Eo; rw [if_neg hne, hF]
     show Um d.vars s0 d.vars.length [] [] = some out
     rw [hf8, show d.vars.length - out.length = 0 by omega]; rfl
    refine Bf ?_;refine Ad (Aa (OM rfl (OA rfl (OA rfl (Ab ?_)))));refine Ak ?_
    exact ⟨_, rfl, .tup [slV eH 3 out, .bool true], σ, Aw.below hw ⟨by omega, fun b hb => (hg8 b (by omega)).trans (hO0.g b hb)⟩, nl, .tup (.cons (hown8.fz Oh (fun a ha => hw.none (by omega)) (Ce M5 _)) (.cons (.same rfl) .nil)), by unfold Nb; rw [hO]; rfl, rfl⟩
theorem Ok {α : Type} [BEq α] [LawfulBEq α] : ∀ {L V : List α}, L.Nodup -> (∀ x ∈ L, x ∈ V) -> V.length <= L.length -> ∀ x ∈ V, x ∈ L
 | [], V, _, _, h, x, hx => by
  have : V = [] := List.eq_nil_of_length_eq_zero (by simpa using h)
  rw [this] at hx; cases hx
 | a :: L, V, hn, hs, h, x, hx => by
  have ha : a ∈ V := hs a (List.mem_cons_self ..);obtain ⟨h1, h2⟩ := List.nodup_cons.1 hn
  have hl : (V.erase a).length <= L.length := by rw [List.length_erase_of_mem ha]; simp only [List.length_cons] at h; omega
  have ih := Ok (V := V.erase a) h2 (fun y hy => (List.mem_erase_of_ne (fun e => by subst e; exact h1 hy)).2 (hs y (List.mem_cons_of_mem _ hy))) hl
  by_cases e : x = a
  ·subst e; exact List.mem_cons_self ..
  ·exact List.mem_cons_of_mem _ (ih x ((List.mem_erase_of_ne e).2 hx))
theorem Arb {k : Kn} {lab : SM Bool} {ty : SM Str} {h : Hp} {du : Bool} (h0 : V3 k lab ty h du = 0) (hf : h.floating = true) : k.vars.has (txv h) = true /\ ty.get (txv h) = none := by
 unfold V3 at h0
 split at h0
 ·cases h0
 ·split at h0
  ·cases h0
  ·split at h0
   ·cases h0
   ·rename_i h3
    split at h0
    ·cases h0
    ·split at h0
     ·cases h0
     ·rename_i h5
      simp only [Bool.or_eq_true, Bool.not_eq_true', not_or, Bool.not_eq_false] at h3
      exact ⟨h3.2, by simpa [txv] using h5⟩
abbrev flt (l : List Hp) : List Str := (l.filter (·.floating)).map txv
theorem Afl {k : Kn} {nh : Nat} : ∀ {l : List Hp} {i : Nat} {lab : SM Bool} {ty : SM Str}, (Jg k nh l i lab ty).1 = 0 ->
  (∀ h ∈ l, h.floating = true -> (∃ a b, h.text = [a, b]) /\ k.vars.has (txv h) = true /\ ty.get (txv h) = none) /\ (flt l).Nodup
 | [], _, _, _, _ => ⟨fun _ h => (by cases h), List.nodup_nil⟩
 | h :: r, i, lab, ty, h0 => by
  unfold Jg at h0
  split at h0
  ·rename_i hc; simp only at h0; rw [h0] at hc; exact absurd hc (by decide)
  ·rename_i hc
   have hz : V3 k lab ty h (decide (Int.ofNat nh <= Int.ofNat i)) = 0 := by simpa using hc
   obtain ⟨ih1, ih2⟩ := Afl h0;cases hf : h.floating with
   | false =>
    rw [hf] at ih1;refine ⟨fun x hx hxf => ?_, ?_⟩
    ·rcases List.mem_cons.1 hx with rfl | hx
     ·rw [hf] at hxf; cases hxf
     ·exact ih1 x hx hxf
    ·show ((h :: r).filter (·.floating)).map txv |>.Nodup
     rw [List.filter_cons_of_neg (by simp [hf])]; exact ih2
   | true =>
    rw [hf] at ih1;obtain ⟨g1, g2⟩ := Arb hz hf;have g3 := Afg hz hf
    have key : ∀ x ∈ r, x.floating = true -> txv x ≠ txv h /\ ty.get (txv x) = none := fun x hx hxf => by
     have := (ih1 x hx hxf).2.2;rw [if_pos rfl, SM.get_put] at this
     split at this
     ·cases this
     ·rename_i e; exact ⟨e, this⟩
    refine ⟨fun x hx hxf => ?_, ?_⟩
    ·rcases List.mem_cons.1 hx with rfl | hx
     ·exact ⟨g3, g1, g2⟩
     ·exact ⟨(ih1 x hx hxf).1, (ih1 x hx hxf).2.1, (key x hx hxf).2⟩
    ·show ((h :: r).filter (·.floating)).map txv |>.Nodup
     rw [List.filter_cons_of_pos (by simp [hf]), List.map_cons, List.nodup_cons]
     refine ⟨fun hm => ?_, ih2⟩
     obtain ⟨x, hx, e⟩ := List.mem_map.1 hm;have := List.mem_filter.1 hx
     exact (key x this.1 (by simpa using this.2)).1 e
theorem Ane {pw : Str -> Bool} {k : Kn} {f : Fr} {before : List Hp} (h : Fb pw k f before = 0) : (Jg (k.fr f.label) f.hyps.length f.all 0 [] []).1 = 0 := by
 unfold Fb at h
 split at h
 ·cases h
 ·split at h
  ·cases h
  ·split at h
   ·cases h
   ·split at h
    ·exact h
    ·rename_i hc; simpa using hc
theorem Rq {pw : Str -> Bool} : ∀ {fs : List Fr} {k : Kn} {be : List Hp}, I7 pw fs k be = 0 -> ∀ f ∈ fs, ∃ k' be', k'.vars = k.vars /\ Fb pw k' f be' = 0
 | [], _, _, _, f, hf => by cases hf
 | g :: r, k, be, h, f, hf => by
  unfold I7 at h
  split at h
  ·rename_i hc; rw [h] at hc; exact absurd hc (by decide)
  ·rename_i hc
   rcases List.mem_cons.1 hf with rfl | hf
   ·exact ⟨k, be, rfl, by simpa using hc⟩
   ·obtain ⟨k', be', h1, h2⟩ := Rq h f hf;exact ⟨k', be', h1, h2⟩
theorem Un : ∀ (l : List Str) (k : Kn), (Rm l k).2.vars = k.vars
 | [], _ => rfl
 | c :: r, k => by unfold Rm; cases Pm c <;> cases k.consts.has c <;> simp [Un r]
theorem Aa8 : ∀ (l : List Str) (k : Kn) (v : Str), (Tp l k).2.vars.has v = true -> v ∈ l ∨ k.vars.has v = true
 | [], _, v, h => .inr h
 | c :: r, k, v, h => by
  unfold Tp at h;cases hs : Pm c with
  | false => rw [hs] at h; exact .inr h
  | true =>
   rw [hs] at h;cases hk : k.isSym c with
   | true => rw [hk] at h; exact .inr h
   | false =>
    rw [hk] at h
    rcases Aa8 r _ v h with h | h
    ·exact .inl (List.mem_cons_of_mem _ h)
    ·have h : (k.vars.put c true).has v = true := h;rw [SM.has_put] at h;simp only [Bool.or_eq_true, decide_eq_true_eq] at h
     rcases h with rfl | h
     ·exact .inl (List.mem_cons_self ..)
     ·exact .inr h
theorem Ak4 {d : Db} {v : Str} (h : (Kv d kn0).2.vars.has v = true) : v ∈ d.vars := by
 unfold Kv at h
 split at h
 ·rcases Aa8 _ _ _ h with h | h
  ·exact h
  ·rw [Un] at h; cases h
 ·rw [Un] at h; cases h
theorem Afm {pw : Str -> Bool} {d : Db} (h : Fc pw d = 0) : I7 pw d.frames (Kv d kn0).2 [] = 0 := by
 unfold Fc at h
 split at h
 ·cases h
 ·split at h
  ·rename_i hc; rw [h] at hc; exact absurd hc (by decide)
  ·exact h
theorem Tw {pw : Str -> Bool} {d : Db} (h : Fc pw d = 0) {f : Fr} (hf : f ∈ d.frames) : (∀ h ∈ f.all, h.floating = true -> (∃ a b, h.text = [a, b]) /\ txv h ∈ d.vars) /\ (flt f.all).Nodup := by
 obtain ⟨k', be', h1, h2⟩ := Rq (Afm h) f hf;obtain ⟨g1, g2⟩ := Afl (Ane h2);refine ⟨fun x hx hxf => ?_, g2⟩
 obtain ⟨a1, a2, _⟩ := g1 x hx hxf
 exact ⟨a1, Ak4 (by rw [← h1]; exact a2)⟩
theorem Tx (l : List Hp) : flo l = l.filter (·.floating) := by
 unfold flo Ea Ts
 congr 1; funext x; simp
theorem Api (f : Fr) : flt f.all = (flo f.hyps ++ flo f.dummies).map txv := by
 rw [Tx, Tx]; simp [flt, Fr.all]
def Ol (s : Ord) : Prop := ∀ v h, s.1.get v = some h -> txv h = v /\ ∃ a b, h.text = [a, b]
theorem Apj {i : Nat} {pre : List Hp} {h : Hp} {s s' : Ord} (e : Afh i pre h s = some s') (h2 : ∃ a b, h.text = [a, b]) (hs : Ol s) :
  Ol s' /\ (∀ v, (s.1.get v).isSome = true -> (s'.1.get v).isSome = true) /\ (i = 0 -> (s'.1.get (txv h)).isSome = true) := by
 have h0 : Ol (Nk i h s) /\ (∀ v, (s.1.get v).isSome = true -> ((Nk i h s).1.get v).isSome = true) /\ (i = 0 -> ((Nk i h s).1.get (txv h)).isSome = true) := by
  unfold Nk
  split
  ·refine ⟨fun v x hx => ?_, fun v hv => ?_, fun _ => ?_⟩
   ·simp only [SM.get_put] at hx
    split at hx
    ·rename_i e; cases hx; exact ⟨e.symm, h2⟩
    ·exact hs v x hx
   ·simp only [SM.get_put]; split <;> first | rfl | exact hv
   ·simp [SM.get_put]
  ·rename_i hi; exact ⟨hs, fun _ h => h, fun e => absurd e hi⟩
 unfold Afh at e
 split at e
 ·cases e
 ·split at e
  ·cases e; exact h0
  ·cases e
theorem Ajd {i : Nat} {all : List Hp} : ∀ {l : List Hp} {n : Nat} {s s' : Ord}, V4 i all l n s = some s' -> (∀ h ∈ l, ∃ a b, h.text = [a, b]) -> Ol s ->
  Ol s' /\ (∀ v, (s.1.get v).isSome = true -> (s'.1.get v).isSome = true) /\ (i = 0 -> ∀ h ∈ l, (s'.1.get (txv h)).isSome = true)
 | [], _, s, s', e, _, hs => by cases e; exact ⟨hs, fun _ h => h, fun _ _ h => by cases h⟩
 | h :: r, n, s, s', e, h2, hs => by
  unfold V4 at e
  split at e
  ·cases e
  ·rename_i s1 e1
   obtain ⟨a1, a2, a3⟩ := Apj e1 (h2 h (List.mem_cons_self ..)) hs;obtain ⟨b1, b2, b3⟩ := Ajd e (fun x hx => h2 x (List.mem_cons_of_mem _ hx)) a1
   refine ⟨b1, fun v hv => b2 v (a2 v hv), fun hi x hx => ?_⟩
   rcases List.mem_cons.1 hx with rfl | hx
   ·exact b2 _ (a3 hi)
   ·exact b3 hi x hx
theorem Afn {i : Nat} : ∀ {ls : List (List Hp)} {s s' : Ord}, Ni i ls s = some s' -> (∀ l ∈ ls, ∀ h ∈ l, ∃ a b, h.text = [a, b]) -> Ol s ->
  Ol s' /\ (∀ v, (s.1.get v).isSome = true -> (s'.1.get v).isSome = true) /\ (i = 0 -> ∀ l ∈ ls, ∀ h ∈ l, (s'.1.get (txv h)).isSome = true)
 | [], s, s', e, _, hs => by cases e; exact ⟨hs, fun _ h => h, fun _ _ h => by cases h⟩
 | l :: r, s, s', e, h2, hs => by
  unfold Ni at e
  split at e
  ·cases e
  ·rename_i s1 e1
   obtain ⟨a1, a2, a3⟩ := Ajd e1 (h2 l (List.mem_cons_self ..)) hs;obtain ⟨b1, b2, b3⟩ := Afn e (fun x hx => h2 x (List.mem_cons_of_mem _ hx)) a1
   refine ⟨b1, fun v hv => b2 v (a2 v hv), fun hi x hx => ?_⟩
   rcases List.mem_cons.1 hx with rfl | hx
   ·exact fun h hh => b2 _ (a3 hi h hh)
   ·exact b3 hi x hx
theorem Aje {d : Db} : ∀ {fs : List Fr} {i : Nat} {s s' : Ord}, M8 d fs i s = some s' -> (∀ f ∈ fs, ∀ h ∈ f.all, h.floating = true -> ∃ a b, h.text = [a, b]) -> Ol s ->
  Ol s' /\ (∀ v, (s.1.get v).isSome = true -> (s'.1.get v).isSome = true) /\ (i = 0 -> ∀ f r, fs = f :: r -> Am8 d f = false /\ ∀ h, h ∈ flo f.hyps ++ flo f.dummies -> (s'.1.get (txv h)).isSome = true)
 | [], _, s, s', e, _, hs => by cases e; exact ⟨hs, fun _ h => h, fun _ _ _ h => by cases h⟩
 | f :: r, i, s, s', e, h2, hs => by
  unfold M8 at e
  split at e
  ·cases e
  ·rename_i hb
   split at e
   ·cases e
   ·rename_i s1 e1
    have hm : ∀ l ∈ [flo f.hyps, flo f.dummies], ∀ h ∈ l, ∃ a b, h.text = [a, b] := fun l hl h hh => by
     simp only [List.mem_cons, List.not_mem_nil, or_false] at hl
     rcases hl with rfl | rfl <;> rw [Tx] at hh <;> (have := List.mem_filter.1 hh; exact h2 f (List.mem_cons_self ..) h (by simp [Fr.all, this.1]) (by simpa using this.2))
    obtain ⟨a1, a2, a3⟩ := Afn e1 hm hs;obtain ⟨b1, b2, _⟩ := Aje e (fun x hx => h2 x (List.mem_cons_of_mem _ hx)) a1
    refine ⟨b1, fun v hv => b2 v (a2 v hv), fun hi f' r' he => ?_⟩
    cases he
    refine ⟨by simpa using hb, fun h hh => b2 _ ?_⟩
    rcases List.mem_append.1 hh with hh | hh
    ·exact a3 hi (flo f.hyps) (by simp) h hh
    ·exact a3 hi (flo f.dummies) (by simp) h hh
theorem Aa9 {pw : Str -> Bool} {d : Db} (hc : Fc pw d = 0) (hn : d.frames ≠ []) {s : Ord} (hs : M8 d d.frames 0 ([], []) = some s) : Ol s /\ ∀ v ∈ d.vars, (s.1.get v).isSome = true := by
 obtain ⟨a1, _, a3⟩ := Aje hs (fun f hf h hh hff => ((Tw hc hf).1 h hh hff).1) (fun v h hv => by cases hv)
 refine ⟨a1, fun v hv => ?_⟩
 cases hfs : d.frames with
 | nil => exact absurd hfs hn
 | cons f r =>
  obtain ⟨b1, b2⟩ := a3 rfl f r hfs
  have hf : f ∈ d.frames := by rw [hfs]; exact List.mem_cons_self ..
  obtain ⟨c1, c2⟩ := Tw hc hf;rw [Api] at c2
  have hlen : d.vars.length <= ((flo f.hyps ++ flo f.dummies).map txv).length := by
   unfold Am8 at b1;simp only [Bool.or_eq_false_iff, Bool.not_eq_false', decide_eq_true_eq] at b1;have := Int.ofNat.inj b1.1;simp only [List.length_map, List.length_append];omega
  have hsub : ∀ x ∈ (flo f.hyps ++ flo f.dummies).map txv, x ∈ d.vars := fun x hx => by
   obtain ⟨h, hh, rfl⟩ := List.mem_map.1 hx
   have hm : h ∈ f.all /\ h.floating = true := by
    rw [Tx, Tx] at hh
    rcases List.mem_append.1 hh with hh | hh <;> (have := List.mem_filter.1 hh; exact ⟨by simp [Fr.all, this.1], by simpa using this.2⟩)
   exact (c1 h hm.1 hm.2).2
  obtain ⟨h, hh, rfl⟩ := List.mem_map.1 (Ok c2 hsub hlen v hv);exact b2 h hh
theorem Ajf {vars : List Str} {s : Ord} (hs : Ol s) : ∀ {n : Nat} {done : SM Bool} {out l : List Hp}, Um vars s n done out = some l -> (out.map txv).Nodup -> (∀ x ∈ out.map txv, x ∈ vars /\ done.has x = true) -> (∀ h ∈ out, ∃ a b, h.text = [a, b]) ->
  l.length = out.length + n /\ (l.map txv).Nodup /\ (∀ x ∈ l.map txv, x ∈ vars) /\ ∀ h ∈ l, ∃ a b, h.text = [a, b]
 | 0, done, out, l, e, h1, h2, h3 => by cases e; exact ⟨rfl, h1, fun x hx => (h2 x hx).1, h3⟩
 | n + 1, done, out, l, e, h1, h2, h3 => by
  unfold Um at e
  split at e
  ·cases e
  ·rename_i v hv
   split at e
   ·cases e
   ·rename_i h hh
    obtain ⟨g1, g2⟩ := hs v h hh;have hm : v ∈ vars := List.mem_of_find?_eq_some hv;have hr := List.find?_some hv
    have hnd : done.has v = false := by
     unfold rdy at hr;simp only [Bool.and_eq_true, Bool.not_eq_true'] at hr;exact hr.1
    obtain ⟨k1, k2, k3, k4⟩ := Ajf hs e (by
      rw [List.map_append, List.nodup_append]
      refine ⟨h1, by simp, fun x hx y hy => ?_⟩
      simp only [List.map_cons, List.map_nil, List.mem_singleton] at hy;rw [hy, g1];intro e; subst e;have := (h2 x hx).2; rw [hnd] at this; cases this)
     (fun x hx => by
      rw [List.map_append, List.mem_append] at hx;rw [SM.has_put]
      rcases hx with hx | hx
      ·exact ⟨(h2 x hx).1, by rw [(h2 x hx).2]; simp⟩
      ·simp only [List.map_cons, List.map_nil, List.mem_singleton] at hx
       rw [hx, g1]; exact ⟨hm, by simp⟩)
     (fun x hx => by
      rcases List.mem_append.1 hx with hx | hx
      ·exact h3 x hx
      ·rw [List.mem_singleton] at hx; subst hx; exact g2)
    exact ⟨by rw [k1, List.length_append]; simp; omega, k2, k3, k4⟩
theorem Afo {pw : Str -> Bool} {d : Db} (hc : Fc pw d = 0) {l : List Hp} (h : Eo d = some l) : (∀ h ∈ l, ∃ a b, h.text = [a, b]) /\ ∀ v ∈ d.vars, ∃ h ∈ l, txv h = v := by
 unfold Eo at h
 split at h
 ·split at h
  ·rename_i hv; cases h
   exact ⟨fun _ h => (by cases h), fun v hv' => by rw [List.eq_nil_of_length_eq_zero hv] at hv'; cases hv'⟩
  ·cases h
 ·rename_i hn
  split at h
  ·cases h
  ·rename_i s hs
   obtain ⟨a1, a2⟩ := Aa9 hc (fun e => hn (by rw [e]; rfl)) hs
   obtain ⟨k1, k2, k3, k4⟩ := Ajf a1 h List.nodup_nil (fun _ h => by cases h) (fun _ h => by cases h)
   refine ⟨k4, fun v hv => ?_⟩
   obtain ⟨x, hx, e⟩ := List.mem_map.1 (Ok k2 k3 (by rw [List.length_map, k1]; simp) v hv)
   exact ⟨x, hx, e⟩
theorem f214' : ∀ s σ, Ah Ew 214 [sV s] σ fun v σ' => v = .bool (!Ep s) /\ σ' = σ := f214
theorem Afp {d : Db} (h : Fc Ep d = 0) : (∀ f ∈ d.frames, ∀ h ∈ f.all, h.floating = true -> ∃ a b, h.text = [a, b]) /\ (d.frames.length ≠ 0 -> ∀ s, M8 d d.frames 0 ([], []) = some s -> ∀ v ∈ d.vars, (s.1.get v).isSome = true) :=
 ⟨fun f hf x hx hxf => ((Tw h hf).1 x hx hxf).1, fun hn s hs v hv => (Aa9 h (fun e => hn (by rw [e]; rfl)) hs).2 v hv⟩
def Eg (d : Db) : Int := if Fc Ep d = 0 then (if (Eo d).isSome = true then 0 else 13) else Fc Ep d
def B7 (d : Db) : List Hp := if Fc Ep d = 0 then (Eo d).getD [] else []
def Aba (s : Str) : Bool := !decide (s = []) && decide (Int.ofNat s.length <= 60)
def Afq (ss : List Str) (p : Pt) : Bool := if p.sort = [] then (Aba p.symbol && decide (p.arg = 0)) else (decide (p.symbol = []) && decide (p.sort ∈ ss))
theorem f156 (s : Str) (σ : Sto) : Ah Ew 156 [sV s] σ fun v σ' => v = .bool (Aba s) /\ σ' = σ := by
 refine A2 Tryz.func156 rfl rfl fun hw hu0 => ?_
 refine Ad (Aa (OA rfl (Ab (Ad (Aa (OM rfl (O1 (En (q := []) ok9 rfl rfl) ?_)))))));refine OM rfl ?_;refine Cv 3 _ ?_ rfl rfl rfl rfl rfl (Av rfl) (fun hg => ?_) (fun hg => ?_) ?_
 rotate_left
 ·refine On hg (Ag rfl) (On hg (We st9 rfl) (On hg (Ach (q := 60) ok3 rfl rfl) (Ab ?_)));refine ⟨rfl, ?_, ?_⟩
  ·exact sb
  ·exact rfl
 ·refine Of hg (Of hg (Of hg (Ab ?_)));exact ⟨rfl, sb⟩
 refine OA rfl (Ab ?_);refine Ak (Bw hw rfl ?_);exact rfl
theorem f136 (d : Db) (σ : Sto) (hB : DbB d) : Ah Ew 136 [dbV d] σ fun v σ' => v = .tup [slV eH 3 (B7 d), iV (Eg d)] /\ σ' = σ := by
 refine A2 Tryz.func136 rfl rfl fun hw hu0 => ?_
 refine Ad (Aa (Ax Ki rfl rfl rfl (OA rfl (OA rfl (Ab (Ad (Ad ?_)))))));refine Aa (O1 (Ae Ki rfl rfl rfl) (Aq rfl rfl rfl rfl (f152 Ep f214' d σ hB) (OA rfl (Ab (Ad (Aa (OM rfl ?_)))))));refine O1 (C9 (q := 0) Jp rfl rfl) (Ab ?_);refine Ai rfl (fun h1 => ?_) (fun h1 => ?_)
 ·refine Ad (Aa (OM rfl (OA rfl (OA rfl (Ab ?_)))))
  have hE : Eg d = Fc Ep d := if_neg (by simpa using h1)
  have hL : B7 d = [] := if_neg (by simpa using h1)
  refine Ak ?_
  exact ⟨_, rfl, .tup [slV eH 3 (B7 d), iV (Eg d)], σ, Aw.of_same hw nl (fun _ _ => rfl), nl, by rw [hE, hL]; exact .tup (.cons C7 (.cons (.same rfl) .nil)), rfl, rfl⟩
 ·have hc : Fc Ep d = 0 := by simpa using h1
  refine Aj (Ad (Aa (O1 (Ae Ki rfl rfl rfl) (Aq rfl rfl rfl rfl (f153 d σ hB (Afp hc).1 (Afp hc).2) (OM rfl (O1 (Ao rfl rfl) (O1 (Ao rfl rfl) ?_)))))));refine OA rfl (OA rfl (Ab (Ad (Ad (Aa (OM rfl (O1 (A8 rfl) ?_)))))));refine Ab ?_;refine Ai rfl (fun h2 => ?_) (fun h2 => ?_)
  ·refine Ad (Aa (OA rfl (OA rfl (Ab ?_))))
   have hE : Eg d = 13 := by unfold Eg; rw [if_pos hc, if_neg (by simpa using h2)]
   have hL : B7 d = [] := by unfold B7; rw [if_pos hc]; have h3 : (Eo d).isSome = false := (by simpa using h2); cases ho : Eo d with | none => rfl | some x => rw [ho] at h3; cases h3
   refine Ak ?_
   exact ⟨_, rfl, .tup [slV eH 3 (B7 d), iV (Eg d)], σ, Aw.of_same hw nl (fun _ _ => rfl), nl, by rw [hE, hL]; exact .tup (.cons C7 (.cons (.same rfl) .nil)), rfl, rfl⟩
  ·refine Aj (Ad (Aa (OM rfl (OA rfl (OA rfl (Ab ?_))))))
   have hE : Eg d = 0 := by unfold Eg; rw [if_pos hc, if_pos (by simpa using h2)]
   have hL : B7 d = (Eo d).getD [] := by unfold B7; rw [if_pos hc]
   refine Ak ?_
   exact ⟨_, rfl, .tup [slV eH 3 (B7 d), iV (Eg d)], σ, Aw.of_same hw nl (fun _ _ => rfl), nl, by rw [hE, hL]; exact .tup (.cons (.same (Am5 _)) (.cons (.same rfl) .nil)), rfl, rfl⟩
theorem Apk (s : Str) (l : List Str) : (l.any fun x => decide (s = x)) = decide (s ∈ l) := by
 rw [Bool.eq_iff_iff]; simp [List.any_eq_true]
theorem f191 (p : Pt) (g : Gr) (σ : Sto) (hb : g.sorts.length < 1000000) : Ah Ew 191 [.agg (ePt p), grV g] σ fun v σ' => v = .bool (Afq g.sorts p) /\ σ' = σ := by
 refine A2 Tryz.func191 rfl rfl fun hw hu0 => ?_
 refine Ad (Aa (Ax Jc rfl rfl rfl (Ax L6 rfl rfl rfl (OA rfl (Ab (Ad (Ad ?_)))))));refine Aa (O1 (Ac Jq rfl rfl) (O1 (Ae ld9 rfl rfl rfl) (O1 (Hr (q := []) ok9 rfl rfl) (Ab ?_))));refine Ai rfl (fun h1 => ?_) (fun h1 => ?_)
 ·refine Ad (Aa (O1 (Ac Aiy rfl rfl) (O1 (Ae ld9 rfl rfl rfl) (Aq rfl rfl rfl rfl (f156 p.symbol _) (OM rfl ?_)))));refine Cv 3 _ ?_ rfl rfl rfl rfl rfl (Av rfl) (fun hg => ?_) (fun hg => ?_) ?_
  rotate_left
  ·refine On hg (Ac Wl rfl rfl) (On hg (Ae ld3 rfl rfl rfl) (On hg (Dq (q := 0) ok3 rfl rfl) (Ab ?_)));refine ⟨rfl, ?_, ?_⟩
   ·exact sb
   ·exact rfl
  ·refine Of hg (Of hg (Of hg (Ab ?_)));exact ⟨rfl, sb⟩
  refine OA rfl (Ab ?_);refine Ak (Bw hw rfl ?_)
  exact congrArg AV.bool (by have h : p.sort = [] := (by simpa using h1); exact (if_pos h).symm)
 ·refine Aj (Ad (Aa (O1 (Ac Aiy rfl rfl) (O1 (Ae ld9 rfl rfl rfl) (O1 (Hr (q := []) ok9 rfl rfl) (OM rfl ?_))))));refine Cv 5 _ ?_ rfl rfl rfl rfl rfl (Av rfl) (fun hg => ?_) (fun hg => ?_) ?_
  rotate_left
  ·refine On hg (Ac M0 rfl rfl) (On hg (Ae Cf rfl rfl rfl) (On hg (Ac Jq rfl rfl) (On hg (Ae ld9 rfl rfl rfl) (B0 rfl rfl rfl (by rw [hg]; rfl) rfl rfl rfl rfl (f30 g.sorts p.sort σ (by omega)) ?_))))
   refine Ab ?_;refine ⟨rfl, ?_, ?_⟩
   ·exact sb
   ·exact rfl
  ·refine Of hg (Of hg (Of hg (Of hg (Of hg (Ab ?_)))));exact ⟨rfl, sb⟩
  refine OA rfl (Ab ?_);refine Ak (Bw hw rfl ?_)
  exact congrArg AV.bool (by have h : ¬ p.sort = [] := (by simpa using h1); unfold Afq; rw [if_neg h, ← Apk])
theorem f190 (p : Pt) (g : Gr) (σ : Sto) (hb : g.sorts.length < 1000000) : Ah Ew 190 [.agg (ePt p), .pv [A9 g.sorts, slV eR 4 g.rules]] σ fun v σ' => v = .bool (!Afq g.sorts p) /\ σ' = σ := by
 refine A2 Tryz.func190 rfl rfl fun hw hu0 => ?_
 refine Ad (Aa (Ax Jc rfl rfl rfl (OA rfl (Ab (Ad (Aa (O1 (Ae Jc rfl rfl rfl) ?_)))))));refine O1 (Ae L6 rfl rfl rfl) (Aq rfl rfl rfl rfl (f191 p g σ hb) (O1 (A8 rfl) (OA rfl (Ab ?_))));refine Ak (Bw hw rfl ?_);exact rfl
theorem f137 (h : Hp) (σ : Sto) : Ah Ew 137 [.agg (eH h)] σ fun v σ' => v = .bool (!h.floating) /\ σ' = σ := by
 refine A2 Tryz.func137 rfl rfl fun hw hu0 => ?_
 refine Ad (Aa (Ax Dy rfl rfl rfl (OA rfl (Ab (Ad (Aa (O1 (Ac Io rfl rfl) ?_)))))));refine O1 (Ae ld4 rfl rfl rfl) (O1 (A8 rfl) (OA rfl (Ab ?_)));refine Ak (Bw hw rfl ?_);exact rfl
def Lq (p : Pt) : Bool := !decide (p.sort = [])
def Dl (l : List Pt) : List Pt := l.filter Lq
theorem Ip {l : List Pt} {i : Nat} {p : Pt} (h : l[i]? = some p) : Dl (l.take (i + 1)) = Dl (l.take i) ++ (if Lq p = true then [p] else []) := by
 unfold Dl; rw [Cx h, List.filter_append]; cases hb : Lq p <;> simp [hb]
theorem it225 (L : RF) (r : Rl) (σ : Sto) (S : List Pt -> Sto -> Prop) (hb : r.parts.length < 1000000) (h0 : S [] σ)
  (hy : ∀ (i : Nat) (p : Pt) (σ' : Sto), r.parts[i]? = some p -> Lq p = true -> nx σ <= nx σ' -> S (Dl (r.parts.take i)) σ' -> YTo Ew L [.agg (ePt p)] σ' (fun σ'' => S (Dl (r.parts.take i) ++ [p]) σ'')) :
  Kh Ew L 225 [.yl L.aY, .pv (eR r)] σ (S (Dl r.parts)) := by
 refine Aml Tryz.func225 rfl rfl rfl fun hw hu0 => ?_
 refine Hx (Ln (Aa ?_));refine O1 (Ac Iv rfl rfl) (O1 (Ae Vj rfl rfl rfl) (O1 (As Qq rfl) (OM rfl (Ab ?_))));refine Pe ?_;refine Aax (fun i => [(0, .yl L.aY), (6, slV ePt 3 r.parts), (7, iV (.ofNat r.parts.length)), (8, iV (.ofNat i))]) (fun i σ0 => i <= r.parts.length /\ S (Dl (r.parts.take i)) σ0 /\ nx σ <= nx σ0) (fun i => r.parts.length - i) 0 ⟨rfl, rfl, rfl, rfl, trivial⟩ ⟨Nat.zero_le _, h0, nl⟩ ?_
 rintro i σ0 ⟨hi0, hS0, hn0⟩;refine Hx (Ln (Aa ?_));refine O1 (Bb ok3 rfl rfl) (Ab ?_);refine Hx ?_;refine Oc rfl (fun h1 => ?_) (fun h1 => ?_)
 ·have hlt0 : i < r.parts.length := by simpa using h1
  obtain ⟨p, hp⟩ := B3 hlt0;refine Ob ?_;refine Hx ?_;refine Pe ?_;refine Hx (Ln (Aa ?_));refine O1 (A3 Nh (fun _ => rfl) rfl rfl hp) ?_
  refine O1 (Ae Jc rfl rfl rfl) (B6 Aa0 Jc rfl (fun _ => rfl) rfl rfl rfl rfl ?_)
  refine Ab ?_;refine Hx (Yo ?_);refine Im noR rfl rfl (Ac Jq rfl rfl) ?_;refine Im noR rfl rfl (Ae ld9 rfl rfl rfl) ?_;refine Im noR rfl rfl (En (q := []) ok9 rfl rfl) ?_;refine Im noR rfl rfl (Ag rfl) ?_;have fin : ∀ (ρ : Al) (σ' : Sto), Al.at ρ 8 = some (iV (.ofNat i)) -> Al.at ρ 0 = some (.yl L.aY) -> Al.at ρ 6 = some (slV ePt 3 r.parts) -> Al.at ρ 7 = some (iV (.ofNat r.parts.length)) -> S (Dl (r.parts.take (i + 1))) σ' -> nx σ <= nx σ' ->
    Lk [(0, .yl L.aY), (6, slV ePt 3 r.parts), (7, iV (.ofNat r.parts.length)), (8, iV (.ofNat i))] ρ /\ S (Dl (r.parts.take (i + 1))) σ' /\ nx σ <= nx σ' := fun ρ σ' e8 e0 e6 e7 hs hn => ⟨⟨e0, e6, e7, e8, trivial⟩, hs, hn⟩
  clear fin;cases hb : Lq p with
  | true =>
   have hb' : (!decide (p.sort = [])) = true := hb
   refine Ag2 rfl rfl rfl rfl (by rw [hb']; rfl) noR rfl rfl (Ag rfl) ?_
   refine Ag2 rfl rfl rfl rfl (by rw [hb']; rfl) noR rfl rfl (Ae Jc rfl rfl rfl) ?_
   refine Aay (fun tm ht => by rw [Ga ht rfl rfl rfl rfl]; rw [hb']; rfl) rfl rfl rfl rfl (hy i p σ0 hp hb hn0 hS0) fun σ1 hS1 hn1 => ?_
   refine Ag2 rfl rfl rfl rfl (by rw [hb']; rfl) noR rfl rfl (A8 rfl) ?_
   refine Im noR rfl rfl (Bx rfl hb' rfl) ?_;refine Acz ?_
   refine Oc rfl (fun h2 => by cases h2) (fun h2 => ?_)
   refine Ob ?_;refine Ln (Aa ?_)
   refine O1 (A1 (q := 1) ok3 rfl rfl (by omega)) ?_
   refine OM rfl (Ab ?_)
   exact ⟨i + 1, by omega, ⟨rfl, rfl, rfl, rfl, trivial⟩, hlt0, by rw [Ip hp, if_pos hb]; exact hS1, Nat.le_trans hn0 hn1⟩
  | false =>
   have hb' : (!decide (p.sort = [])) = false := hb
   refine Wi rfl rfl rfl rfl rfl (by rw [hb']; rfl) rfl ?_
   refine Wi rfl rfl rfl rfl rfl (by rw [hb']; rfl) rfl ?_
   refine Wi rfl rfl rfl rfl rfl (by rw [hb']; rfl) rfl ?_
   refine Wi rfl rfl rfl rfl rfl (by rw [hb']; rfl) rfl ?_
   refine Im noR rfl rfl (Bt rfl hb' rfl) ?_;refine Acz ?_
   refine Oc rfl (fun h2 => by cases h2) (fun h2 => ?_)
   refine Ob ?_;refine Ln (Aa ?_)
   refine O1 (A1 (q := 1) ok3 rfl rfl (by omega)) ?_
   refine OM rfl (Ab ?_)
   exact ⟨i + 1, by omega, ⟨rfl, rfl, rfl, rfl, trivial⟩, hlt0, by rw [Ip hp, if_neg (by rw [hb]; simp), List.append_nil]; exact hS0, hn0⟩
 ·have hge0 : r.parts.length <= i := by simpa using h1
  refine Ae4 ?_
  show S (Dl r.parts) σ0
  rw [List.take_of_length_le hge0] at hS0; exact hS0
open Go Go.Proofs Go.Sort
abbrev eI (i : Int) : List AV := [iV i]
def D3 (l : List Int) : List Int := l.mergeSort fun x y => decide (x <= y)
theorem Anf {C : Ctx} {N : Nat} {w : World} {c : Nat} : ∀ {vs : List AV} {o j : Nat} {x : AV}, RC C N w c vs o -> vs[j]? = some x -> ∃ v, w.cell? ⟨c, o + j, none⟩ = some v /\ v.oneCell = true /\ R C N w x v
 | [], _, _, _, _, h => by simp at h
 | y :: r, o, 0, x, hr, h => by
  unfold RC at hr
  simp at h; subst h
  simpa using hr.1
 | y :: r, o, j + 1, x, hr, h => by
  unfold RC at hr
  have := Anf hr.2 (show r[j]? = some x by simpa using h)
  rwa [show o + 1 + j = o + (j + 1) by omega] at this
theorem Aqa {C : Ctx} {N : Nat} {w : World} {c : Nat} : ∀ {vs : List AV} {o : Nat}, (∀ j x, vs[j]? = some x -> ∃ v, w.cell? ⟨c, o + j, none⟩ = some v /\ v.oneCell = true /\ R C N w x v) -> RC C N w c vs o
 | [], _, _ => by unfold RC; trivial
 | y :: r, o, h => by
  unfold RC
  refine ⟨by simpa using h 0 y rfl, Aqa fun j x hx => ?_⟩
  have := h (j + 1) x (by simpa using hx)
  rwa [show o + (j + 1) = o + 1 + j by omega] at this
theorem Ang : ∀ l : List Int, l.flatMap eI = l.map iV
 | [] => rfl
 | x :: l => by simp [Ang l]
theorem Aqb (l : List Int) (tl : List AV) (j : Nat) (h : j < l.length) : (l.flatMap eI ++ tl)[j]? = some (iV l[j]) := by
 rw [Ang, List.getElem?_append_left (by simpa using h)]; simp [h]
theorem Anh (l : List Int) : (l.flatMap eI).length = l.length := by induction l with
 | nil => rfl
 | cons x l ih => simp [ih]
theorem Uo (l : List Int) : (D3 l).length = l.length := List.length_mergeSort l
theorem f193n (σ : Sto) : Ah Ew 193 [.nil (.slice none 0 0)] σ fun v σ' => v = Bd /\ σ' = σ := by
 refine Ro ⟨_, Tryz.func193, rfl, rfl⟩ fun C w vs ha => ?_
 obtain ⟨v, rfl, hv⟩ := Ag1 ha;unfold R at hv;obtain ⟨rfl, _⟩ := hv;exact ⟨_, Tryz.slices_Sort_int_none none 0 w, S2⟩
theorem f193 (l : List Int) (a : Nat) (tl : List AV) (σ : Sto) (hg : σ.get a = some (.cells (l.flatMap eI ++ tl))) (hne : l ≠ []) (hl : l.length < 1000000) :
  Ah Ew 193 [.sr a 0 1 l.length none] σ fun v σ' => v = Bd /\ σ' = σ.set a (.cells ((D3 l).flatMap eI ++ tl)) := by
 intro C w vs hs hgl ha;refine ⟨⟨_, Tryz.func193, rfl, rfl⟩, ?_⟩;obtain ⟨v, rfl, hv⟩ := Ag1 ha;unfold R at hv;obtain ⟨ad, k, rfl, hN, hlk, _, hloc⟩ := hv;obtain ⟨c, o, cs, T, hl1, hh, hrc⟩ := hs.obj a _ hg;have hpos : 0 < l.length := List.length_pos_iff.2 hne
 have had := (hloc c o hl1).1 (by omega)
 subst had;rw [Nat.add_zero]
 have hH : Holds (Value.int .i64) w c o l.toArray := fun j hj => by
  have hj : j < l.length := by simpa using hj
  obtain ⟨v, h1, _, h3⟩ := Anf hrc (Aqb l tl j hj);unfold iV R at h3;subst h3
  refine ⟨by rw [h1]; simp [hj], ?_⟩
  unfold World.frozen?;rw [hh]; simp
 refine (Tryz.slices_Sort_int c o k l w hH (hs.lt a c o hl1) (by omega)).mono fun e w' he => ?_
 obtain ⟨rfl, n, os, rfl⟩ := he;have hd : (D3 l).length = l.length := Uo l;obtain ⟨s1, e1⟩ := hs.same (w' := Go.Sort.ahead w n) nl (fun b _ => rfl) ⟨rfl, rfl⟩
 have hH1 : Holds (Value.int .i64) (Go.Sort.ahead w n) c o l.toArray := hH
 have hwr : Wr (Go.Sort.ahead w n) (putRow (Value.int .i64) (Go.Sort.ahead w n) c o (D3 l).toArray) c (.cells (putCells (Value.int .i64) o (D3 l).toArray cs) T (0, 0)) := by
  refine ⟨size_putRow .., ?_, fun b hb => ?_, rfl, rfl⟩
  ·show ((Go.Sort.ahead w n).heap.modify c (onCells _))[c]? = _
   rw [Array.getElem?_modify, if_pos rfl]
   show (w.heap[c]?).map _ = _
   rw [hh]; rfl
  ·show ((Go.Sort.ahead w n).heap.modify c (onCells _))[b]? = _
   rw [Array.getElem?_modify, if_neg (Ne.symm hb)]
 obtain ⟨s2, e2⟩ := s1.upd (O₀ := .cells (l.flatMap eI ++ tl)) hl1 hwr (by
   unfold csize;rw [hwr.here]
   show _ = (match w.heap[c]? with | some (.cells cs _ _) => cs.size | _ => 0)
   rw [hh]; simp [putCells]) hg (.cells ((D3 l).flatMap eI ++ tl)) rfl (fun _ _ _ h => by cases h) (fun e => by
   refine ⟨c, o, _, T, hl1, hwr.here, Aqa fun j x hx => ?_⟩
   rw [An]
   by_cases hj : j < (D3 l).length
   ·rw [Aqb _ tl j hj] at hx; cases hx
    refine ⟨_, cell?_putRow (Value.int .i64) (Go.Sort.ahead w n) c o l.toArray (D3 l).toArray hH1 (by simpa using hd) j (by simpa using hj), rfl, ?_⟩
    unfold iV R; simp [hj]
   ·have hx' : (l.flatMap eI ++ tl)[j]? = some x := by
     rw [List.getElem?_append_right (by rw [Anh]; omega), Anh] at hx ⊢
     rw [← hd]; exact hx
    obtain ⟨v, h1, h2, h3⟩ := Anf hrc hx';refine ⟨v, ?_, h2, R.ext (e1.trans e) _ _ h3⟩
    rw [cell?_putRow_other _ _ _ _ _ _ (.inr (.inr (by show o + (D3 l).toArray.size <= o + j; simp; omega)))]
    exact h1)
 obtain ⟨s3, e3⟩ := s2.same (w' := Go.Sort.grow (putRow (Value.int .i64) (Go.Sort.ahead w n) c o (D3 l).toArray) os) (by simp [Go.Sort.grow]) (fun b hb => by
   show (_ ++ os)[b]? = _
   rw [Array.getElem?_append_left hb]) ⟨rfl, rfl⟩
 refine ⟨Bd, _, C, ⟨rfl, rfl⟩, s3, ?_, S2⟩;rw [An] at e3 ⊢;exact (e1.trans e2).trans e3
def Adf : List Int -> Nat -> Bool
 | [], _ => false
 | a :: r, i => !decide (a = Int.ofNat i) || Adf r (i + 1)
def Eh (r : Rl) : List Int := (Dl r.parts).map (·.arg)
def H3 (g : Gr) (r : Rl) : Bool :=
 if ((!Aba r.label || !(g.sorts.any fun x => decide (r.sort = x))) || r.parts.any (fun p => !Afq g.sorts p)) = true then false
 else if Adf (D3 (Eh r)) 0 = true then false
 else !r.var || (decide (Int.ofNat r.parts.length = 1) && decide (Int.ofNat (Eh r).length = 0))
theorem Y1 {N : Nat} (p : Pt) : AV.unds N (ePt p) = true := rfl
theorem Adg {N : Nat} (r : Rl) : AV.unds N (eR r) = true := by
 show (true && (true && (AV.und N (slV ePt 3 r.parts) && (true && true)))) = true
 rw [Jo Y1 r.parts]; rfl
theorem f192 (r : Rl) (σ : Sto) : Ah Ew 192 [.agg (eR r)] σ fun v σ' => v = .fn (.func 225) [] [.pv (eR r)] /\ σ' = σ := by
 refine A2 Tryz.func192 rfl rfl fun hw hu0 => ?_
 refine Ad (Aa (Ax F6 rfl rfl rfl (OA rfl (Ab (Ad (Aa (O1 (E8 rfl rfl) ?_)))))));refine OA rfl (Ab ?_);refine Ak ?_
 exact ⟨_, rfl, _, _, Aw.of_same hw nl (fun _ _ => rfl), nl, .same (by show (true && ((AV.unds (nx σ) (eR r)) && true)) = true; rw [Adg]; rfl), rfl, rfl⟩
theorem f154 (r : Rl) (σ : Sto) : Ah Ew 154 [.agg (eR r)] σ fun v σ' => v = .bool (decide ((200 : Int) < Int.ofNat r.parts.length)) /\ σ' = σ := by
 refine A2 Tryz.func154 rfl rfl fun hw hu0 => ?_
 refine Ad (Aa (Ax F6 rfl rfl rfl (OA rfl (Ab (Ad (Aa (O1 (Ac Iv rfl rfl) ?_)))))));refine O1 (Ae Vj rfl rfl rfl) (O1 (As Qq rfl) (O1 (Cm (q := 200) ok3 rfl rfl) (OA rfl (Ab ?_))));refine Ak (Bw hw rfl ?_);exact rfl
structure Ani (σ : Sto) (l : List Pt) (σ' : Sto) : Prop where
 mk' ::
 ex : ∃ v, σ'.get (nx σ + 1) = some (.cells [v]) /\ Own σ' (nx σ + 4) eI 1 (l.map (·.arg)) v /\ (l = [] -> v = .nil (.slice none 0 0)) /\ σ'.get (nx σ + 3) = some (.loop .ready) /\ (∀ b, b < nx σ -> σ'.get b = σ.get b) /\ nx σ + 4 <= nx σ'
theorem Ani.rd {σ σ' : Sto} {l : List Pt} (h : Ani σ l σ') : σ'.get (nx σ + 3) = some (.loop .ready) := by obtain ⟨_, _, _, _, h, _⟩ := h.ex; exact h
theorem Kh.post {E : Env} {L : RF} {f : Nat} {args : List AV} {σ : Sto} {P P' : Sto -> Prop} (h : Kh E L f args σ P) (k : ∀ σ', P σ' -> P' σ') : Kh E L f args σ P' := fun C w vs hi hs hg ha => (h C w vs hi hs hg ha).mono fun e w' he => by
 cases e with
 | returned x => obtain ⟨σ', C', h1, h2⟩ := he; exact ⟨σ', C', k _ h1, h2⟩
 | panicked _ => exact he.elim
 | outgrown => exact he.elim
theorem Kq {σ : Sto} {N sz : Nat} {α : Type} {enc : α -> List AV} {l : List α} {v : AV} (h : Own σ N enc sz l v) : v.cellsN 1 = some [v] := by
 rcases h with ⟨_, rfl | rfl⟩ | ⟨a, tl, _, _, rfl, _⟩ <;> rfl
theorem f157 (r : Rl) (g : Gr) (σ : Sto) (hb : r.parts.length < 1000000) (hgs : g.sorts.length < 1000000) : Ah Ew 157 [.agg (eR r), grV g] σ fun v σ' => v = .bool (H3 g r) /\ σ' = σ := by
 refine callM Tryz.func157 (S8 _ _ Tryz.func157) rfl rfl fun hw hu0 => ?_
 refine Ag3 ?_;refine Aa (Ax F6 rfl rfl rfl (Ax L6 rfl rfl rfl (OA rfl (Ab ?_))));refine Ag3 ?_;refine Ad (Aa (O1 (Ac Wj rfl rfl) (O1 (Ae ld9 rfl rfl rfl) (Aq rfl rfl rfl rfl (f156 r.label _) (O1 (A8 rfl) (OM rfl ?_))))));refine Co 6 _ ?_ rfl rfl rfl rfl rfl (Av rfl) (fun hg => ?_) (fun hg => ?_) ?_
 rotate_left
 ·refine On hg (Ac M0 rfl rfl) (On hg (Ae Cf rfl rfl rfl) (On hg (Ac Aiw rfl rfl) (On hg (Ae ld9 rfl rfl rfl) (B0 rfl rfl rfl (by rw [hg]; rfl) rfl rfl rfl rfl (f30 g.sorts r.sort _ (by omega)) ?_))))
  refine On hg (A8 rfl) (Ab ?_);refine ⟨rfl, ?_, ?_⟩
  ·exact sb
  ·exact rfl
 ·refine Of hg (Of hg (Of hg (Of hg (Of hg (Of hg (Ab ?_))))));exact ⟨rfl, sb⟩
 refine OM rfl ?_;refine Co 4 _ ?_ rfl rfl rfl rfl rfl (Av rfl) (fun hg => ?_) (fun hg => ?_) ?_
 rotate_left
 ·refine On hg (Ac Iv rfl rfl) (On hg (Ae Vj rfl rfl rfl) (On hg (E8 rfl rfl) (B0 rfl rfl rfl (by rw [hg]; rfl) rfl rfl rfl rfl (f189 (fun p => !Afq g.sorts p) r.parts 190 [.pv [A9 g.sorts, slV eR 4 g.rules]] _ (by omega) (fun p _ => f190 p g _ hgs)) ?_)))
  refine Ab ?_;refine ⟨rfl, ?_, ?_⟩
  ·exact sb
  ·exact rfl
 ·refine Of hg (Of hg (Of hg (Of hg (Ab ?_))));exact ⟨rfl, sb⟩
 refine Ab ?_;refine Ai rfl (fun h1 => ?_) (fun h1 => ?_)
 ·refine Ad (Aa (OA rfl (Ab ?_)));have hV : H3 g r = false := if_pos h1;refine Ak ?_
  exact ⟨_, rfl, .bool false, σ, Aw.of_same hw (by rw [Bo]; omega) (fun a _ => Dv σ a), nl, .same rfl, congrArg AV.bool hV.symm, rfl⟩
 ·refine Aj ?_;refine Ag3 ?_;refine Aa (O1 (Dt zi122) (Ab ?_));refine Ako ?_;refine Aa (O1 (Ae F6 rfl rfl rfl) (Aq rfl rfl rfl rfl (f192 r _) (Ab ?_)))
  -- σ1: behind the variable
  have hA : nx σ.bump = nx σ + 1 := Bo σ
  have h1n : nx (σ.bump.new (.cells [.nil (.slice none 0 0)])) = nx σ + 2 := by rw [Ap, hA]
  have hsn : nx ((σ.bump.new (.cells [.nil (.slice none 0 0)])).bump.new (.loop .ready)) = nx σ + 4 := by rw [Ap, Bo, h1n]
  refine ⟨225, [.pv (eR r)], _, fun σ' => Ani σ (Dl r.parts) σ', rfl, Tryz.func225, S8 _ _ Tryz.func225, rfl, fun tm ht => ?_, fun σ' aD hS hn => ?_⟩
  ·rw [h1n];refine Kh.post (it225 _ r _ (fun l σ' => Ani σ l σ') hb ?_ ?_) fun σ' hS => ⟨hS.rd, hS⟩
   ·refine ⟨⟨.nil (.slice none 0 0), ?_, .nil, fun _ => rfl, ?_, fun b hb' => ?_, by rw [hsn]; exact nl⟩⟩
    ·rw [Sto.get_new, Bo, if_neg (by rw [h1n]; omega), Dv, Sto.get_new, if_pos hA.symm]
    ·rw [Sto.get_new, Bo, if_pos (by rw [h1n])]
    ·rw [Sto.get_new, Bo, if_neg (by rw [h1n]; omega), Dv, Sto.get_new, if_neg (by rw [hA]; omega), Dv]
   ·intro i p σ' hp hpb hn' hS;obtain ⟨v, hcell, hown, hnil, hrd, hlow, hnn⟩ := hS.ex;rw [hsn] at hn';have hnb : nx (σ'.set (nx σ + 3) (.loop .busy)) = nx σ' := An _ _ _
    refine Amj (ρL := _) ht rfl rfl hrd (by show nx σ + 3 < nx σ'; omega) ?_
    refine Kg (by kernel_rfl) ?_
    refine B6 Aa0 Jc rfl (fun _ => rfl) rfl rfl rfl rfl ?_
    refine Ab ?_;refine ⟨hrd, ?_⟩
    refine Aaw (Kg (by kernel_rfl) ?_)
    have hown1 : Own (σ'.set (nx σ + 3) (.loop .busy)) (nx σ + 4) eI 1 ((Dl (r.parts.take i)).map (·.arg)) v := hown.mono (by rw [hnb]; exact nl) fun a tl _ h8 h9 _ => by rw [Sto.get_set, if_neg (by omega)]
    have hlen : ((Dl (r.parts.take i)).map (·.arg)).length <= i := by
     rw [List.length_map]
     exact Nat.le_trans (List.length_filter_le _ _) (by rw [List.length_take]; omega)
    have hil : i < r.parts.length := (List.getElem?_eq_some_iff.1 hp).1
    have hlim : (((Dl (r.parts.take i)).map (·.arg)).length + [p.arg].length) * (8 + 1) <= sizeLim := by simp only [List.length_singleton, sizeLim]; omega
    obtain ⟨v1, τ1, hap, ho1, hb1, hk1⟩ := hown1.app (by' := 8) (enc := eI) (sz := 1) (fun _ => rfl) (by rw [hnb]; omega) [p.arg] hlim
    have hcell1 : (σ'.set (nx σ + 3) (.loop .busy)).get (nx σ + 1) = some (.cells [v]) := by rw [Sto.get_set, if_neg (by omega)]; exact hcell
    have hcell2 : τ1.get (nx σ + 1) = some (.cells [v]) := (hb1.2 _ (by omega)).trans hcell1
    refine O1 (Ae (u := .pr (nx σ + 1) 0) (cs := [v]) Ae9 (by rw [← hA]; rfl) (by simp only [B2, Sto.cells, hcell1]; rfl) rfl) ?_
    refine O1 (Ac Wl rfl rfl) (O1 (Ae ld3 rfl rfl rfl) (E2 (Br Amw byW rfl rfl rfl) (Gq (len := 1)) rfl rfl (O1 (B5 Amw rfl Amv rfl rfl rfl (new := eI p.arg) rfl hap) (O1 (A6 (ad := nx σ + 1) (off := 0) (vs := [v]) (vs' := [v1]) (cs := [v1]) Ae9 (by rw [← hA]; rfl) rfl (Kq ho1) (by simp only [Sto.cells, hcell2]) rfl) ?_))))
    refine Ab ?_
    have hn1 : nx σ + 4 <= nx τ1 := Nat.le_trans (by rw [hnb]; omega) hb1.1
    refine ⟨by rw [Sto.get_set, if_neg (by show ¬ nx σ + 3 = nx σ + 1; omega), hb1.2 _ (by show nx σ + 3 < nx σ + 4; omega), Sto.get_set, if_pos rfl], ⟨v1, ?_, ?_, fun h => (by simp at h), by rw [Sto.get_set, if_pos rfl], fun b hb' => ?_, by rw [An, An]; exact hn1⟩⟩
    ·rw [Sto.get_set, if_neg (by show ¬ nx σ + 1 = nx σ + 3; omega), Sto.get_set, if_pos rfl]
    ·rw [List.map_append]
     exact ho1.mono (by rw [An, An]; exact nl) fun a tl _ h8 h9 _ => by rw [Sto.get_set, if_neg (by show ¬ a = nx σ + 3; omega), Sto.get_set, if_neg (by omega)]
    ·rw [Sto.get_set, if_neg (by show ¬ b = nx σ + 3; omega), Sto.get_set, if_neg (by omega), hb1.2 b (by omega), Sto.get_set, if_neg (by omega)]
     exact hlow b hb'
  ·have hS' : Ani σ (Dl r.parts) σ' := hS;obtain ⟨v, hcell, hown, hnil, hrd, hlow, hnn⟩ := hS'.ex;rw [h1n];have hnk : nx (σ'.kill (nx σ + 2 + 1)) = nx σ' := Ck _ _
   have hgk : ∀ b, b ≠ nx σ + 3 -> (σ'.kill (nx σ + 2 + 1)).get b = σ'.get b := fun b hb' => by rw [Sto.get_kill, if_neg hb']
   have hlen : (Eh r).length < 1000000 := by
    unfold Eh Dl;rw [List.length_map];exact Nat.lt_of_le_of_lt (List.length_filter_le _ _) hb
   have hownk : Own (σ'.kill (nx σ + 2 + 1)) (nx σ + 4) eI 1 (Eh r) v := hown.mono (by rw [hnk]; exact nl) fun a tl _ h8 h9 _ => hgk a (by omega)
   obtain ⟨σs, hcall, hcs, howns, hlows, hns⟩ : ∃ σs, (Ah Ew 193 [v] (σ'.kill (nx σ + 2 + 1)) fun u τ => u = Bd /\ τ = σs) /\ σs.get (nx σ + 1) = some (.cells [v]) /\ Own σs (nx σ + 4) eI 1 (D3 (Eh r)) v /\ (∀ b, b < nx σ -> σs.get b = σ.get b) /\ nx σ + 4 <= nx σs := by
    by_cases hne : Eh r = []
    ·have hv : v = .nil (.slice none 0 0) := hnil (by unfold Eh at hne; exact List.map_eq_nil_iff.1 hne)
     subst hv
     refine ⟨_, f193n _, (hgk _ (by omega)).trans hcell, ?_, fun b hb' => (hgk b (by omega)).trans (hlow b hb'), by rw [hnk]; exact hnn⟩
     rw [hne] at hownk ⊢
     rw [show D3 [] = [] by simp [D3]]
     exact hownk
    ·rcases hownk with ⟨h0, _⟩ | ⟨a, tl, ha1, ha2, rfl, ha3⟩
     ·exact absurd h0 hne
     ·refine ⟨_, f193 (Eh r) a tl _ ha3 hne hlen, ?_, .inr ⟨a, tl, ha1, by rw [An]; exact ha2, by rw [Uo], by rw [Sto.get_set, if_pos rfl]⟩, fun b hb' => ?_, by rw [An, hnk]; exact hnn⟩
      ·rw [Sto.get_set, if_neg (by omega), hgk _ (by omega)]; exact hcell
      ·rw [Sto.get_set, if_neg (by omega), hgk _ (by omega)]; exact hlow b hb'
   have hsl : (D3 (Eh r)).length = (Eh r).length := Uo _
   have hbel : nx σ <= nx σs /\ ∀ b, b < nx σ -> σs.get b = σ.get b := ⟨by omega, hlows⟩
   have hld : ∀ τ : Sto, τ.get (nx σ + 1) = some (.cells [v]) -> B2 τ (.pr (nx σ + 1) 0) = some [v] := fun τ h => by simp only [B2, Sto.cells, h]; rfl
   have hno : ∀ b : Bool, H3 g r = b -> T Ew Tryz.f157.ntmps [(D6, [.yl aD, .yl (nx σ)])] (nx σ + 1) .ret (Akf (Zw Ew Tryz.f157 (nx σ) fun v σ' => v = .bool (H3 g r) /\ σ' = σ)) [(4, .bool b)] σs := fun b hb' => by
    refine Ak ?_;exact ⟨_, rfl, .bool b, σ, Aw.of_same hw hbel.1 hbel.2, nl, .same rfl, congrArg AV.bool hb'.symm, rfl⟩
   refine Ad (Aa (O1 (Ae (u := .pr (nx σ + 1) 0) (cs := [v]) Ae9 (by rw [← hA]; rfl) (hld _ ((hgk _ (by omega)).trans hcell)) rfl) ?_))
   refine Aq rfl rfl rfl rfl hcall (Ab (Ad (Ad (Aa (O1 (Ae (u := .pr (nx σ + 1) 0) (cs := [v]) Ae9 (by rw [← hA]; rfl) (hld _ hcs) rfl) ?_)))))
   refine O1 (Fd Amv rfl howns.lenA.1 howns.lenA.2) (OM rfl (Ab (Am ?_)))
   refine Cg (D3 (Eh r)).length (fun i2 => [(2, .pv (eR r)), (5, .pr (nx σ + 1) 0), (37, v), (38, iV (.ofNat (D3 (Eh r)).length)), (39, iV (.ofNat i2))]) (fun i2 σ2 => σ2 = σs /\ Adf (D3 (Eh r)) 0 = Adf ((D3 (Eh r)).drop i2) i2) ⟨rfl, by rw [← hA]; rfl, rfl, rfl, rfl, trivial⟩ ⟨rfl, rfl⟩ ?_
   rintro i2 σ2 hi2 ⟨rfl, hf2⟩;refine Ad (Aa (O1 (Bb ok3 rfl rfl) (Ab (Ad ?_))));refine Ai rfl (fun h2 => ?_) (fun h2 => ?_)
   ·have hlt2 : i2 < (D3 (Eh r)).length := by simpa using h2
    obtain ⟨u2, ha2⟩ := B3 hlt2;have hd2 := Bn ha2
    have hov : ∃ a tl, v = .sr a 0 1 (D3 (Eh r)).length none /\ σ2.get a = some (.cells ((D3 (Eh r)).flatMap eI ++ tl)) := by
     rcases howns with ⟨h0, _⟩ | ⟨a, tl, _, _, k3, k4⟩
     ·rw [h0] at hlt2; exact absurd hlt2 (by simp)
     ·exact ⟨a, tl, k3, k4⟩
    obtain ⟨a, tl, hv, hga⟩ := hov;refine Aj (Ad (Am (Ad (Aa (OM rfl (O1 (Hw (a := a) (m := (D3 (Eh r)).length) (cap := none) Amw (congrArg some hv) rfl hlt2) (O1 (Uh (l := D3 (Eh r)) (enc := eI) (u := u2) (v := iV u2) (fun _ => rfl) ld3 rfl hga ha2 (fun _ => rfl)) ?_)))))))
    refine OA rfl (OA rfl (Ab (Ad (Aa (OM rfl (OM rfl (O1 (C9 ok3 rfl rfl) ?_)))))));refine Ab ?_;refine Ai rfl (fun h3 => ?_) (fun h3 => ?_)
    ·refine Ad (Aa (OA rfl (Ab ?_)))
     have hV : H3 g r = false := (if_neg (by rw [h1]; simp)).trans (if_pos (by rw [hf2, hd2, Adf, show (!decide (u2 = Int.ofNat i2)) = true from h3]; rfl))
     refine Ak ?_;exact ⟨_, rfl, .bool false, σ, Aw.of_same hw hbel.1 hbel.2, nl, .same rfl, congrArg AV.bool hV.symm, rfl⟩
    ·refine Aj (Aa (O1 (A1 (q := 1) ok3 rfl rfl (by omega)) ?_))
     refine OM rfl (Ab ?_)
     refine ⟨hlt2, ⟨rfl, rfl, rfl, rfl, rfl, trivial⟩, rfl, by rw [hf2, hd2, Adf, show (!decide (u2 = Int.ofNat i2)) = false from h3]; rfl⟩
   ·have hge2 : (D3 (Eh r)).length <= i2 := by simpa using h2
    have hbad : Adf (D3 (Eh r)) 0 = false := by rw [hf2, List.drop_eq_nil_of_le hge2]; rfl
    have hV : H3 g r = (!r.var || (decide (Int.ofNat r.parts.length = 1) && decide (Int.ofNat (Eh r).length = 0))) := (if_neg (by rw [h1]; simp)).trans (if_neg (by rw [hbad]; simp))
    have hV' : H3 g r = (!r.var || (decide (Int.ofNat r.parts.length = 1) && decide (Int.ofNat (D3 (Eh r)).length = 0))) := by rw [hV, hsl]
    refine Bf ?_;refine Ad (Aa (O1 (Ac Ac6 rfl rfl) (O1 (Ae ld4 rfl rfl rfl) (O1 (A8 rfl) (OM rfl ?_)))))
    rcases Bool.eq_false_or_eq_true (!r.var) with hg | hg
    ·refine Of hg (Of hg (Of hg (Of hg (Of hg (Ou (Ou (Ou ?_)))))));refine Of hg (O1 (Bx rfl hg rfl) (OA rfl (Ab ?_)))
     exact (hno true (by rw [hV', hg]; rfl)).sub ⟨rfl, trivial⟩
    ·refine On hg (Ac Iv rfl rfl) (On hg (Ae Vj rfl rfl rfl) (On hg (As Qq rfl) (On hg (Dq (q := 1) ok3 rfl rfl) (On hg (Ag rfl) ?_))))
     rcases (Bool.eq_false_or_eq_true (decide (Int.ofNat r.parts.length = 1))).symm with h1l | h1l
     ·refine Q9 rfl rfl rfl rfl (by rw [h1l]; rfl) rfl ?_
      refine Q9 rfl rfl rfl rfl (by rw [h1l]; rfl) rfl ?_
      refine Q9 rfl rfl rfl rfl (by rw [h1l]; rfl) rfl ?_
      refine On hg (Bt rfl h1l rfl) (O1 (Bt rfl hg rfl) (OA rfl (Ab ?_)))
      exact (hno false (by rw [hV', hg, h1l]; rfl)).sub ⟨rfl, trivial⟩
     ·refine X3 rfl rfl rfl rfl (by rw [h1l]; rfl) noR rfl rfl (Ae (u := .pr (nx σ + 1) 0) (cs := [v]) Ae9 rfl (hld _ hcs) rfl) ?_
      refine X3 rfl rfl rfl rfl (by rw [h1l]; rfl) noR rfl rfl (Fd Amv rfl howns.lenA.1 howns.lenA.2) ?_
      refine X3 rfl rfl rfl rfl (by rw [h1l]; rfl) noR rfl rfl (Dq (q := 0) ok3 rfl rfl) ?_
      refine On hg (Bx rfl h1l rfl) (O1 (Bt rfl hg rfl) (OA rfl (Ab ?_)))
      exact (hno (decide (Int.ofNat (D3 (Eh r)).length = 0)) (by rw [hV', hg, h1l]; rfl)).sub ⟨rfl, trivial⟩
def Y2 : List Str -> SM Bool -> Bool
 | [], _ => false
 | s :: r, m => (!Aba s || m.has s) || Y2 r (m.put s true)
def Ty (g : Gr) : List Rl -> SM Bool -> Bool
 | [], _ => false
 | r :: l, m => (!H3 g r || m.has r.label) || Ty g l (m.put r.label true)
def Nc (g : Gr) : Int :=
 if ((decide ((32 : Int) < Int.ofNat g.sorts.length) || decide ((600 : Int) < Int.ofNat g.rules.length)) || g.rules.any (fun r => decide ((200 : Int) < Int.ofNat r.parts.length))) = true then 4
 else if Y2 g.sorts [] = true then 151 else if Ty g g.rules [] = true then 151 else 0
structure GrB (g : Gr) : Prop where
 s : g.sorts.length < 1000000
 r : g.rules.length < 1000000
 p : ∀ r ∈ g.rules, r.parts.length < 1000000
theorem f139 (g : Gr) (σ : Sto) (hB : GrB g) : Ah Ew 139 [grV g] σ fun v σ' => v = iV (Nc g) /\ σ' = σ := by
 refine A2 Tryz.func139 rfl rfl fun hw hu0 => ?_
 have hbs := hB.s;have hbr := hB.r;refine Ad (Aa (Ax L6 rfl rfl rfl (OA rfl (Ab (Ad (Aa (OA rfl ?_)))))));refine Ab (Ad (Ad (Aa (O1 (Ac M0 rfl rfl) (O1 (Ae Cf rfl rfl rfl) (O1 (As D0 rfl) (O1 (Cm (q := 32) ok3 rfl rfl) ?_)))))));refine OM rfl ?_;refine Co 4 _ ?_ rfl rfl rfl rfl rfl (Av rfl) (fun hg => ?_) (fun hg => ?_) ?_
 rotate_left
 ·refine On hg (Ac Lp rfl rfl) (On hg (Ae Zz rfl rfl rfl) (On hg (As Ahc rfl) (On hg (Cm (q := 600) ok3 rfl rfl) (Ab ?_))));refine ⟨rfl, ?_, ?_⟩
  ·exact sb
  ·exact rfl
 ·refine Of hg (Of hg (Of hg (Of hg (Ab ?_))));exact ⟨rfl, sb⟩
 refine OM rfl ?_;refine Co 4 _ ?_ rfl rfl rfl rfl rfl (Av rfl) (fun hg => ?_) (fun hg => ?_) ?_
 rotate_left
 ·refine On hg (Ac Lp rfl rfl) (On hg (Ae Zz rfl rfl rfl) (On hg (Ag rfl) (B0 rfl rfl rfl (by rw [hg]; rfl) rfl rfl rfl rfl (f155 (fun r => decide ((200 : Int) < Int.ofNat r.parts.length)) g.rules 154 [] σ (by have := hB.r; omega) (fun r _ => f154 r σ)) ?_)))
  refine Ab ?_;refine ⟨rfl, ?_, ?_⟩
  ·exact sb
  ·exact rfl
 ·refine Of hg (Of hg (Of hg (Of hg (Ab ?_))));exact ⟨rfl, sb⟩
 refine Ab ?_;refine Ai rfl (fun h1 => ?_) (fun h1 => ?_)
 ·refine Ad (Aa (OA rfl (Ab ?_)));have hE : Nc g = 4 := (if_pos h1);refine Ak ?_;exact ⟨_, rfl, _, σ, Aw.below hw Below.rfl', nl, .same rfl, congrArg iV hE.symm, rfl⟩
 ·refine Aj (Ad (Aa (O1 (Mu Tm) (OA rfl (Ab (Ad (Ad ?_)))))));refine Aa (O1 (Ac M0 rfl rfl) (O1 (Ae Cf rfl rfl rfl) (O1 (As D0 rfl) (OM rfl (Ab (Am ?_))))))
  refine Cg g.sorts.length (fun i0 => [(1, .pv [A9 g.sorts, slV eR 4 g.rules]), (4, .mp (nx σ)), (27, A9 g.sorts), (28, iV (.ofNat g.sorts.length)), (29, iV (.ofNat i0))]) (fun i0 σ0 => ∃ m, E3 σ0 (nx σ) m /\ nx σ <= nx σ0 /\ (∀ b, b < nx σ -> σ0.get b = σ.get b) /\ Y2 g.sorts [] = Y2 (g.sorts.drop i0) m) ⟨rfl, rfl, rfl, rfl, rfl, trivial⟩ ⟨[], ⟨0, by rw [Sto.get_new, if_pos rfl]; rfl⟩, by rw [Ap]; omega, fun b hb => by rw [Sto.get_new, if_neg (by omega)], rfl⟩ ?_
  rintro i0 σ0 hi0 ⟨m, hm0, hn0, hg0, hf0⟩;refine Ad (Aa (O1 (Bb ok3 rfl rfl) (Ab (Ad ?_))));refine Ai rfl (fun h2 => ?_) (fun h2 => ?_)
  ·have hlt0 : i0 < g.sorts.length := by simpa using h2
   obtain ⟨a0, ha0⟩ := B3 hlt0;have hd0 := Bn ha0;obtain ⟨vm, hvm⟩ := id hm0;refine Aj (Ad (Am (Ad (Aa (O1 (A3 C5 (fun _ => rfl) rfl rfl ha0) ?_)))))
   refine O1 (Ae ld9 rfl rfl rfl) (OA rfl (Ab (Ad (Ad (Aa (OM rfl (Aq rfl rfl rfl rfl (f156 a0 _) ?_)))))));refine O1 (A8 rfl) (OM rfl ?_);refine Co 3 _ ?_ rfl rfl rfl rfl rfl (Av rfl) (fun hg => ?_) (fun hg => ?_) ?_
   rotate_left
   ·refine On hg (Ag rfl) (On hg (Ag rfl) (On hg (Dj st9 Tm rfl hm0 rfl) (Ab ?_)));refine ⟨rfl, ?_, ?_⟩
    ·exact sb
    ·exact rfl
   ·refine Of hg (Of hg (Of hg (Ab ?_)));exact ⟨rfl, sb⟩
   refine Ab ?_;refine Ai rfl (fun h3 => ?_) (fun h3 => ?_)
   ·refine Ad (Aa (OA rfl (Ab ?_)))
    have hE : Nc g = 151 := ((if_neg (fun hh => Bool.noConfusion (h1.symm.trans hh))).trans (if_pos (by rw [hf0, hd0, Y2, show (!Aba a0 || m.has a0) = true from h3]; rfl)))
    refine Ak ?_;exact ⟨_, rfl, _, σ, Aw.below hw ⟨hn0, hg0⟩, nl, .same rfl, congrArg iV hE.symm, rfl⟩
   ·refine Aj (Aa (OM rfl (OM rfl (O1 (Fj (v := true) st9 Tm rfl hvm rfl rfl (fun te k1 k2 => by first | exact G2 k1 k2 | exact G3 k1 k2 | exact Hu k1 k2 | exact Hv k1 k2 | exact Gj k1 k2 rfl)) ?_))))
    refine Ab (Aa (O1 (A1 (q := 1) ok3 rfl rfl (by omega)) ?_))
    refine OM rfl (Ab ?_)
    refine ⟨hlt0, ⟨rfl, rfl, rfl, rfl, rfl, trivial⟩, m.put a0 true, Bg.put, by rw [An]; exact hn0, fun b hb => by rw [Sto.get_set, if_neg (by omega)]; exact hg0 b hb, by rw [hf0, hd0, Y2, show (!Aba a0 || m.has a0) = false from h3]; rfl⟩
  ·have hge0 : g.sorts.length <= i0 := by simpa using h2
   have hs1 : Y2 g.sorts [] = false := by rw [hf0, List.drop_eq_nil_of_le hge0]; rfl
   obtain ⟨vm, hvm⟩ := id hm0;refine Bf ?_;refine Ad (Aa (OM rfl (O1 (Aki Tm rfl hvm) (Ab (Ad (Ad (Aa ?_)))))));refine O1 (Ac Lp rfl rfl) (O1 (Ae Zz rfl rfl rfl) (O1 (As Ahc rfl) (OM rfl (Ab (Am ?_)))))
   refine Cg g.rules.length (fun i2 => [(1, .pv [A9 g.sorts, slV eR 4 g.rules]), (4, .mp (nx σ)), (46, slV eR 4 g.rules), (47, iV (.ofNat g.rules.length)), (48, iV (.ofNat i2))]) (fun i2 σ2 => ∃ m, E3 σ2 (nx σ) m /\ nx σ <= nx σ2 /\ (∀ b, b < nx σ -> σ2.get b = σ.get b) /\ Ty g g.rules [] = Ty g (g.rules.drop i2) m) ⟨rfl, rfl, rfl, rfl, rfl, trivial⟩ ⟨[], ⟨vm + 1, by rw [Sto.get_set, if_pos rfl]; rfl⟩, by rw [An]; exact hn0, fun b hb => by rw [Sto.get_set, if_neg (by omega)]; exact hg0 b hb, rfl⟩ ?_
   rintro i2 σ2 hi2 ⟨m2, hm2, hn2, hg2, hf2⟩;refine Ad (Aa (O1 (Bb ok3 rfl rfl) (Ab (Ad ?_))));refine Ai rfl (fun h3 => ?_) (fun h3 => ?_)
   ·have hlt2 : i2 < g.rules.length := by simpa using h3
    obtain ⟨a2, ha2⟩ := B3 hlt2;have hd2 := Bn ha2;obtain ⟨vm2, hvm2⟩ := id hm2;refine Aj (Ad (Am (Ad (Aa (O1 (A3 Ac5 (fun _ => rfl) rfl rfl ha2) ?_)))))
    refine O1 (Ae F6 rfl rfl rfl) (B6 Tl F6 rfl (fun _ => rfl) rfl rfl rfl rfl ?_)
    refine Ab (Ad (Ad (Aa (O1 (Ae F6 rfl rfl rfl) (O1 (Ae L6 rfl rfl rfl) (Aq rfl rfl rfl rfl (f157 a2 g _ (hB.p a2 (List.mem_of_getElem? ha2)) hB.s) (O1 (A8 rfl) ?_)))))));refine OM rfl ?_;refine Co 4 _ ?_ rfl rfl rfl rfl rfl (Av rfl) (fun hg => ?_) (fun hg => ?_) ?_
    rotate_left
    ·refine On hg (Ag rfl) (On hg (Ac Wj rfl rfl) (On hg (Ae ld9 rfl rfl rfl) (On hg (Dj st9 Tm rfl hm2 rfl) (Ab ?_))));refine ⟨rfl, ?_, ?_⟩
     ·exact sb
     ·exact rfl
    ·refine Of hg (Of hg (Of hg (Of hg (Ab ?_))));exact ⟨rfl, sb⟩
    refine Ab ?_;refine Ai rfl (fun h4 => ?_) (fun h4 => ?_)
    ·refine Ad (Aa (OA rfl (Ab ?_)))
     have hE : Nc g = 151 := ((if_neg (fun hh => Bool.noConfusion (h1.symm.trans hh))).trans ((if_neg (by rw [hs1]; simp)).trans (if_pos (by rw [hf2, hd2, Ty, show (!H3 g a2 || m2.has a2.label) = true from h4]; rfl))))
     refine Ak ?_;exact ⟨_, rfl, _, σ, Aw.below hw ⟨hn2, hg2⟩, nl, .same rfl, congrArg iV hE.symm, rfl⟩
    ·refine Aj (Aa (OM rfl (O1 (Ac Wj rfl rfl) (O1 (Ae ld9 rfl rfl rfl) (O1 (Fj (v := true) st9 Tm rfl hvm2 rfl rfl (fun te k1 k2 => by first | exact G2 k1 k2 | exact G3 k1 k2 | exact Hu k1 k2 | exact Hv k1 k2 | exact Gj k1 k2 rfl)) ?_)))))
     refine Ab (Aa (O1 (A1 (q := 1) ok3 rfl rfl (by omega)) ?_))
     refine OM rfl (Ab ?_)
     refine ⟨hlt2, ⟨rfl, rfl, rfl, rfl, rfl, trivial⟩, m2.put a2.label true, Bg.put, by rw [An]; exact hn2, fun b hb => by rw [Sto.get_set, if_neg (by omega)]; exact hg2 b hb, by rw [hf2, hd2, Ty, show (!H3 g a2 || m2.has a2.label) = false from h4]; rfl⟩
   ·have hge2 : g.rules.length <= i2 := by simpa using h3
    have hs2 : Ty g g.rules [] = false := by rw [hf2, List.drop_eq_nil_of_le hge2]; rfl
    refine Bf ?_;refine Ad (Aa (OA rfl (Ab ?_)))
    have hE : Nc g = 0 := ((if_neg (fun hh => Bool.noConfusion (h1.symm.trans hh))).trans ((if_neg (by rw [hs1]; simp)).trans (if_neg (by rw [hs2]; simp))))
    refine Ak ?_;exact ⟨_, rfl, _, σ, Aw.below hw ⟨hn2, hg2⟩, nl, .same rfl, congrArg iV hE.symm, rfl⟩
theorem D4 {ρ : Al} {σ : Sto} {Rr : Rec} {t n : Nat} {z : List AV} (hi : zI Ew.P t = some z) (hn : nx σ = n) : Bu Ew Rr (.alloc t) ρ σ (.pr n 0) (σ.new (.cells z)) := by subst hn; exact Dt hi
def iN (n : Nat) : AV := iV (.ofNat n)
theorem Arc {te : TI} {n : Nat} {i : Nat} (_ : te.size = n) (h : te.isAgg = false) : Pi te (iN i) = true := by unfold iN iV Pi; rw [h]; rfl
def H4 : List Hp -> Nat -> SM Nat -> SM Nat
 | [], _, m => m
 | h :: r, i, m => H4 r (i + 1) (m.put (txv h) i)
theorem Afr : ∀ {l : List Hp} {n : Nat} {m : SM Nat}, (∀ s i, m.get s = some i -> i < n) -> ∀ s i, (H4 l n m).get s = some i -> i < n + l.length
 | [], n, m, h, s, i, hs => by simpa using h s i hs
 | x :: r, n, m, h, s, i, hs => by
  have := Afr (l := r) (n := n + 1) (m := m.put (txv x) n) (fun s i hh => by
   rw [SM.get_put] at hh
   split at hh
   ·cases hh; omega
   ·have := h s i hh; omega) s i hs
  simp only [List.length_cons]; omega
def Anj (hyps : List Hp) (i : Nat) : Str := match hyps[i]? with | some h => h.text.headD [] | none => []
def axP (args : SM Nat) (hyps : List Hp) : List Str -> SM Bool -> List Pt -> Option (List Pt)
 | [], _, ps => some ps
 | s :: r, met, ps => match args.get s with
  | none => axP args hyps r met (ps ++ [⟨s, [], 0⟩])
  | some i => if met.has s = true then none else axP args hyps r (met.put s true) (ps ++ [⟨[], Anj hyps i, Int.ofNat i⟩])
def H5 (f : Fr) : Option Rl := match axP (H4 f.hyps 0 []) f.hyps (f.text.drop 1) [] [] with
 | none => none
 | some ps => some ⟨f.label, f.text.headD [], ps, false⟩
def axV : Option Rl -> AV
 | none => .tup [.agg (eR ⟨[], [], [], false⟩), .bool false]
 | some r => .tup [.agg (eR r), .bool true]
def zR : List AV := [.str [], .str [], .nil (.slice none 0 0), .bool false]
theorem f138 (f : Fr) (σ : Sto) (t0 : Str) (hB : FrB f) (htx : ∃ tl, f.text = t0 :: tl) (hh : ∀ h ∈ f.hyps, ∃ a b, h.text = [a, b]) : Ah Ew 138 [.agg (eF f)] σ fun v σ' => v = axV (H5 f) /\ σ' = σ := by
 refine A2 Tryz.func138 rfl rfl fun hw hu0 => ?_
 obtain ⟨tl, htx⟩ := htx;have hbh := hB.h;have hbt := hB.t
 have hbt1 : (f.text.drop 1).length < 1000000 := by rw [List.length_drop]; omega
 refine Ad (Aa (Ax Oe rfl rfl rfl (O1 (Dt Tl) (OA rfl (Ab (Ad (Aa ?_)))))));refine O1 (Cr (n := nx σ + 1) Amx (nx1 rfl)) (OA rfl (Ab (Ad (Ad (Aa (O1 (Ac G4 rfl rfl) (O1 (Ae Kk rfl rfl rfl) ?_)))))));refine O1 (As Fs rfl) (OM rfl (Ab ?_));have hinit0 : nx ((σ.new (.cells zR)).new (.map 9 [] 0)) = nx σ + 2 /\ ((σ.new (.cells zR)).new (.map 9 [] 0)).get (nx σ) = some (.cells zR) /\ (∀ b, b < nx σ -> ((σ.new (.cells zR)).new (.map 9 [] 0)).get b = σ.get b) /\ ∃ m, Bg iN ((σ.new (.cells zR)).new (.map 9 [] 0)) (nx σ + 1) m /\ H4 f.hyps 0 [] = H4 (f.hyps.drop 0) 0 m :=
  ⟨by rw [Ap, Ap], by rw [Sto.get_new, if_neg (by rw [Ap]; omega), Sto.get_new, if_pos rfl], fun b hb => by rw [Sto.get_new, if_neg (by rw [Ap]; omega), Sto.get_new, if_neg (by omega)], [], ⟨0, by rw [Sto.get_new, if_pos (by rw [Ap])]; rfl⟩, rfl⟩
 refine Am ?_;refine Cg f.hyps.length (fun i0 => [(1, .pv (eF f)), (2, .pr (nx σ) 0), (4, .mp (nx σ + 1)), (15, slV eH 3 f.hyps), (16, iV (.ofNat f.hyps.length)), (17, iV (.ofNat i0))]) (fun i0 σ0 => nx σ0 = nx σ + 2 /\ σ0.get (nx σ) = some (.cells zR) /\ (∀ b, b < nx σ -> σ0.get b = σ.get b) /\ ∃ m, Bg iN σ0 (nx σ + 1) m /\ H4 f.hyps 0 [] = H4 (f.hyps.drop i0) i0 m) ⟨rfl, rfl, rfl, rfl, rfl, rfl, trivial⟩ hinit0 ?_
 rintro i0 σ0 hi0 ⟨hn0, h20, hg0, m, hm0, hf0⟩;refine Ad (Aa (O1 (Bb ok3 rfl rfl) (Ab (Ad ?_))));refine Ai rfl (fun h1 => ?_) (fun h1 => ?_)
 ·have hlt0 : i0 < f.hyps.length := by simpa using h1
  obtain ⟨a0, ha0⟩ := B3 hlt0;have hd0 := Bn ha0;obtain ⟨u0, u1, hux⟩ := hh a0 (List.mem_of_getElem? ha0);obtain ⟨vm, hvm⟩ := id hm0;refine Aj (Ad (Am (Ad (Aa (OM rfl (O1 (A3 H0 (fun _ => rfl) rfl rfl ha0) ?_))))))
  refine O1 (Ae Dy rfl rfl rfl) (K9 Rh Dy rfl rfl (fun _ => rfl) rfl (fun _ => rfl) rfl rfl rfl rfl rfl ?_)
  refine Ab (Aa (OM rfl (O1 (Ac Da rfl rfl) (O1 (Ae Cf rfl rfl rfl) (O1 (A3 C5 (fun _ => rfl) rfl rfl (by rw [hux]; rfl : a0.text[1]? = some u1) (i := 1)) ?_)))))
  refine O1 (Ae ld9 rfl rfl rfl) (OM rfl (O1 (Fj (v := i0) (enc := iN) st9 Amx rfl hvm rfl rfl (fun te k1 k2 => Arc k1 k2)) ?_))
  refine Ab (Aa (O1 (A1 (q := 1) ok3 rfl rfl (by omega)) ?_))
  refine OM rfl (Ab ?_)
  refine ⟨hlt0, ⟨rfl, rfl, rfl, rfl, rfl, rfl, trivial⟩, by rw [An]; exact hn0, by rw [Sto.get_set, if_neg (by omega)]; exact h20, fun b hb => by rw [Sto.get_set, if_neg (by omega)]; exact hg0 b hb, m.put u1 i0, Bg.put, by rw [hf0, hd0, H4, Wn hux]⟩
 ·have hge0 : f.hyps.length <= i0 := by simpa using h1
  have hargs : H4 f.hyps 0 [] = m := by rw [hf0, List.drop_eq_nil_of_le hge0]; rfl
  subst hargs;refine Bf ?_;refine Ad (Aa (O1 (Cr (n := nx σ + 2) Tm hn0) (OA rfl (Ab (Ad ?_)))));refine Ec fun hw5 => ?_
  refine Gv 1 (anns := [aP 0 1, aR 0 1, aP 0 1, aR 0 1, aP 0 1, aR 0 1, aP 0 1, aE 0 1, aE 1 2]) A5 (Ar (l := []) trivial) (by kernel_rfl) (by kernel_rfl) ?_
  refine DF (Ac Rg rfl rfl) (DF (Ae ld9 rfl rfl rfl) (DF (Ac Uk rfl rfl) (DF (Ae Cf rfl rfl rfl) (DF (A3 C5 (fun _ => rfl) rfl rfl (by rw [htx]; rfl : f.text[0]? = some t0) (i := 0)) ?_))))
  refine DF (Ae ld9 rfl rfl rfl) (DF (Cl Aix rfl rfl) (DT (D4 (n := nx σ + 3) Tl (nx1 hn0)) (DT (A6 (ad := nx σ + 3) (off := 0) (vs := zR) (vs' := [sV f.label, sV t0, .nil (.slice none 0 0), .bool false]) (cs := [sV f.label, sV t0, .nil (.slice none 0 0), .bool false]) F6 rfl rfl rfl (by simp only [Sto.cells]; rw [Sto.get_new, if_pos (by rw [Ap, hn0])]; rfl) rfl) ?_)))
  refine Bl ?_
  refine ⟨(by intro e he; simp at he; rcases he with rfl | rfl <;> first | exact .refl | exact Th hw5), ?_⟩
  refine Ad (Ad (Aa (O1 (Ac Uk rfl rfl) (O1 (Ae Cf rfl rfl rfl) (O1 (Acp (enc := e1) C5 (fun _ => rfl) rfl rfl (by rw [htx]; simp)) ?_)))))
  refine O1 (As D0 rfl) (OM rfl (Ab ?_))
  have hinit2 : ∃ met ps vp, (((σ0.new (.map 9 [] 0)).new (.cells zR)).set (nx σ + 3) (.cells [sV f.label, sV t0, .nil (.slice none 0 0), .bool false])).get (nx σ + 3) = some (.cells [sV f.label, sV t0, vp, .bool false]) /\ Own (((σ0.new (.map 9 [] 0)).new (.cells zR)).set (nx σ + 3) (.cells [sV f.label, sV t0, .nil (.slice none 0 0), .bool false])) (nx σ + 4) ePt 3 ps vp /\ E3 (((σ0.new (.map 9 [] 0)).new (.cells zR)).set (nx σ + 3) (.cells [sV f.label, sV t0, .nil (.slice none 0 0), .bool false])) (nx σ + 2) met /\ Bg iN (((σ0.new (.map 9 [] 0)).new (.cells zR)).set (nx σ + 3) (.cells [sV f.label, sV t0, .nil (.slice none 0 0), .bool false])) (nx σ + 1) (H4 f.hyps 0 []) /\ (((σ0.new (.map 9 [] 0)).new (.cells zR)).set (nx σ + 3) (.cells [sV f.label, sV t0, .nil (.slice none 0 0), .bool false])).get (nx σ) = some (.cells zR) /\ (∀ b, b < nx σ -> (((σ0.new (.map 9 [] 0)).new (.cells zR)).set (nx σ + 3) (.cells [sV f.label, sV t0, .nil (.slice none 0 0), .bool false])).get b = σ.get b) /\ nx σ + 4 <= nx (((σ0.new (.map 9 [] 0)).new (.cells zR)).set (nx σ + 3) (.cells [sV f.label, sV t0, .nil (.slice none 0 0), .bool false])) /\ ps.length <= 0 /\ axP (H4 f.hyps 0 []) f.hyps (f.text.drop 1) [] [] = axP (H4 f.hyps 0 []) f.hyps ((f.text.drop 1).drop 0) met ps := by
   have hlo : ∀ b, b < nx σ + 2 -> (((σ0.new (.map 9 [] 0)).new (.cells zR)).set (nx σ + 3) (.cells [sV f.label, sV t0, .nil (.slice none 0 0), .bool false])).get b = σ0.get b := fun b hb => by rw [Sto.get_set, if_neg (by omega), Sto.get_new, if_neg (by rw [Ap, hn0]; omega), Sto.get_new, if_neg (by rw [hn0]; omega)]
   refine ⟨[], [], .nil (.slice none 0 0), by rw [Sto.get_set, if_pos rfl], .nil, ⟨0, ?_⟩, hm0.of_get (hlo _ (by omega)), (hlo _ (by omega)).trans h20, fun b hb => (hlo b (by omega)).trans (hg0 b hb), by rw [An, Ap, Ap, hn0]; exact nl, nl, rfl⟩
   rw [Sto.get_set, if_neg (by omega), Sto.get_new, if_neg (by rw [Ap, hn0]; omega), Sto.get_new, if_pos hn0.symm]; rfl
  refine Am ?_;refine Cg (f.text.drop 1).length (fun i2 => [(1, .pv (eF f)), (2, .pr (nx σ) 0), (4, .mp (nx σ + 1)), (7, .mp (nx σ + 2)), (8, .pr (nx σ + 3) 0), (39, slV e1 1 (f.text.drop 1)), (40, iV (.ofNat (f.text.drop 1).length)), (41, iV (.ofNat i2))]) (fun i2 σ2 => ∃ met ps vp, σ2.get (nx σ + 3) = some (.cells [sV f.label, sV t0, vp, .bool false]) /\ Own σ2 (nx σ + 4) ePt 3 ps vp /\ E3 σ2 (nx σ + 2) met /\ Bg iN σ2 (nx σ + 1) (H4 f.hyps 0 []) /\ σ2.get (nx σ) = some (.cells zR) /\ (∀ b, b < nx σ -> σ2.get b = σ.get b) /\ nx σ + 4 <= nx σ2 /\ ps.length <= i2 /\ axP (H4 f.hyps 0 []) f.hyps (f.text.drop 1) [] [] = axP (H4 f.hyps 0 []) f.hyps ((f.text.drop 1).drop i2) met ps) ⟨rfl, rfl, rfl, rfl, rfl, rfl, rfl, rfl, trivial⟩ hinit2 ?_
  rintro i2 σ2 hi2 ⟨met, ps, vp, h8, hown, hs2, hm2, h22, hg2, hn2, hpl, hf2⟩;refine Ad (Aa (O1 (Bb ok3 rfl rfl) (Ab (Ad ?_))));refine Ai rfl (fun h2 => ?_) (fun h2 => ?_)
  ·have hlt2 : i2 < (f.text.drop 1).length := by simpa using h2
   obtain ⟨a2, ha2⟩ := B3 hlt2;have hd2 := Bn ha2;obtain ⟨vm, hvm⟩ := id hs2;refine Aj (Ad (Am (Ad (Aa (O1 (A3 C5 (fun _ => rfl) rfl rfl ha2) ?_)))))
   refine O1 (Ae ld9 rfl rfl rfl) (OA rfl (Ab (Ad (Aa (OM rfl (OM rfl (O1 (Pc (enc := iN) st9 Amx rfl hm2 rfl) ?_)))))));refine OM rfl (O1 (Ao rfl rfl) (O1 (Ao rfl rfl) (OA rfl (OA rfl (Ab (Ad (Am ?_)))))));refine Ad (Aa (OM rfl (O1 (A8 rfl) (OA rfl (Ab ?_)))));refine Ai rfl (fun h3 => ?_) (fun h3 => ?_)
   ·have hna : (H4 f.hyps 0 []).get a2 = none := by simpa using h3
    have hlim : (ps.length + [(⟨a2, [], 0⟩ : Pt)].length) * (40 + 1) <= sizeLim := by have h11 := hlt2; rw [List.length_drop] at h11; simp [sizeLim]; omega
    obtain ⟨v1, τ1, hap, ho1, hb1, _⟩ := Own.app (by' := 40) (enc := ePt) (sz := 3) (fun _ => rfl) hn2 hown [(⟨a2, [], 0⟩ : Pt)] hlim
    have h8t : τ1.get (nx σ + 3) = some (.cells [sV f.label, sV t0, vp, .bool false]) := (hb1.2 _ (by omega)).trans h8
    refine Ad (Aa (O1 (Ac Iv rfl rfl) (O1 (Ae (u := .pr (nx σ + 3) 2) (cs := [vp, .bool false]) Vj rfl (by simp only [B2, Sto.cells, h8]; rfl) rfl) ?_)))
    refine OM rfl (O1 (Cl Aiz rfl rfl) (E2 (Br Nh byW rfl rfl rfl) (Gq (len := 1)) rfl rfl (O1 (B5 Nh rfl Qq rfl rfl rfl (new := ePt (⟨a2, [], 0⟩ : Pt)) rfl hap) (O1 (Ac Iv rfl rfl) (O1 (A6 (ad := nx σ + 3) (off := 2) (vs := [sV f.label, sV t0, vp, .bool false]) (vs' := [sV f.label, sV t0, v1, .bool false]) (cs := [v1]) Vj rfl rfl (Kq ho1) (by simp only [Sto.cells, h8t]) rfl) ?_)))))
    refine Ab ?_;refine Bf ?_
    refine Aa (O1 (A1 (q := 1) ok3 rfl rfl (by omega)) ?_)
    refine OM rfl (Ab ?_)
    refine ⟨hlt2, ⟨rfl, rfl, rfl, rfl, rfl, rfl, rfl, rfl, trivial⟩, met, ps ++ [(⟨a2, [], 0⟩ : Pt)], v1, by rw [Sto.get_set, if_pos rfl], ho1.mono (by rw [An]; exact nl) fun a tl _ h11 h12 _ => by rw [Sto.get_set, if_neg (by omega)], (hs2.of_get (hb1.2 _ (by omega))).set (by omega), (hm2.of_get (hb1.2 _ (by omega))).set (by omega), by rw [Sto.get_set, if_neg (by omega), hb1.2 _ (by omega)]; exact h22, fun b hb => by rw [Sto.get_set, if_neg (by omega), hb1.2 b (by omega)]; exact hg2 b hb, by rw [An]; exact Nat.le_trans hn2 hb1.1, by rw [List.length_append]; simp; omega, by rw [hf2, hd2, axP, hna]⟩
   ·obtain ⟨iA, hna⟩ : ∃ iA, (H4 f.hyps 0 []).get a2 = some iA := Option.isSome_iff_exists.1 (by simpa using h3)
    have hlA : iA < f.hyps.length := by have := Afr (l := f.hyps) (n := 0) (m := []) (fun _ _ h => by cases h) a2 iA hna; omega
    obtain ⟨hI, hIA⟩ := B3 hlA;obtain ⟨u0, u1, hux⟩ := hh hI (List.mem_of_getElem? hIA)
    rw [show ((SM.get (H4 f.hyps 0 []) a2).map iN).getD (.int .i64 0) = iN iA by rw [hna]; rfl]
    refine Ad (Aa (OM rfl (OM rfl (O1 (Dj st9 Tm rfl hs2 rfl) (OA rfl (Ab ?_))))));refine Ai rfl (fun h4 => ?_) (fun h4 => ?_)
    ·refine Ad (Aa (O1 (Cl Aix rfl rfl) (O1 (A6 (ad := nx σ) (off := 0) (vs := zR) (vs' := zR) (cs := zR) F6 rfl rfl rfl (by simp only [Sto.cells, h22]) rfl) ?_)))
     refine OA rfl (Ab ?_)
     have hF : H5 f = none := by unfold H5; rw [hf2, hd2, axP, hna]; simp only []; rw [if_pos (show met.has a2 = true from h4)]
     refine Ak ?_
     exact ⟨[.agg zR, .bool false], Cc F6 rfl (by simp only [Sto.cells]; rw [Sto.get_set, if_pos rfl]) rfl (Fe rfl rfl), axV none, σ, Aw.below hw ⟨by rw [An]; omega, fun b hb => by rw [Sto.get_set, if_neg (by omega)]; exact hg2 b hb⟩, nl, .tup (.cons (.agg (.cons (.same rfl) (.cons (.same rfl) (.cons C7 (.cons (.same rfl) .nil))))) (.cons (.same rfl) .nil)), by rw [hF], rfl⟩
    ·have hown' : Own (σ2.set (nx σ + 2) (.map 9 (Ct bV (met.put a2 true)) (vm + 1))) (nx σ + 4) ePt 3 ps vp := hown.mono (by rw [An]; exact nl) fun a tl _ h11 h12 _ => by rw [Sto.get_set, if_neg (by omega)]
     have h8' : (σ2.set (nx σ + 2) (.map 9 (Ct bV (met.put a2 true)) (vm + 1))).get (nx σ + 3) = some (.cells [sV f.label, sV t0, vp, .bool false]) := by rw [Sto.get_set, if_neg (by omega)]; exact h8
     have hlim : (ps.length + [(⟨[], u0, Int.ofNat iA⟩ : Pt)].length) * (40 + 1) <= sizeLim := by have h11 := hlt2; rw [List.length_drop] at h11; simp [sizeLim]; omega
     obtain ⟨v1, τ1, hap, ho1, hb1, _⟩ := Own.app (by' := 40) (enc := ePt) (sz := 3) (fun _ => rfl) (by rw [An]; exact hn2) hown' [(⟨[], u0, Int.ofNat iA⟩ : Pt)] hlim
     have h8t : τ1.get (nx σ + 3) = some (.cells [sV f.label, sV t0, vp, .bool false]) := (hb1.2 _ (by omega)).trans h8'
     refine Aj (Ad (Aa (OM rfl (OM rfl (O1 (Fj (v := true) st9 Tm rfl hvm rfl rfl (fun te k1 k2 => by first | exact G2 k1 k2 | exact G3 k1 k2 | exact Hu k1 k2 | exact Hv k1 k2 | exact Gj k1 k2 rfl)) ?_)))))
     refine Ab ?_
     refine Cq (anns := [aP 0 0, aR 0 0, aP 0 0, aR 0 0, aP 0 0, aP 0 0, aP 0 0, aR 0 0, aP 0 0, aR 0 0, aP 0 0, aP 0 0, aP 0 0, aE 0 1, aP 1 1, aE 1 2]) A5 (Ar (l := []) trivial) (by kernel_rfl) (by kernel_rfl) ?_
     refine DF (Ac Iv rfl rfl) (DF (Ae (u := .pr (nx σ + 3) 2) (cs := [vp, .bool false]) Vj rfl (by simp only [B2, Sto.cells, h8']; rfl) rfl) ?_)
     refine DF (Ac G4 rfl rfl) (DF (Ae Kk rfl rfl rfl) (DF (Ag rfl) (DF (A3 H0 (fun _ => rfl) rfl rfl hIA) ?_)))
     refine DF (Ac Da rfl rfl) (DF (Ae Cf rfl rfl rfl) (DF (A3 C5 (fun _ => rfl) rfl rfl (by rw [hux]; rfl : hI.text[0]? = some u0) (i := 0)) ?_))
     refine DF (Ae ld9 rfl rfl rfl) (DF (Ag rfl) (DF (Cl Aiz rfl rfl) (DF (Br Nh byW rfl rfl rfl) (DT (B5 Nh rfl Qq rfl rfl rfl (new := ePt (⟨[], u0, Int.ofNat iA⟩ : Pt)) rfl hap) (DF (Ac Iv rfl rfl) (DT (A6 (ad := nx σ + 3) (off := 2) (vs := [sV f.label, sV t0, vp, .bool false]) (vs' := [sV f.label, sV t0, v1, .bool false]) (cs := [v1]) Vj rfl rfl (Kq ho1) (by simp only [Sto.cells, h8t]) rfl) ?_))))))
     refine Bl (Aa (O1 (A1 (q := 1) ok3 rfl rfl (by omega)) ?_))
     refine OM rfl (Ab ?_)
     refine ⟨hlt2, ⟨rfl, rfl, rfl, rfl, rfl, rfl, rfl, rfl, trivial⟩, met.put a2 true, ps ++ [(⟨[], u0, Int.ofNat iA⟩ : Pt)], v1, by rw [Sto.get_set, if_pos rfl], ho1.mono (by rw [An]; exact nl) fun a tl _ h11 h12 _ => by rw [Sto.get_set, if_neg (by omega)], Bg.set (Bg.of_get Bg.put (hb1.2 _ (by omega))) (by omega), Bg.set (Bg.of_get (hm2.set (by omega)) (hb1.2 _ (by omega))) (by omega), by rw [Sto.get_set, if_neg (by omega), hb1.2 _ (by omega), Sto.get_set, if_neg (by omega)]; exact h22, fun b hb => by rw [Sto.get_set, if_neg (by omega), hb1.2 b (by omega), Sto.get_set, if_neg (by omega)]; exact hg2 b hb, by rw [An]; exact Nat.le_trans (by rw [An]; exact hn2) hb1.1, by rw [List.length_append]; simp; omega, by rw [hf2, hd2, axP, hna]; simp only []; rw [if_neg (by rw [show met.has a2 = false from h4]; simp), Anj, hIA]; simp only [hux]; rfl⟩
  ·have hge2 : (f.text.drop 1).length <= i2 := by simpa using h2
   have hax : axP (H4 f.hyps 0 []) f.hyps (f.text.drop 1) [] [] = some ps := by rw [hf2, List.drop_eq_nil_of_le hge2]; rfl
   refine Bf ?_
   refine Ad (Aa (O1 (Ae (u := .pr (nx σ + 3) 0) (cs := [sV f.label, sV t0, vp, .bool false]) F6 rfl (by simp only [B2, Sto.cells, h8]; rfl) rfl) ?_))
   refine O1 (A6 (ad := nx σ) (off := 0) (vs := zR) (vs' := [sV f.label, sV t0, vp, .bool false]) (cs := [sV f.label, sV t0, vp, .bool false]) F6 rfl rfl rfl (by simp only [Sto.cells, h22]) rfl) ?_
   refine OA rfl (Ab ?_)
   have hF : H5 f = some ⟨f.label, t0, ps, false⟩ := by unfold H5; rw [hax]; simp only [htx]; rfl
   refine Ak ?_
   exact ⟨[.agg [sV f.label, sV t0, vp, .bool false], .bool true], Cc F6 rfl (by simp only [Sto.cells]; rw [Sto.get_set, if_pos rfl]) rfl (Fe rfl rfl), axV (some ⟨f.label, t0, ps, false⟩), σ, Aw.below hw ⟨by rw [An]; omega, fun b hb => by rw [Sto.get_set, if_neg (by omega)]; exact hg2 b hb⟩, nl, .tup (.cons (.agg (.cons (.same rfl) (.cons (.same rfl) (.cons (hown.mono (by rw [An]; exact nl) (fun a tl _ h11 h12 _ => by rw [Sto.get_set, if_neg (by omega)]) |>.fz (fun _ => rfl) (fun a ha => hw.none (by omega)) (Ce Y1 _)) (.cons (.same rfl) .nil))))) (.cons (.same rfl) .nil)), by rw [hF], rfl⟩
theorem f78r (l : List Str) (s : Str) (a : Nat) (tl : List AV) (σ : Sto) (hg : σ.get a = some (.cells (l.flatMap e1 ++ tl))) (hb : l.length < 1000000) : Ah Ew 78 [.sr a 0 1 l.length none, sV s] σ fun v σ' => v = iV (Bk (fun x => decide (s = x)) l 0) /\ σ' = σ := by
 refine A2 Tryz.func78 rfl rfl fun hw hu0 => ?_
 refine Ad (Aa (OA rfl (Ab (Ad (Ad (Aa (OM rfl ?_)))))));refine O1 (Fd D0 rfl rfl rfl) (OM rfl (Ab (Am ?_)));refine Cg l.length (fun i0 => [(0, .sr a 0 1 l.length none), (1, sV s), (7, iV (.ofNat l.length)), (8, iV (.ofNat i0))]) (fun i0 σ0 => σ0 = σ /\ Bk (fun x => decide (s = x)) l 0 = Bk (fun x => decide (s = x)) (l.drop i0) i0) ⟨rfl, rfl, rfl, rfl, trivial⟩ ⟨rfl, rfl⟩ ?_
 rintro i0 σ0 hi0 ⟨rfl, hf0⟩;refine Ad (Aa (O1 (Bb ok3 rfl rfl) (Ab (Ad ?_))));refine Ai rfl (fun h1 => ?_) (fun h1 => ?_)
 ·have hlt0 : i0 < l.length := by simpa using h1
  obtain ⟨a0, ha0⟩ := B3 hlt0;have hd0 := Bn ha0;refine Aj (Ad (Am (Ad (Aa (OM rfl (OA rfl (Ab ?_)))))));refine Ad (Aa (OM rfl (OM rfl (OM rfl (O1 (Hw C5 rfl rfl hlt0) (O1 (Uh (enc := e1) (v := sV a0) (fun _ => rfl) ld9 rfl hg ha0 (fun _ => rfl)) ?_))))))
  refine O1 (Hr ok9 rfl rfl) (Ab ?_);refine Ai rfl (fun h2 => ?_) (fun h2 => ?_)
  ·refine Ad (Aa (OM rfl (OA rfl (Ab ?_))));refine Ak (Bw hw rfl ?_)
   exact (by rw [hf0, hd0]; simp only [Bk, show decide (s = a0) = true from h2, cond_true]; rfl)
  ·refine Aj (Aa (O1 (A1 (q := 1) ok3 rfl rfl (by omega)) ?_))
   refine OM rfl (Ab ?_)
   refine ⟨hlt0, ⟨rfl, rfl, rfl, rfl, trivial⟩, rfl, by rw [hf0, hd0]; simp only [Bk, show decide (s = a0) = false from h2, cond_false]⟩
 ·have hge0 : l.length <= i0 := by simpa using h1
  refine Bf ?_;refine Ad (Aa (OA rfl (Ab ?_)));refine Ak (Bw hw rfl ?_)
  exact (by rw [hf0, List.drop_eq_nil_of_le hge0]; rfl)
theorem f30r (l : List Str) (s : Str) (a : Nat) (tl : List AV) (σ : Sto) (hg : σ.get a = some (.cells (l.flatMap e1 ++ tl))) (hb : l.length < 1000000) : Ah Ew 30 [.sr a 0 1 l.length none, sV s] σ fun v σ' => v = .bool (l.any fun x => decide (s = x)) /\ σ' = σ := by
 refine A2 Tryz.func30 rfl rfl fun hw hu0 => ?_
 refine Ad (Aa (OA rfl (Ab (Ad (Aa (OM rfl (OM rfl ?_)))))));refine Aq rfl rfl rfl rfl (f78r l s a tl _ hg hb) (O1 (Gi (q := 0) ok3 rfl rfl) (OA rfl (Ab ?_)));refine Ak (Bw hw rfl ?_);exact congrArg AV.bool (E1 l)
theorem f30w {N : Nat} (l : List Str) (s : Str) (v : AV) (σ : Sto) (h : Own σ N e1 1 l v) (hb : l.length < 1000000) : Ah Ew 30 [v, sV s] σ fun u σ' => u = .bool (l.any fun x => decide (s = x)) /\ σ' = σ := by
 rcases h with ⟨rfl, rfl | rfl⟩ | ⟨a, tl, _, _, rfl, hg⟩
 ·exact (f30 [] s σ (by simp)).wk (.cons X5 .refl)
 ·exact (f30 [] s σ (by simp)).wk (.cons Gq .refl)
 ·exact f30r l s a tl σ hg hb
def H6 (l : List Hp) (m : SM Hp) : SM Hp := l.foldl (fun m h => m.put (txv h) h) m
theorem Abb : ∀ {l : List Hp} {m : SM Hp} {v : Str}, (∃ h ∈ l, txv h = v) -> ∃ h ∈ l, (H6 l m).get v = some h /\ txv h = v
 | [], _, _, ⟨_, h, _⟩ => by cases h
 | x :: l, m, v, hx => by
  by_cases hl : ∃ h ∈ l, txv h = v
  ·obtain ⟨h, h1, h2⟩ := Abb (m := m.put (txv x) x) hl;exact ⟨h, List.mem_cons_of_mem _ h1, h2⟩
  ·obtain ⟨h, hm, e⟩ := hx
   rcases List.mem_cons.1 hm with rfl | hm
   ·refine ⟨h, List.mem_cons_self .., ?_, e⟩
    show (H6 l (m.put (txv h) h)).get v = some h
    have key : ∀ {l : List Hp} {m : SM Hp}, (∀ y ∈ l, txv y ≠ v) -> (H6 l m).get v = m.get v := by
     intro l
     induction l with
     | nil => intro m _; rfl
     | cons y l ih =>
      intro m hy
      show (H6 l (m.put (txv y) y)).get v = _
      rw [ih (fun z hz => hy z (List.mem_cons_of_mem _ hz)), SM.get_put, if_neg (Ne.symm (hy y (List.mem_cons_self ..)))]
    rw [key (fun y hy e => hl ⟨y, hy, e⟩), SM.get_put, if_pos e.symm]
   ·exact absurd ⟨h, hm, e⟩ hl
def zG : Gr := ⟨[], []⟩
def Adh (g : Gr) (t0 : Str) : List Str := if (!(g.sorts.any fun x => decide (t0 = x))) = true then g.sorts ++ [t0] else g.sorts
def varG (h : Hp) (v : Str) (g : Gr) : Gr := ⟨Adh g (h.text.headD []), g.rules ++ [⟨h.label, h.text.headD [], [⟨v, [], 0⟩], true⟩]⟩
def Om (hy : SM Hp) : List Str -> Gr -> Option Gr
 | [], g => some g
 | v :: r, g => match hy.get v with
  | none => none
  | some h => if decide (h.text.headD [] = [124, 45]) = true then none else Om hy r (varG h v g)
def Abc (f : Fr) (g : Gr) : Bool := (f.thm || f.hyps.any (fun h => !h.floating)) || !(g.sorts.any fun x => decide (f.text.headD [] = x))
def Gz : List Fr -> Gr -> Option Gr
 | [], g => some g
 | f :: r, g => if Abc f g = true then Gz r g else match H5 f with
  | none => none
  | some rl => Gz r ⟨g.sorts, g.rules ++ [rl]⟩
def ofF (d : Db) : Gr × Int :=
 if (!decide (Eg d = 0)) = true then (zG, Eg d)
 else match Om (H6 (B7 d) []) d.vars zG with
  | none => (zG, 11)
  | some g => match Gz d.frames g with
   | none => (zG, 150)
   | some g => if (!decide (Nc g = 0)) = true then (zG, 4) else (g, 0)
def eRg (r : Rl) : List AV := [sV r.label, sV r.sort, .sv (r.parts.flatMap ePt) 3 r.parts.length (if r.var = true then some 1 else none), .bool r.var]
theorem Ard {σ τ : Sto} (r : Rl) : FzL σ τ (eRg r) (eR r) := .cons (.same rfl) (.cons (.same rfl) (.cons (.sv (fun q h => by cases h) (.same (Ce Y1 _))) (.cons (.same rfl) .nil)))
theorem Ahm {f : Fr} {r : Rl} (h : H5 f = some r) : r.var = false := by
 unfold H5 at h
 split at h
 ·cases h
 ·cases h; rfl
theorem Are {r : Rl} (h : r.var = false) : eRg r = eR r := by unfold eRg eR slV; rw [h]; rfl
theorem Adi {args : SM Nat} {hyps : List Hp} : ∀ {l : List Str} {met : SM Bool} {ps q : List Pt}, axP args hyps l met ps = some q -> q.length = ps.length + l.length
 | [], _, ps, q, h => by cases h; rfl
 | s :: l, met, ps, q, h => by
  unfold axP at h
  split at h
  ·have := Adi h; rw [this, List.length_append]; simp; omega
  ·split at h
   ·cases h
   ·have := Adi h; rw [this, List.length_append]; simp; omega
theorem Ahn {f : Fr} {r : Rl} (h : H5 f = some r) : r.parts.length <= f.text.length := by
 unfold H5 at h
 split at h
 ·cases h
 ·rename_i ps hp; cases h
  have := Adi hp
  show ps.length <= _
  rw [this]; simp
theorem Afs {pw : Str -> Bool} {k : Kn} {f : Fr} {before : List Hp} (h : Fb pw k f before = 0) : ∃ t0 tl, f.text = t0 :: tl := by
 have ht : (k.fr f.label).textF f.text = 0 := by
  unfold Fb at h
  split at h
  ·cases h
  ·split at h
   ·cases h
   ·split at h
    ·cases h
    ·split at h
     ·rename_i hc; rw [h] at hc; exact absurd hc (by decide)
     ·split at h
      ·exact h
      ·rename_i hc; simpa using hc
 cases hx : f.text with
 | nil => unfold Kn.textF at ht; rw [hx] at ht; simp at ht
 | cons a l => exact ⟨a, l, rfl⟩
theorem Aho {pw : Str -> Bool} {d : Db} (h : Fc pw d = 0) {f : Fr} (hf : f ∈ d.frames) : ∃ t0 tl, f.text = t0 :: tl := by
 obtain ⟨k', be', _, h2⟩ := Rq (Afm h) f hf;exact Afs h2
theorem Ak5 {d : Db} (h : Eg d = 0) : Fc Ep d = 0 /\ (∀ x ∈ B7 d, ∃ a b, x.text = [a, b]) /\ ∀ v ∈ d.vars, ∃ x ∈ B7 d, txv x = v := by
 unfold Eg at h
 split at h
 ·rename_i hc
  split at h
  ·rename_i ho
   obtain ⟨l, hl⟩ := Option.isSome_iff_exists.1 ho
   have e : B7 d = l := by unfold B7; rw [if_pos hc, hl]; rfl
   rw [e];exact ⟨hc, Afo hc hl⟩
  ·cases h
 ·rename_i hc; exact absurd h hc
theorem Aft {vars : List Str} {s : Ord} : ∀ {n : Nat} {done : SM Bool} {out l : List Hp}, Um vars s n done out = some l -> l.length = out.length + n
 | 0, _, _, _, e => by cases e; rfl
 | n + 1, done, out, l, e => by
  unfold Um at e
  split at e
  ·cases e
  ·split at e
   ·cases e
   ·rw [Aft e, List.length_append]; simp; omega
theorem Afu (d : Db) : (B7 d).length <= d.vars.length := by
 unfold B7
 split
 ·cases ho : Eo d with
  | none => simp
  | some l =>
   show l.length <= _
   unfold Eo at ho
   split at ho
   ·split at ho
    ·cases ho; simp
    ·cases ho
   ·split at ho
    ·cases ho
    ·rw [Aft ho]; simp
 ·simp
def H9 : List AV := [.nil (.slice none 0 0), .nil (.slice none 0 0)]
structure GSt (σ τ : Sto) (hy : SM Hp) (g : Gr) (vS vR : AV) : Prop where
 n : nx σ + 3 <= nx τ
 g0 : ∀ b, b < nx σ -> τ.get b = σ.get b
 t : τ.get (nx σ) = some (.cells H9)
 m : Bg hV τ (nx σ + 1) hy
 c : τ.get (nx σ + 2) = some (.cells [vS, vR])
 s : Own τ (nx σ + 3) e1 1 g.sorts vS
 r : Own τ (nx σ + 3) eRg 4 g.rules vR
 d : ∀ a b x y, vS = .sr a 0 1 x none -> vR = .sr b 0 4 y none -> a ≠ b
theorem Adj {σ : Sto} {N sz a : Nat} {α : Type} {enc : α -> List AV} {l : List α} {v : AV} (h : Own σ N enc sz l v) {n : Nat} (e : v = .sr a 0 sz n none) : N <= a /\ a < nx σ := by
 rcases h with ⟨_, rfl | rfl⟩ | ⟨b, tl, h1, h2, h3, _⟩
 ·cases e
 ·cases e
 ·rw [h3] at e; cases e; exact ⟨h1, h2⟩
theorem GSt.addS {σ τ : Sto} {hy : SM Hp} {g : Gr} {vS vR : AV} (h : GSt σ τ hy g vS vR) (t0 : Str) (hlim : (g.sorts.length + 1) * (16 + 1) <= sizeLim) :
  ∃ σ1 v1, Cj τ 1 16 vS 1 (e1 t0) = some (v1, σ1) /\ v1.cellsN 1 = some [v1] /\ σ1.get (nx σ + 2) = some (.cells [vS, vR]) /\ GSt σ (σ1.set (nx σ + 2) (.cells [v1, vR])) hy ⟨g.sorts ++ [t0], g.rules⟩ v1 vR := by
 have hn := h.n
 obtain ⟨σ1, h1, h2, h3, h4, h5⟩ := Own.app1 (sz := 1) (enc := e1) (by' := 16) (fun _ => rfl) (show nx σ + 3 <= nx τ from hn) h.s t0 hlim
 have lo : ∀ b, b < nx σ + 3 -> σ1.get b = τ.get b := fun b hb => h5 b (by omega) fun c hc e => by have := (Adj h.s hc).1; omega
 refine ⟨σ1, _, h1, rfl, (lo _ (by omega)).trans h.c, ⟨by rw [An, h3]; omega, fun b hb => by rw [Sto.get_set, if_neg (by omega), lo b (by omega)]; exact h.g0 b hb, by rw [Sto.get_set, if_neg (by omega), lo _ (by omega)]; exact h.t, (h.m.of_get (lo _ (by omega))).set (by omega), by rw [Sto.get_set, if_pos rfl], h4.mono (by rw [An]; exact nl) fun a tl _ k1 _ _ => by rw [Sto.get_set, if_neg (by omega)], ?_, fun a b x y e1' e2 => ?_⟩⟩
 ·refine h.r.mono (by rw [An, h3]; omega) fun a tl hv k1 k2 _ => ?_
  rw [Sto.get_set, if_neg (by omega)]
  exact h5 a k2 fun c hc e => h.d c a _ _ hc hv e.symm
 ·cases e1';have := (Adj h.r e2).2;omega
theorem GSt.addR {σ τ : Sto} {hy : SM Hp} {g : Gr} {vS vR : AV} (h : GSt σ τ hy g vS vR) (r : Rl) (hlim : (g.rules.length + 1) * (64 + 1) <= sizeLim) :
  ∃ σ1 v1, Cj τ 4 64 vR 1 (eRg r) = some (v1, σ1) /\ v1.cellsN 1 = some [v1] /\ σ1.get (nx σ + 2) = some (.cells [vS, vR]) /\ GSt σ (σ1.set (nx σ + 2) (.cells [vS, v1])) hy ⟨g.sorts, g.rules ++ [r]⟩ vS v1 := by
 have hn := h.n
 obtain ⟨σ1, h1, h2, h3, h4, h5⟩ := Own.app1 (sz := 4) (enc := eRg) (by' := 64) (fun _ => rfl) (show nx σ + 3 <= nx τ from hn) h.r r hlim
 have lo : ∀ b, b < nx σ + 3 -> σ1.get b = τ.get b := fun b hb => h5 b (by omega) fun c hc e => by have := (Adj h.r hc).1; omega
 refine ⟨σ1, _, h1, rfl, (lo _ (by omega)).trans h.c, ⟨by rw [An, h3]; omega, fun b hb => by rw [Sto.get_set, if_neg (by omega), lo b (by omega)]; exact h.g0 b hb, by rw [Sto.get_set, if_neg (by omega), lo _ (by omega)]; exact h.t, (h.m.of_get (lo _ (by omega))).set (by omega), by rw [Sto.get_set, if_pos rfl], ?_, h4.mono (by rw [An]; exact nl) fun a tl _ k1 _ _ => by rw [Sto.get_set, if_neg (by omega)], fun a b x y e1' e2 => ?_⟩⟩
 ·refine h.s.mono (by rw [An, h3]; omega) fun a tl hv k1 k2 _ => ?_
  rw [Sto.get_set, if_neg (by omega)]
  exact h5 a k2 fun c hc e => h.d a c _ _ hv hc e
 ·cases e2;have := (Adj h.s e1').2;omega
theorem Z0 {pw : Str -> Bool} {d : Db} (h : Fc pw d = 0) {f : Fr} (hf : f ∈ d.frames) (ha : (f.hyps.any fun h => !h.floating) = false) : ∀ x ∈ f.hyps, ∃ a b, x.text = [a, b] := fun x hx => by
 refine ((Tw h hf).1 x (by simp [Fr.all, hx]) ?_).1
 have := List.any_eq_false.1 ha x hx
 simpa using this
theorem Arf (o : Option Rl) : axV o = .tup [.agg (eR (o.getD ⟨[], [], [], false⟩)), .bool o.isSome] := by cases o <;> rfl
theorem Ank {N : Nat} (g : Gr) (i : Int) : AV.und N (.tup [grV g, iV i]) = true := by
 show ((AV.und N (A9 g.sorts) && (AV.und N (slV eR 4 g.rules) && true)) && (true && true)) = true
 rw [show AV.und N (A9 g.sorts) = true from Jo Na _, Jo Adg]; rfl
theorem Anl {σ : Sto} (hw : WFS σ) : WFS (σ.new (.cells H9)) := hw.new rfl trivial
theorem f138g (f : Fr) (σ : Sto) (t0 : Str) (hB : FrB f) (htx : ∃ tl, f.text = t0 :: tl) (hh : ∀ h ∈ f.hyps, ∃ a b, h.text = [a, b]) : Ah Ew 138 [.agg (eF f)] σ fun v σ' => v = .tup [.agg (eR ((H5 f).getD ⟨[], [], [], false⟩)), .bool (H5 f).isSome] /\ σ' = σ := by
 rw [← Arf]; exact f138 f σ t0 hB htx hh
theorem f99 (d : Db) (σ : Sto) (hB : DbB d) (hvf : d.vars.length + d.frames.length < 1000000) : Ah Ew 99 [dbV d] σ fun v σ' => v = .tup [grV (ofF d).1, iV (ofF d).2] /\ σ' = σ := by
 refine A2 Tryz.func99 rfl rfl fun hw hu0 => ?_
 refine Ad (Aa (Ax Ki rfl rfl rfl (O1 (Dt zi89) (OA rfl (Ab (Ad (Aa ?_)))))));refine O1 (Ae Ki rfl rfl rfl) (Aq rfl rfl rfl rfl (f136 d _ hB) (OM rfl (O1 (Ao rfl rfl) (O1 (Ao rfl rfl) (OA rfl (OA rfl (Ab ?_)))))));refine Ad (Ad (Aa (OM rfl (O1 (C9 (q := 0) Jp rfl rfl) (Ab ?_)))));refine Ai rfl (fun h1 => ?_) (fun h1 => ?_)
 ·refine Ad (Aa (O1 (Cl Amq rfl rfl) (OM rfl (O1 (A6 (ad := nx σ) (off := 0) (vs := H9) (vs' := H9) (cs := H9) L6 rfl rfl rfl (by simp only [Sto.cells]; rw [Sto.get_new, if_pos rfl]; rfl) rfl) ?_))))
  refine OA rfl (Ab ?_);have hF : ofF d = (zG, Eg d) := if_pos h1;refine Ak ?_
  exact ⟨[.agg H9, iV (Eg d)], Cc L6 rfl (by simp only [Sto.cells]; rw [Sto.get_set, if_pos rfl]) rfl (Fe rfl rfl), .tup [grV zG, iV (Eg d)], σ, Aw.below hw ⟨by rw [An, Ap]; omega, fun b hb => by rw [Sto.get_set, if_neg (by omega), Sto.get_new, if_neg (by omega)]⟩, nl, .tup (.cons (.agg (.cons C7 (.cons C7 .nil))) (.cons (.same rfl) .nil)), by rw [hF], rfl⟩
 ·have he0 : Eg d = 0 := by simpa using h1
  obtain ⟨hok, hall, hcov⟩ := Ak5 he0;have hfl := Afu d;have hbv := hB.v;have hbn := hB.n;refine Aj (Ad (Aa (O1 (Cr (n := nx σ + 1) Og (nx1 rfl)) (OA rfl (Ab (Ad (Ad ?_)))))));refine Aa (OM rfl (O1 (As Fs rfl) (OM rfl (Ab (Am ?_)))))
  refine Cg (B7 d).length (fun i0 => [(1, .pv [A9 d.consts, A9 d.vars, slV eF 8 d.frames]), (2, .pr (nx σ) 0), (6, .mp (nx σ + 1)), (28, slV eH 3 (B7 d)), (29, iV (.ofNat (B7 d).length)), (30, iV (.ofNat i0))]) (fun i0 σ0 => nx σ0 = nx σ + 2 /\ σ0.get (nx σ) = some (.cells H9) /\ (∀ b, b < nx σ -> σ0.get b = σ.get b) /\ ∃ m, Bg hV σ0 (nx σ + 1) m /\ (H6 (B7 d) []) = H6 ((B7 d).drop i0) m) ⟨rfl, rfl, rfl, rfl, rfl, rfl, trivial⟩ ⟨by rw [Ap, Ap], by rw [Sto.get_new, if_neg (by rw [Ap]; omega), Sto.get_new, if_pos rfl]; rfl, fun b hb => by rw [Sto.get_new, if_neg (by rw [Ap]; omega), Sto.get_new, if_neg (by omega)], [], ⟨0, by rw [Sto.get_new, if_pos (by rw [Ap])]; rfl⟩, rfl⟩ ?_
  rintro i0 σ0 hi0 ⟨hn0, h20, hg0, m, hm0, hf0⟩;refine Ad (Aa (O1 (Bb ok3 rfl rfl) (Ab (Ad ?_))));refine Ai rfl (fun h2 => ?_) (fun h2 => ?_)
  ·have hlt0 : i0 < (B7 d).length := by simpa using h2
   obtain ⟨a0, ha0⟩ := B3 hlt0;have hd0 := Bn ha0;obtain ⟨u0, u1, hux⟩ := hall a0 (List.mem_of_getElem? ha0);obtain ⟨vm, hvm⟩ := id hm0;refine Aj (Ad (Am (Ad (Aa (O1 (A3 H0 (fun _ => rfl) rfl rfl ha0) ?_)))))
   refine O1 (Ae Dy rfl rfl rfl) (B6 Rh Dy rfl (fun _ => rfl) rfl rfl rfl rfl ?_)
   refine Ab ?_
   refine Cq (anns := [aP 0 0, aP 0 0, aR 0 0, aP 0 0, aR 0 0, aR 0 0, aE 0 1]) A5 (Ar (l := []) trivial) (by kernel_rfl) (by kernel_rfl) ?_
   refine DF (Ag rfl) (DF (Ac Da rfl rfl) (DF (Ae Cf rfl rfl rfl) (DF (A3 C5 (fun _ => rfl) rfl rfl (by rw [hux]; rfl : a0.text[1]? = some u1) (i := 1)) ?_)))
   refine DF (Ae ld9 rfl rfl rfl) (DF (Ae Dy rfl rfl rfl) (DT (Fj (v := a0) st9 Og rfl hvm rfl rfl (fun te k1 k2 => by first | exact G2 k1 k2 | exact G3 k1 k2 | exact Hu k1 k2 | exact Hv k1 k2 | exact Gj k1 k2 rfl)) ?_))
   refine Bl (Aa (O1 (A1 (q := 1) ok3 rfl rfl (by omega)) ?_))
   refine OM rfl (Ab ?_)
   refine ⟨hlt0, ⟨rfl, rfl, rfl, rfl, rfl, rfl, trivial⟩, by rw [An]; exact hn0, by rw [Sto.get_set, if_neg (by omega)]; exact h20, fun b hb => by rw [Sto.get_set, if_neg (by omega)]; exact hg0 b hb, m.put u1 a0, Bg.put, by rw [hf0, hd0]; show H6 _ (m.put (txv a0) a0) = _; rw [Wn hux]⟩
  ·have hge0 : (B7 d).length <= i0 := by simpa using h2
   have hargs : (H6 (B7 d) []) = m := by rw [hf0, List.drop_eq_nil_of_le hge0]; rfl
   rw [← hargs] at hm0;refine Bf ?_
   refine Ad (Aa (O1 (Cl Amq rfl rfl) (O1 (D4 (n := nx σ + 2) zi89 hn0) (O1 (A6 (ad := nx σ + 2) (off := 0) (vs := H9) (vs' := H9) (cs := H9) L6 rfl rfl rfl (by simp only [Sto.cells]; rw [Sto.get_new, if_pos hn0.symm]; rfl) rfl) ?_))))
   refine Ab (Ad (Ad (Aa (O1 (Ac Od rfl rfl) (O1 (Ae Cf rfl rfl rfl) (O1 (As D0 rfl) (OM rfl ?_)))))));refine Ab ?_
   have hinit2 : ∃ g vS vR, GSt σ ((σ0.new (.cells H9)).set (nx σ + 2) (.cells H9)) (H6 (B7 d) []) g vS vR /\ g.sorts.length <= 0 /\ g.rules.length <= 0 /\ (∀ r ∈ g.rules, r.parts.length < 1000000) /\ Om (H6 (B7 d) []) d.vars zG = Om (H6 (B7 d) []) (d.vars.drop 0) g := by
    have hlo : ∀ b, b < nx σ + 2 -> ((σ0.new (.cells H9)).set (nx σ + 2) (.cells H9)).get b = σ0.get b := fun b hb => by rw [Sto.get_set, if_neg (by omega), Sto.get_new, if_neg (by omega)]
    exact ⟨zG, .nil (.slice none 0 0), .nil (.slice none 0 0), ⟨by rw [An, Ap, hn0]; exact nl, fun b hb => (hlo b (by omega)).trans (hg0 b hb), (hlo _ (by omega)).trans h20, hm0.of_get (hlo _ (by omega)), by rw [Sto.get_set, if_pos rfl]; rfl, .nil, .nil, fun a b x y e1 _ => by cases e1⟩, nl, nl, fun r hr => (by cases hr), rfl⟩
   refine Am ?_;refine Cg d.vars.length (fun i2 => [(1, .pv [A9 d.consts, A9 d.vars, slV eF 8 d.frames]), (2, .pr (nx σ) 0), (6, .mp (nx σ + 1)), (9, .pr (nx σ + 2) 0), (43, A9 d.vars), (44, iV (.ofNat d.vars.length)), (45, iV (.ofNat i2))]) (fun i2 σ2 => ∃ g vS vR, GSt σ σ2 (H6 (B7 d) []) g vS vR /\ g.sorts.length <= i2 /\ g.rules.length <= i2 /\ (∀ r ∈ g.rules, r.parts.length < 1000000) /\ Om (H6 (B7 d) []) d.vars zG = Om (H6 (B7 d) []) (d.vars.drop i2) g) ⟨rfl, rfl, rfl, rfl, rfl, rfl, rfl, trivial⟩ hinit2 ?_
   rintro i2 σ2 hi2 ⟨g, vS, vR, hG2, hsl, hrl, hpl, hf2⟩;refine Ad (Aa (O1 (Bb ok3 rfl rfl) (Ab (Ad ?_))));refine Ai rfl (fun h3 => ?_) (fun h3 => ?_)
   ·have hlt2 : i2 < d.vars.length := by simpa using h3
    obtain ⟨a2, ha2⟩ := B3 hlt2;have hd2 := Bn ha2;obtain ⟨x2, hx2, hxv⟩ := hcov a2 (List.mem_of_getElem? ha2);obtain ⟨hh, hhm, hhg, hhv⟩ := Abb (m := []) ⟨x2, hx2, hxv⟩;obtain ⟨u0, u1, hux⟩ := hall hh hhm
    have hu : hh.text.headD [] = u0 := by rw [hux]; rfl
    refine Aj (Ad (Am (Ad (Aa (O1 (A3 C5 (fun _ => rfl) rfl rfl ha2) ?_)))))
    refine O1 (Ae ld9 rfl rfl rfl) (OA rfl (Ab (Ad (Aa (OM rfl (OM rfl (O1 (Kp st9 Og rfl hG2.m rfl hhg) ?_)))))));refine B6 Rh Dy rfl (fun _ => rfl) rfl rfl rfl rfl ?_
    refine Ab (Ad (Ad (Aa (O1 (Ac Da rfl rfl) (O1 (Ae Cf rfl rfl rfl) (O1 (A3 C5 (fun _ => rfl) rfl rfl (by rw [hux]; rfl : hh.text[0]? = some u0) (i := 0)) ?_))))))
    refine O1 (Ae ld9 rfl rfl rfl) (O1 (Hr (q := [124, 45]) ok9 rfl rfl) (Ab ?_));refine Ai rfl (fun h4 => ?_) (fun h4 => ?_)
    ·refine Ad (Aa (O1 (Cl Amq rfl rfl) (O1 (A6 (ad := nx σ) (off := 0) (vs := H9) (vs' := H9) (cs := H9) L6 rfl rfl rfl (by simp only [Sto.cells, hG2.t]) rfl) ?_)))
     refine OA rfl (Ab ?_)
     have hv0 : Om (H6 (B7 d) []) d.vars zG = none := by rw [hf2, hd2, Om, hhg]; simp only [hu]; exact if_pos h4
     have hF : ofF d = (zG, 11) := (if_neg (fun hc => Bool.noConfusion (h1.symm.trans hc))).trans (by rw [hv0])
     refine Ak ?_
     exact ⟨[.agg H9, iV (11)], Cc L6 rfl (by simp only [Sto.cells]; rw [Sto.get_set, if_pos rfl]) rfl (Fe rfl rfl), .tup [grV zG, iV (11)], σ, Aw.below hw ⟨by rw [An]; have := hG2.n; omega, fun b hb => by rw [Sto.get_set, if_neg (by omega)]; exact hG2.g0 b hb⟩, nl, .tup (.cons (.agg (.cons C7 (.cons C7 .nil))) (.cons (.same rfl) .nil)), by rw [hF], rfl⟩
    ·refine Aj (Ad (Ad ?_))
     refine Cq (anns := [aP 0 0, aR 0 0, aP 0 0, aR 0 0, aP 0 0, aR 0 0, aE 0 1, aP 1 1]) A5 (Ar (l := [(30, [vS, sV u0], σ2, .bool (g.sorts.any fun x => decide (u0 = x)), σ2)]) ⟨f30w g.sorts u0 vS σ2 hG2.s (by omega), trivial⟩) (by kernel_rfl) (by kernel_rfl) ?_
     refine DF (Ac M0 rfl rfl) (DF (Ae (u := .pr (nx σ + 2) 0) (cs := [vS, vR]) Cf rfl (by simp only [B2, Sto.cells, hG2.c]; rfl) rfl) ?_)
     refine DF (Ac Da rfl rfl) (DF (Ae Cf rfl rfl rfl) (DF (A3 C5 (fun _ => rfl) rfl rfl (by rw [hux]; rfl : hh.text[0]? = some u0) (i := 0)) ?_))
     refine DF (Ae ld9 rfl rfl rfl) (DT (A7 rfl rfl Ba) (DF (A8 rfl) (Bl ?_)));refine Ai rfl (fun h5 => ?_) (fun h5 => ?_)
     ·obtain ⟨σ3, v1, hap, hc1, hcS, hG3⟩ := hG2.addS u0 (by simp [sizeLim]; omega)
      obtain ⟨σ5, v2, hap2, hc2, hcR, hG2''⟩ := hG3.addR (⟨hh.label, u0, [⟨a2, [], 0⟩], true⟩ : Rl) (by simp [sizeLim]; omega)
      have hpl' : ∀ r ∈ g.rules ++ [(⟨hh.label, u0, [⟨a2, [], 0⟩], true⟩ : Rl)], r.parts.length < 1000000 := fun r hr => by
       rcases List.mem_append.1 hr with hr | hr
       ·exact hpl r hr
       ·rw [List.mem_singleton.1 hr]; show 1 < 1000000; omega
      refine Cq (anns := [aP 0 0, aR 0 0, aP 0 0, aR 0 0, aP 0 0, aR 0 0, aP 0 0, aE 0 1, aP 1 1, aE 1 2]) A5 (Ar (l := []) trivial) (by kernel_rfl) (by kernel_rfl) ?_
      refine DF (Ac M0 rfl rfl) (DF (Ae (u := .pr (nx σ + 2) 0) (cs := [vS, vR]) Cf rfl (by simp only [B2, Sto.cells, hG2.c]; rfl) rfl) ?_)
      refine DF (Ac Da rfl rfl) (DF (Ae Cf rfl rfl rfl) (DF (A3 C5 (fun _ => rfl) rfl rfl (by rw [hux]; rfl : hh.text[0]? = some u0) (i := 0)) ?_))
      refine DF (Ae ld9 rfl rfl rfl) (DF (Br C5 byW rfl rfl rfl) (DT (B5 C5 rfl D0 rfl rfl rfl (new := e1 u0) rfl hap) (DF (Ac M0 rfl rfl) (DT (A6 (ad := nx σ + 2) (off := 0) (vs := [vS, vR]) (vs' := [v1, vR]) (cs := [v1]) Cf rfl rfl hc1 (by simp only [Sto.cells, hcS]) rfl) ?_))))
      refine Bl ?_
      refine Cq (anns := [aP 0 0, aR 0 0, aP 0 0, aR 0 0, aP 0 0, aR 0 0, aP 0 0, aR 0 0, aP 0 0, aP 0 0, aP 0 0, aP 0 0, aP 0 0, aE 0 1, aP 1 1, aE 1 2]) A5 (Ar (l := []) trivial) (by kernel_rfl) (by kernel_rfl) ?_
      refine DF (Ac Lp rfl rfl) (DF (Ae (u := .pr (nx σ + 2) 1) (cs := [vR]) Zz rfl (by simp only [B2, Sto.cells, hG3.c]; rfl) rfl) ?_)
      refine DF (Ac Fk rfl rfl) (DF (Ae ld9 rfl rfl rfl) (DF (Ac Da rfl rfl) (DF (Ae Cf rfl rfl rfl) (DF (A3 C5 (fun _ => rfl) rfl rfl (by rw [hux]; rfl : hh.text[0]? = some u0) (i := 0)) ?_))))
      refine DF (Ae ld9 rfl rfl rfl) (DF (Ag rfl) (DF (Cl Aiz rfl rfl) (DF (Br Nh byW rfl rfl rfl) (DF (Cl Aix rfl rfl) (DF (Br Ac5 byW rfl rfl rfl) (DT (B5 Ac5 rfl Ahc rfl rfl rfl (new := eRg (⟨hh.label, u0, [⟨a2, [], 0⟩], true⟩ : Rl)) rfl hap2) (DF (Ac Lp rfl rfl) ?_)))))))
      refine DT (A6 (ad := nx σ + 2) (off := 1) (vs := [v1, vR]) (vs' := [v1, v2]) (cs := [v2]) Zz rfl rfl hc2 (by simp only [Sto.cells, hcR]) rfl) ?_
      refine Bl (Aa (O1 (A1 (q := 1) ok3 rfl rfl (by omega)) ?_))
      refine OM rfl (Ab ?_)
      refine ⟨hlt2, ⟨rfl, rfl, rfl, rfl, rfl, rfl, rfl, trivial⟩, ⟨g.sorts ++ [u0], g.rules ++ [(⟨hh.label, u0, [⟨a2, [], 0⟩], true⟩ : Rl)]⟩, v1, v2, hG2'', by simp; omega, by simp; omega, hpl', by rw [hf2, hd2, Om, hhg]; simp only [hu]; rw [if_neg (by rw [h4]; simp)]; unfold varG Adh; rw [hu, if_pos h5]⟩
     ·obtain ⟨σ5, v2, hap2, hc2, hcR, hG2''⟩ := hG2.addR (⟨hh.label, u0, [⟨a2, [], 0⟩], true⟩ : Rl) (by simp [sizeLim]; omega)
      have hpl' : ∀ r ∈ g.rules ++ [(⟨hh.label, u0, [⟨a2, [], 0⟩], true⟩ : Rl)], r.parts.length < 1000000 := fun r hr => by
       rcases List.mem_append.1 hr with hr | hr
       ·exact hpl r hr
       ·rw [List.mem_singleton.1 hr]; show 1 < 1000000; omega
      refine Aj ?_
      refine Cq (anns := [aP 0 0, aR 0 0, aP 0 0, aR 0 0, aP 0 0, aR 0 0, aP 0 0, aR 0 0, aP 0 0, aP 0 0, aP 0 0, aP 0 0, aP 0 0, aE 0 1, aP 1 1, aE 1 2]) A5 (Ar (l := []) trivial) (by kernel_rfl) (by kernel_rfl) ?_
      refine DF (Ac Lp rfl rfl) (DF (Ae (u := .pr (nx σ + 2) 1) (cs := [vR]) Zz rfl (by simp only [B2, Sto.cells, hG2.c]; rfl) rfl) ?_)
      refine DF (Ac Fk rfl rfl) (DF (Ae ld9 rfl rfl rfl) (DF (Ac Da rfl rfl) (DF (Ae Cf rfl rfl rfl) (DF (A3 C5 (fun _ => rfl) rfl rfl (by rw [hux]; rfl : hh.text[0]? = some u0) (i := 0)) ?_))))
      refine DF (Ae ld9 rfl rfl rfl) (DF (Ag rfl) (DF (Cl Aiz rfl rfl) (DF (Br Nh byW rfl rfl rfl) (DF (Cl Aix rfl rfl) (DF (Br Ac5 byW rfl rfl rfl) (DT (B5 Ac5 rfl Ahc rfl rfl rfl (new := eRg (⟨hh.label, u0, [⟨a2, [], 0⟩], true⟩ : Rl)) rfl hap2) (DF (Ac Lp rfl rfl) ?_)))))))
      refine DT (A6 (ad := nx σ + 2) (off := 1) (vs := [vS, vR]) (vs' := [vS, v2]) (cs := [v2]) Zz rfl rfl hc2 (by simp only [Sto.cells, hcR]) rfl) ?_
      refine Bl (Aa (O1 (A1 (q := 1) ok3 rfl rfl (by omega)) ?_))
      refine OM rfl (Ab ?_)
      refine ⟨hlt2, ⟨rfl, rfl, rfl, rfl, rfl, rfl, rfl, trivial⟩, ⟨g.sorts, g.rules ++ [(⟨hh.label, u0, [⟨a2, [], 0⟩], true⟩ : Rl)]⟩, vS, v2, hG2'', by simp; omega, by simp; omega, hpl', by rw [hf2, hd2, Om, hhg]; simp only [hu]; rw [if_neg (by rw [h4]; simp)]; unfold varG Adh; rw [hu, if_neg (by rw [h5]; simp)]⟩
   ·have hge2 : d.vars.length <= i2 := by simpa using h3
    have hv2 : Om (H6 (B7 d) []) d.vars zG = some g := by rw [hf2, List.drop_eq_nil_of_le hge2]; rfl
    obtain ⟨gv, hgv⟩ : ∃ x, x = g := ⟨_, rfl⟩;rw [← hgv] at hv2
    have hinit4 : ∃ g4 vS vR, GSt σ σ2 (H6 (B7 d) []) g4 vS vR /\ g4.sorts.length <= d.vars.length /\ g4.rules.length <= d.vars.length + 0 /\ (∀ r ∈ g4.rules, r.parts.length < 1000000) /\ Gz d.frames gv = Gz (d.frames.drop 0) g4 := ⟨g, vS, vR, hG2, by omega, by omega, hpl, by rw [hgv]; rfl⟩
    refine Bf ?_;refine Ad (Aa (OA rfl (Ab (Ad (Ad (Aa (O1 (Ac Rf rfl rfl) ?_)))))));refine O1 (Ae Ag8 rfl rfl rfl) (O1 (As Ag9 rfl) (OM rfl (Ab (Am ?_))));refine Cg d.frames.length (fun i4 => [(2, .pr (nx σ) 0), (9, .pr (nx σ + 2) 0), (13, .fn (.func 137) [] []), (92, slV eF 8 d.frames), (93, iV (.ofNat d.frames.length)), (94, iV (.ofNat i4))]) (fun i4 σ4 => ∃ g vS vR, GSt σ σ4 (H6 (B7 d) []) g vS vR /\ g.sorts.length <= d.vars.length /\ g.rules.length <= d.vars.length + i4 /\ (∀ r ∈ g.rules, r.parts.length < 1000000) /\ Gz d.frames gv = Gz (d.frames.drop i4) g) ⟨rfl, rfl, rfl, rfl, rfl, rfl, trivial⟩ hinit4 ?_
    rintro i4 σ4 hi4 ⟨g, vS, vR, hG4, hsl, hrl, hpl, hf4⟩;refine Ad (Aa (O1 (Bb ok3 rfl rfl) (Ab (Ad ?_))));refine Ai rfl (fun h4 => ?_) (fun h4 => ?_)
    ·have hlt4 : i4 < d.frames.length := by simpa using h4
     obtain ⟨a4, ha4⟩ := B3 hlt4;have hd4 := Bn ha4;have hFa := hB.f a4 (List.mem_of_getElem? ha4);obtain ⟨t0, tl, htx⟩ := Aho hok (List.mem_of_getElem? ha4)
     have htd : a4.text.headD [] = t0 := by rw [htx]; rfl
     refine Aj (Ad (Am (Ad (Aa (O1 (A3 el23 (fun _ => rfl) rfl rfl ha4) ?_)))))
     refine O1 (Ae Oe rfl rfl rfl) (B6 zi78 Oe rfl (fun _ => rfl) rfl rfl rfl rfl ?_)
     refine Ab (Ad ?_)
     refine Hg [(115, .bool ((a4.thm || a4.hyps.any (fun h => !h.floating)) || !(g.sorts.any fun x => decide (t0 = x))))] ?_ ?_
     ·rcases Bool.eq_false_or_eq_true (a4.thm) with hg2 | hg2
      ·refine Cq (anns := [aP 0 0, aR 0 0, aP 0 0, aP 0 0, aR 0 0, aP 0 0, aE 0 1, aP 1 1, aP 1 1, aP 1 1, aR 1 1, aP 1 1, aR 1 1, aP 1 1, aR 1 1, aE 1 2, aP 2 2, aP 2 2]) A5 (Ar (l := [(44, [slV eH 3 a4.hyps, .fn (.func 137) [] []], σ4, .bool (a4.hyps.any fun h => !h.floating), σ4), (30, [vS, sV t0], σ4, .bool (g.sorts.any fun x => decide (t0 = x)), σ4)]) ⟨f44 (fun h => !h.floating) a4.hyps 137 [] σ4 (by have := hFa.h; omega) (fun a _ => f137 a σ4), f30w g.sorts t0 vS σ4 hG4.s (by omega), trivial⟩) (by kernel_rfl) (by kernel_rfl) ?_
       refine DF (Ac Ac3 rfl rfl) (DF (Ae ld4 rfl rfl rfl) (DF (Ag rfl) ?_))
       refine Dx rfl rfl rfl rfl (by first | rfl | simp only [hg2] <;> rfl | simp [hg2]) ?_
       refine Dx rfl rfl rfl rfl (by first | rfl | simp only [hg2] <;> rfl | simp [hg2]) ?_
       refine Dx rfl rfl rfl rfl (by first | rfl | simp only [hg2] <;> rfl | simp [hg2]) ?_
       refine La rfl rfl rfl rfl (by first | rfl | simp only [hg2] <;> rfl | simp [hg2]) rfl rfl ?_
       refine DF (Bx rfl (by first | rfl | simp only [hg2] <;> rfl | simp [hg2]) rfl) ?_
       refine DF (Ag rfl) ?_
       refine Dx rfl rfl rfl rfl (by first | rfl | simp only [hg2] <;> rfl | simp [hg2]) ?_
       refine Dx rfl rfl rfl rfl (by first | rfl | simp only [hg2] <;> rfl | simp [hg2]) ?_
       refine Dx rfl rfl rfl rfl (by first | rfl | simp only [hg2] <;> rfl | simp [hg2]) ?_
       refine Dx rfl rfl rfl rfl (by first | rfl | simp only [hg2] <;> rfl | simp [hg2]) ?_
       refine Dx rfl rfl rfl rfl (by first | rfl | simp only [hg2] <;> rfl | simp [hg2]) ?_
       refine Dx rfl rfl rfl rfl (by first | rfl | simp only [hg2] <;> rfl | simp [hg2]) ?_
       refine La rfl rfl rfl rfl (by first | rfl | simp only [hg2] <;> rfl | simp [hg2]) rfl rfl ?_
       refine Dx rfl rfl rfl rfl (by first | rfl | simp only [hg2] <;> rfl | simp [hg2]) ?_
       refine DF (Bx rfl (by first | rfl | simp only [hg2] <;> rfl | simp [hg2]) rfl) ?_
       refine Bl ?_
       exact ⟨⟨congrArg (fun b => some (AV.bool b)) (by first | rfl | simp only [hg2] <;> rfl | simp [hg2]), trivial⟩, sb, rfl⟩
      ·rcases Bool.eq_false_or_eq_true ((a4.hyps.any fun h => !h.floating)) with hg8 | hg8
       ·refine Cq (anns := [aP 0 0, aR 0 0, aP 0 0, aP 0 0, aR 0 0, aP 0 0, aE 0 1, aP 1 1, aP 1 1, aP 1 1, aR 1 1, aP 1 1, aR 1 1, aP 1 1, aR 1 1, aE 1 2, aP 2 2, aP 2 2]) A5 (Ar (l := [(44, [slV eH 3 a4.hyps, .fn (.func 137) [] []], σ4, .bool (a4.hyps.any fun h => !h.floating), σ4), (30, [vS, sV t0], σ4, .bool (g.sorts.any fun x => decide (t0 = x)), σ4)]) ⟨f44 (fun h => !h.floating) a4.hyps 137 [] σ4 (by have := hFa.h; omega) (fun a _ => f137 a σ4), f30w g.sorts t0 vS σ4 hG4.s (by omega), trivial⟩) (by kernel_rfl) (by kernel_rfl) ?_
        refine DF (Ac Ac3 rfl rfl) (DF (Ae ld4 rfl rfl rfl) (DF (Ag rfl) ?_))
        refine Dn rfl rfl rfl rfl (by first | rfl | simp only [hg8, hg2] <;> rfl | simp [hg8, hg2]) (Ac G4 rfl rfl) ?_
        refine Dn rfl rfl rfl rfl (by first | rfl | simp only [hg8, hg2] <;> rfl | simp [hg8, hg2]) (Ae Kk rfl rfl rfl) ?_
        refine Dn rfl rfl rfl rfl (by first | rfl | simp only [hg8, hg2] <;> rfl | simp [hg8, hg2]) (Ag rfl) ?_
        refine Mz rfl rfl rfl rfl (by first | rfl | simp only [hg8, hg2] <;> rfl | simp [hg8, hg2]) rfl rfl (A7 rfl rfl Ba) ?_
        refine DF (Bt rfl (by first | rfl | simp only [hg8, hg2] <;> rfl | simp [hg8, hg2]) rfl) ?_
        refine DF (Ag rfl) ?_
        refine Dx rfl rfl rfl rfl (by first | rfl | simp only [hg8, hg2] <;> rfl | simp [hg8, hg2]) ?_
        refine Dx rfl rfl rfl rfl (by first | rfl | simp only [hg8, hg2] <;> rfl | simp [hg8, hg2]) ?_
        refine Dx rfl rfl rfl rfl (by first | rfl | simp only [hg8, hg2] <;> rfl | simp [hg8, hg2]) ?_
        refine Dx rfl rfl rfl rfl (by first | rfl | simp only [hg8, hg2] <;> rfl | simp [hg8, hg2]) ?_
        refine Dx rfl rfl rfl rfl (by first | rfl | simp only [hg8, hg2] <;> rfl | simp [hg8, hg2]) ?_
        refine Dx rfl rfl rfl rfl (by first | rfl | simp only [hg8, hg2] <;> rfl | simp [hg8, hg2]) ?_
        refine La rfl rfl rfl rfl (by first | rfl | simp only [hg8, hg2] <;> rfl | simp [hg8, hg2]) rfl rfl ?_
        refine Dx rfl rfl rfl rfl (by first | rfl | simp only [hg8, hg2] <;> rfl | simp [hg8, hg2]) ?_
        refine DF (Bx rfl (by first | rfl | simp only [hg8, hg2] <;> rfl | simp [hg8, hg2]) rfl) ?_
        refine Bl ?_
        exact ⟨⟨congrArg (fun b => some (AV.bool b)) (by first | rfl | simp only [hg8, hg2] <;> rfl | simp [hg8, hg2]), trivial⟩, sb, rfl⟩
       ·refine Cq (anns := [aP 0 0, aR 0 0, aP 0 0, aP 0 0, aR 0 0, aP 0 0, aE 0 1, aP 1 1, aP 1 1, aP 1 1, aR 1 1, aP 1 1, aR 1 1, aP 1 1, aR 1 1, aE 1 2, aP 2 2, aP 2 2]) A5 (Ar (l := [(44, [slV eH 3 a4.hyps, .fn (.func 137) [] []], σ4, .bool (a4.hyps.any fun h => !h.floating), σ4), (30, [vS, sV t0], σ4, .bool (g.sorts.any fun x => decide (t0 = x)), σ4)]) ⟨f44 (fun h => !h.floating) a4.hyps 137 [] σ4 (by have := hFa.h; omega) (fun a _ => f137 a σ4), f30w g.sorts t0 vS σ4 hG4.s (by omega), trivial⟩) (by kernel_rfl) (by kernel_rfl) ?_
        refine DF (Ac Ac3 rfl rfl) (DF (Ae ld4 rfl rfl rfl) (DF (Ag rfl) ?_))
        refine Dn rfl rfl rfl rfl (by first | rfl | simp only [hg8, hg2] <;> rfl | simp [hg8, hg2]) (Ac G4 rfl rfl) ?_
        refine Dn rfl rfl rfl rfl (by first | rfl | simp only [hg8, hg2] <;> rfl | simp [hg8, hg2]) (Ae Kk rfl rfl rfl) ?_
        refine Dn rfl rfl rfl rfl (by first | rfl | simp only [hg8, hg2] <;> rfl | simp [hg8, hg2]) (Ag rfl) ?_
        refine Mz rfl rfl rfl rfl (by first | rfl | simp only [hg8, hg2] <;> rfl | simp [hg8, hg2]) rfl rfl (A7 rfl rfl Ba) ?_
        refine DF (Bt rfl (by first | rfl | simp only [hg8, hg2] <;> rfl | simp [hg8, hg2]) rfl) ?_
        refine DF (Ag rfl) ?_
        refine Dn rfl rfl rfl rfl (by first | rfl | simp only [hg8, hg2] <;> rfl | simp [hg8, hg2]) (Ac M0 rfl rfl) ?_
        refine Dn rfl rfl rfl rfl (by first | rfl | simp only [hg8, hg2] <;> rfl | simp [hg8, hg2]) (Ae (u := .pr (nx σ + 2) 0) (cs := [vS, vR]) Cf rfl (by simp only [B2, Sto.cells, hG4.c]; rfl) rfl) ?_
        refine Dn rfl rfl rfl rfl (by first | rfl | simp only [hg8, hg2] <;> rfl | simp [hg8, hg2]) (Ac Uk rfl rfl) ?_
        refine Dn rfl rfl rfl rfl (by first | rfl | simp only [hg8, hg2] <;> rfl | simp [hg8, hg2]) (Ae Cf rfl rfl rfl) ?_
        refine Dn rfl rfl rfl rfl (by first | rfl | simp only [hg8, hg2] <;> rfl | simp [hg8, hg2]) (A3 C5 (fun _ => rfl) rfl rfl (by rw [htx]; rfl : a4.text[0]? = some t0) (i := 0)) ?_
        refine Dn rfl rfl rfl rfl (by first | rfl | simp only [hg8, hg2] <;> rfl | simp [hg8, hg2]) (Ae ld9 rfl rfl rfl) ?_
        refine Mz rfl rfl rfl rfl (by first | rfl | simp only [hg8, hg2] <;> rfl | simp [hg8, hg2]) rfl rfl (A7 rfl rfl (Cz (by decide) Ba)) ?_
        refine Dn rfl rfl rfl rfl (by first | rfl | simp only [hg8, hg2] <;> rfl | simp [hg8, hg2]) (A8 rfl) ?_
        refine DF (Bt rfl (by first | rfl | simp only [hg8, hg2] <;> rfl | simp [hg8, hg2]) rfl) ?_
        refine Bl ?_
        exact ⟨⟨congrArg (fun b => some (AV.bool b)) (by first | rfl | simp only [hg8, hg2] <;> rfl | simp [hg8, hg2]), trivial⟩, sb, rfl⟩
     refine Ai rfl (fun h5 => ?_) (fun h5 => ?_)
     ·replace h5 : Abc a4 g = true := by unfold Abc; rw [htd]; exact h5
      refine Bf ?_
      refine Aa (O1 (A1 (q := 1) ok3 rfl rfl (by omega)) ?_)
      refine OM rfl (Ab ?_)
      refine ⟨hlt4, ⟨rfl, rfl, rfl, rfl, rfl, rfl, trivial⟩, g, vS, vR, hG4, hsl, by omega, hpl, by rw [hf4, hd4, Gz, if_pos h5]⟩
     ·replace h5 : Abc a4 g = false := by unfold Abc; rw [htd]; exact h5
      have hfl : ∀ x ∈ a4.hyps, ∃ a b, x.text = [a, b] := Z0 hok (List.mem_of_getElem? ha4) (by unfold Abc at h5; cases hh : (a4.hyps.any fun h => !h.floating) with | false => rfl | true => rw [hh] at h5; simp at h5)
      refine Aj (Ad (Aa (O1 (Ae Oe rfl rfl rfl) (Aq rfl rfl rfl rfl (f138g a4 σ4 t0 hFa ⟨tl, htx⟩ hfl) (OM rfl (O1 (Ao rfl rfl) (O1 (Ao rfl rfl) ?_)))))));refine B6 Tl F6 rfl (fun _ => rfl) rfl rfl rfl rfl ?_
      refine OA rfl (Ab (Ad (Ad (Aa (OM rfl (O1 (A8 rfl) (Ab ?_)))))));refine Ai rfl (fun h6 => ?_) (fun h6 => ?_)
      ·have hax : H5 a4 = none := by simpa using h6
       refine Ad (Aa (O1 (Cl Amq rfl rfl) (O1 (A6 (ad := nx σ) (off := 0) (vs := H9) (vs' := H9) (cs := H9) L6 rfl rfl rfl (by simp only [Sto.cells, hG4.t]) rfl) ?_)))
       refine OA rfl (Ab ?_)
       have hfr : Gz d.frames gv = none := by rw [hf4, hd4, Gz, if_neg (by rw [h5]; simp), hax]
       have hF : ofF d = (zG, 150) := (if_neg (fun hc => Bool.noConfusion (h1.symm.trans hc))).trans (by rw [hv2]; simp only []; rw [hfr])
       refine Ak ?_
       exact ⟨[.agg H9, iV (150)], Cc L6 rfl (by simp only [Sto.cells]; rw [Sto.get_set, if_pos rfl]) rfl (Fe rfl rfl), .tup [grV zG, iV (150)], σ, Aw.below hw ⟨by rw [An]; have := hG4.n; omega, fun b hb => by rw [Sto.get_set, if_neg (by omega)]; exact hG4.g0 b hb⟩, nl, .tup (.cons (.agg (.cons C7 (.cons C7 .nil))) (.cons (.same rfl) .nil)), by rw [hF], rfl⟩
      ·obtain ⟨rl, hax⟩ : ∃ rl, H5 a4 = some rl := Option.isSome_iff_exists.1 (by simpa using h6)
       obtain ⟨σ5, v1, hap, hc1, hcR, hG5⟩ := hG4.addR rl (by simp [sizeLim]; omega)
       have hpl' : ∀ r ∈ g.rules ++ [rl], r.parts.length < 1000000 := fun r hr => by
        rcases List.mem_append.1 hr with hr | hr
        ·exact hpl r hr
        ·rw [List.mem_singleton.1 hr]; exact Nat.lt_of_le_of_lt (Ahn hax) hFa.t
       refine Aj (Aa (O1 (Ac Lp rfl rfl) (O1 (Ae (u := .pr (nx σ + 2) 1) (cs := [vR]) Zz rfl (by simp only [B2, Sto.cells, hG4.c]; rfl) rfl) ?_)))
       refine O1 (Ae F6 rfl rfl rfl) (E2 (Br Ac5 byW rfl rfl rfl) (Gq (len := 1)) rfl rfl (O1 (B5 Ac5 rfl Ahc rfl rfl rfl (new := eRg rl) (by rw [hax, Are (Ahm hax)]; rfl) hap) ?_))
       refine O1 (Ac Lp rfl rfl) (O1 (A6 (ad := nx σ + 2) (off := 1) (vs := [vS, vR]) (vs' := [vS, v1]) (cs := [v1]) Zz rfl rfl hc1 (by simp only [Sto.cells, hcR]) rfl) ?_)
       refine Ab (Aa (O1 (A1 (q := 1) ok3 rfl rfl (by omega)) ?_))
       refine OM rfl (Ab ?_)
       refine ⟨hlt4, ⟨rfl, rfl, rfl, rfl, rfl, rfl, trivial⟩, ⟨g.sorts, g.rules ++ [rl]⟩, vS, v1, hG5, hsl, by simp; omega, hpl', by rw [hf4, hd4, Gz, if_neg (by rw [h5]; simp), hax]⟩
    ·have hge4 : d.frames.length <= i4 := by simpa using h4
     have hfr : Gz d.frames gv = some g := by rw [hf4, List.drop_eq_nil_of_le hge4]; rfl
     refine Bf ?_
     have hGB : GrB g := ⟨by omega, by omega, hpl⟩
     have hn4 := hG4.n
     refine T_frz (σ.new (.cells H9)) [(2, .pr (nx σ) 0), (9, .pv [A9 g.sorts, slV eR 4 g.rules])] (Aw.of_same (Anl hw) (by rw [Ap]; omega) fun b hb => ?_) (by rw [Ap]; omega) ⟨⟨_, rfl, .same ?_⟩, ⟨_, rfl, .pr hG4.c (by rw [Sto.get_new, if_neg (by omega)]; exact hw.none (by omega)) (.cons (hG4.s.fz (fun _ => rfl) (fun a ha => by rw [Sto.get_new, if_neg (by omega)]; exact hw.none (by omega)) (Ce Na _)) (.cons (hG4.r.fzE (fun _ => rfl) (fun a ha => by rw [Sto.get_new, if_neg (by omega)]; exact hw.none (by omega)) Ard) .nil))⟩, trivial⟩ ?_
     ·rw [Ap] at hb;rw [Sto.get_new]
      split
      ·rename_i e; rw [e]; exact hG4.t
      ·exact hG4.g0 b (by omega)
     ·unfold AV.und; rw [Ap]; simp
     refine Ad (Ad (Aa (O1 (Ae L6 rfl rfl rfl) (Aq rfl rfl rfl rfl (f139 g _ hGB) (O1 (C9 (q := 0) Jp rfl rfl) (Ab ?_))))));refine Ai rfl (fun h5 => ?_) (fun h5 => ?_)
     ·refine Ad (Aa (O1 (Cl Amq rfl rfl) (O1 (A6 (ad := nx σ) (off := 0) (vs := H9) (vs' := H9) (cs := H9) L6 rfl rfl rfl (by simp only [Sto.cells]; rw [Sto.get_new, if_pos rfl]) rfl) ?_)))
      refine OA rfl (Ab ?_)
      have hF : ofF d = (zG, 4) := (if_neg (fun hc => Bool.noConfusion (h1.symm.trans hc))).trans (by rw [hv2]; simp only []; rw [hfr]; exact if_pos h5)
      refine Ak ?_
      exact ⟨[.agg H9, iV (4)], Cc L6 rfl (by simp only [Sto.cells]; rw [Sto.get_set, if_pos rfl]) rfl (Fe rfl rfl), .tup [grV zG, iV (4)], σ, Aw.below hw ⟨by rw [An, Ap]; omega, fun b hb => by rw [Sto.get_set, if_neg (by omega), Sto.get_new, if_neg (by omega)]⟩, nl, .tup (.cons (.agg (.cons C7 (.cons C7 .nil))) (.cons (.same rfl) .nil)), by rw [hF], rfl⟩
     ·refine Aj (Ad (Aa (O1 (Ae L6 rfl rfl rfl) (O1 (A6 (ad := nx σ) (off := 0) (vs := H9) (vs' := [A9 g.sorts, slV eR 4 g.rules]) (cs := [A9 g.sorts, slV eR 4 g.rules]) L6 rfl rfl rfl (by simp only [Sto.cells]; rw [Sto.get_new, if_pos rfl]) rfl) ?_))))
      refine OA rfl (Ab ?_)
      have hF : ofF d = (g, 0) := (if_neg (fun hc => Bool.noConfusion (h1.symm.trans hc))).trans (by rw [hv2]; simp only []; rw [hfr]; exact if_neg (by rw [h5]; simp))
      refine Ak ?_
      exact ⟨[grV g, iV 0], Cc L6 rfl (by simp only [Sto.cells]; rw [Sto.get_set, if_pos rfl]) rfl (Fe rfl rfl), .tup [grV g, iV 0], σ, Aw.below hw ⟨by rw [An, Ap]; omega, fun b hb => by rw [Sto.get_set, if_neg (by omega), Sto.get_new, if_neg (by omega)]⟩, nl, .same (Ank _ _), by rw [hF], rfl⟩
end Go.AM
