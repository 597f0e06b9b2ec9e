/- A part of the proof; shortened by program. -/
import Derived.Test.YtolkkkghemedjaaGreatDoorP10
set_option maxRecDepth 100000
set_option linter.unusedSimpArgs false
set_option linter.unusedVariables false
namespace Go.AM
open Go Go.Proofs
theorem f54q {was : Ay} {ok : Bool} (l : List Sb) (s : Str) (σ : Sto) (h : Qr (Cp l s) = .tup [A4 was, .bool ok]) (hb : l.length < 4611686018427387904) : Ah Ew 54 [slV eS 3 l, sV s] σ fun v σ' => v = .tup [A4 was, .bool ok] /\ σ' = σ := by
 rw [← h]; exact f54 l s σ hb
theorem f61n (l : List Sb) (s : Str) (ks : List Ay) (b : Nat) (σ : Sto) (hb : σ.get b = some (.cells [.fn (.func 61) [] [.pv [slV eS 3 l], .pr b 0]])) (hbn : b < nx σ) (hll : l.length < 1000000) (hl : ∀ x ∈ l, By x.tree <= 4000) (hks : ks.length <= 1000000) (ih : ∀ k ∈ ks, ∀ τ, τ.get b = some (.cells [.fn (.func 61) [] [.pv [slV eS 3 l], .pr b 0]]) -> Ah Ew 61 [A4 k, .pv [slV eS 3 l], .pr b 0] τ fun v σ' => v = A4 (apT l k) /\ σ' = τ) : Ah Ew 61 [A4 (.node s ks), .pv [slV eS 3 l], .pr b 0] σ fun v σ' => v = A4 (apT l (.node s ks)) /\ σ' = σ := by
 rw [Ci];refine A2 Tryz.func61 rfl rfl fun hw hu0 => ?_
 refine Ad (Aa (Ax Bq rfl rfl rfl (O1 (Dt Ku) (Ab (Ad (Ad (Aa ?_)))))));refine O1 (Ac Dk rfl rfl) (O1 (Ae H8 rfl rfl rfl) (O1 (As Kj rfl) (O1 (Dq (q := 0) ok3 rfl rfl) (Ab ?_))));refine Ai rfl (fun h1 => ?_) (fun h1 => ?_)
 ·obtain ⟨was, ok, hfv, hcase⟩ := Af0 (Cp l s)
  refine Ad (Aa (O1 (Ae Zy rfl rfl rfl) (O1 (Ac Dr rfl rfl) (O1 (Ae ld9 rfl rfl rfl) (Aq rfl rfl rfl rfl (f54q l s _ hfv (by omega)) ?_)))))
  refine OM rfl (O1 (Ao rfl rfl) (O1 (Ao rfl rfl) (B6 Ku Bq rfl (fun _ => rfl) rfl (Bp (eT_len was)) rfl rfl ?_)))
  refine OA rfl (Ab (Ad (Aa (OM rfl (Ab ?_)))));refine Ai rfl (fun h2 => ?_) (fun h2 => ?_)
  ·have hfs : Cp l s = some was := by
    rcases hcase with ⟨_, h⟩ | ⟨h, _⟩
    ·exact h
    ·rw [h] at h2; cases h2
   have hwc := Ut hfs hl
   refine Ad (Aa (O1 (Ae Bq rfl rfl (Be (eT_len was))) (Aq rfl rfl rfl rfl (f56 was _ (by omega)) ?_)))
   refine O1 (A6 (ad := nx σ) (off := 0) (vs := zT) (vs' := eT was) (cs := eT was) Bq rfl rfl (Bp (eT_len was)) (by simp only [Sto.cells]; rw [Sto.get_new, if_pos rfl]; rfl) (Ey (eT_len was))) ?_
   refine Ab ?_
   have hap : apT l (.node s ks) = was := by rw [apT, show L9 l s ks = some was from (if_pos h1).trans hfs]
   refine Ak ?_
   exact ⟨_, Cc (vs := eT was) (v := A4 was) Bq rfl (by simp only [Sto.cells]; rw [Sto.get_set, if_pos rfl]) (Be (eT_len _)) rfl, A4 was, σ, Aw.below hw ⟨by rw [An, Ap]; omega, fun b hb => by rw [Sto.get_set, if_neg (by omega), Sto.get_new, if_neg (by omega)]⟩, nl, .same (Ya was), by rw [hap], rfl⟩
  ·have hlf : L9 l s ks = none := by
    unfold L9; rw [if_pos h1]
    rcases hcase with ⟨h, _⟩ | ⟨_, h⟩
    ·rw [h] at h2; cases h2
    ·exact h
   refine Aj (Ad (Aa (O1 (Ac Dr rfl rfl) (O1 (Ae ld9 rfl rfl rfl) (O1 (Cl Akp rfl rfl) (O1 (D4 (n := nx σ + 1) Ku (Ap _ _)) (O1 (A6 (ad := nx σ + 1) (off := 0) (vs := zT) (vs' := [sV s, .nil (.slice none 0 0)]) (cs := [sV s, .nil (.slice none 0 0)]) Bq rfl rfl rfl (by simp only [Sto.cells]; rw [Sto.get_new, if_pos (by rw [Ap])]; rfl) rfl) ?_)))))))
   refine Ab (Ad (Ad (Aa (O1 (Ac Dk rfl rfl) (O1 (Ae H8 rfl rfl rfl) (O1 (As Kj rfl) (OM rfl ?_)))))));refine Ab (Am ?_)
   refine Cg ks.length (fun i0 => [(2, .pr b 0), (4, .pr (nx σ) 0), (7, .pr (nx σ + 1) 0), (28, slV eT 2 ks), (29, iV (.ofNat ks.length)), (30, iV (.ofNat i0))]) (fun i0 σ0 => ∃ vp, σ0.get (nx σ + 1) = some (.cells [sV s, vp]) /\ Own σ0 (nx σ + 2) eT 2 ((apL l ks).take i0) vp /\ σ0.get (nx σ) = some (.cells zT) /\ (∀ b, b < nx σ -> σ0.get b = σ.get b) /\ nx σ + 2 <= nx σ0) ⟨rfl, rfl, rfl, rfl, rfl, rfl, trivial⟩ ⟨.nil (.slice none 0 0), by rw [Sto.get_set, if_pos rfl], .nil, by rw [Sto.get_set, if_neg (by omega), Sto.get_new, if_neg (by rw [Ap]; omega), Sto.get_new, if_pos rfl]; rfl, fun b hb => by rw [Sto.get_set, if_neg (by omega), Sto.get_new, if_neg (by rw [Ap]; omega), Sto.get_new, if_neg (by omega)], by rw [An, Ap, Ap]; exact nl⟩ ?_
   rintro i0 σ0 hi0 ⟨vp, h8, hown, h20, hg0, hn0⟩;refine Ad (Aa (O1 (Bb ok3 rfl rfl) (Ab (Ad ?_))));refine Ai rfl (fun h3 => ?_) (fun h3 => ?_)
   ·have hlt0 : i0 < ks.length := by simpa using h3
    obtain ⟨a0, ha0⟩ := B3 hlt0;have hd0 := Bn ha0;have hA0 := Ahu (l := l) ha0;obtain ⟨la, ka, he⟩ := Ahp (apT l a0)
    have hlim : (((apL l ks).take i0).length + [apT l a0].length) * (40 + 1) <= sizeLim := by rw [List.length_take, T1]; simp [sizeLim]; omega
    obtain ⟨v1, τ1, hap1, ho1, hb1, _⟩ := Own.app (by' := 40) (enc := eT) (sz := 2) eT_len hn0 hown [apT l a0] hlim
    have hap1 : Cj σ0 2 40 vp 1 (eT (apT l a0)) = some (v1, τ1) := by simpa using hap1
    have h8t : τ1.get (nx σ + 1) = some (.cells [sV s, vp]) := (hb1.2 _ (by omega)).trans h8
    refine Aj (Ad (Am (Ad (Aa (O1 (A3 L5 eT_len rfl rfl ha0) (O1 (Ae Bq rfl rfl (Cb (eT_len a0) _)) (B6 Ku Bq rfl (fun _ => rfl) rfl (Bp (eT_len a0)) rfl rfl ?_)))))))
    refine Ab ?_
    refine Gv 1 (anns := [aP 0 1, aR 0 1, aR 0 0, aR 0 0, aE 0 1, aP 1 1, aE 1 2, aP 2 2, aE 2 3]) A5 (Ar (l := [(61, [.agg (eT a0), .pv [slV eS 3 l], .pr b 0], σ0, .agg [sV la, slV eT 2 ka], σ0)]) ⟨by rw [← he]; exact ih a0 (List.mem_of_getElem? ha0) σ0 ((hg0 b hbn).trans hb), trivial⟩) (by kernel_rfl) (by kernel_rfl) ?_
    refine DF (Ac Dk rfl rfl) (DF (Ae (u := .pr (nx σ + 1) 1) (cs := [vp]) H8 rfl (by simp only [B2, Sto.cells, h8]; rfl) rfl) ?_)
    refine DF (Ae (u := .pr b 0) (cs := [.fn (.func 61) [] [.pv [slV eS 3 l], .pr b 0]]) ld99 rfl (by simp only [B2, Sto.cells, hg0 b hbn, hb]; rfl) rfl) ?_
    refine DF (Ae Bq rfl rfl (Be (eT_len a0))) (DT (A7 rfl rfl Ba) (DF (Br L5 byW rfl rfl rfl) (DT (B5 L5 rfl Kj rfl rfl rfl (new := eT (apT l a0)) (by rw [he]; rfl) hap1) ?_)))
    refine DF (Ac Dk rfl rfl) (DT (A6 (ad := nx σ + 1) (off := 1) (vs := [sV s, vp]) (vs' := [sV s, v1]) (cs := [v1]) H8 rfl rfl (Kq ho1) (by simp only [Sto.cells, h8t]) rfl) ?_)
    refine Bl ?_
    refine ⟨(by intro e he; simp at he; rcases he with rfl | rfl <;> exact .refl), ?_⟩
    refine Aa (O1 (A1 (q := 1) ok3 rfl rfl (by omega)) ?_)
    refine OM rfl (Ab ?_)
    refine ⟨hlt0, ⟨rfl, rfl, rfl, rfl, rfl, rfl, trivial⟩, v1, by rw [Sto.get_set, if_pos rfl], by rw [Cx hA0]; exact ho1.mono (by rw [An]; exact nl) fun a tl _ h11 h12 _ => by rw [Sto.get_set, if_neg (by omega)], by rw [Sto.get_set, if_neg (by omega), hb1.2 _ (by omega)]; exact h20, fun b hb => by rw [Sto.get_set, if_neg (by omega), hb1.2 b (by omega)]; exact hg0 b hb, by rw [An]; exact Nat.le_trans hn0 hb1.1⟩
   ·have hge0 : ks.length <= i0 := by simpa using h3
    refine Bf ?_
    refine Ad (Aa (O1 (Ae (u := .pr (nx σ + 1) 0) (cs := [sV s, vp]) Bq rfl (by simp only [B2, Sto.cells, h8]; rfl) rfl) ?_))
    refine O1 (A6 (ad := nx σ) (off := 0) (vs := zT) (vs' := [sV s, vp]) (cs := [sV s, vp]) Bq rfl rfl rfl (by simp only [Sto.cells, h20]) rfl) ?_
    refine Ab ?_;have hlf9 := hlf
    have hap : apT l (.node s ks) = .node s (apL l ks) := by rw [apT, hlf9]
    refine Ak ?_
    rw [List.take_of_length_le (by rw [T1]; exact hge0)] at hown
    exact ⟨[.agg [sV s, vp]], Cc Bq rfl (by simp only [Sto.cells]; rw [Sto.get_set, if_pos rfl]) rfl rfl, .agg [sV s, slV eT 2 (apL l ks)], σ, Aw.below hw ⟨by rw [An]; omega, fun b hb => by rw [Sto.get_set, if_neg (by omega)]; exact hg0 b hb⟩, nl, .agg (.cons (.same rfl) (.cons ((hown.mono (by rw [An]; exact nl) (fun a tl _ h11 h12 _ => by rw [Sto.get_set, if_neg (by omega)])).fz eT_len (fun a ha => hw.none (by omega)) (Ce Jx _)) .nil)), by rw [hap, Ci], rfl⟩
 ·have hlf : L9 l s ks = none := if_neg (by rw [h1]; simp)
  refine Aj (Ad (Aa (O1 (Ac Dr rfl rfl) (O1 (Ae ld9 rfl rfl rfl) (O1 (Cl Akp rfl rfl) (O1 (D4 (n := nx σ + 1) Ku (Ap _ _)) (O1 (A6 (ad := nx σ + 1) (off := 0) (vs := zT) (vs' := [sV s, .nil (.slice none 0 0)]) (cs := [sV s, .nil (.slice none 0 0)]) Bq rfl rfl rfl (by simp only [Sto.cells]; rw [Sto.get_new, if_pos (by rw [Ap])]; rfl) rfl) ?_)))))))
  refine Ab (Ad (Ad (Aa (O1 (Ac Dk rfl rfl) (O1 (Ae H8 rfl rfl rfl) (O1 (As Kj rfl) (OM rfl ?_)))))));refine Ab (Am ?_)
  refine Cg ks.length (fun i0 => [(2, .pr b 0), (4, .pr (nx σ) 0), (7, .pr (nx σ + 1) 0), (28, slV eT 2 ks), (29, iV (.ofNat ks.length)), (30, iV (.ofNat i0))]) (fun i0 σ0 => ∃ vp, σ0.get (nx σ + 1) = some (.cells [sV s, vp]) /\ Own σ0 (nx σ + 2) eT 2 ((apL l ks).take i0) vp /\ σ0.get (nx σ) = some (.cells zT) /\ (∀ b, b < nx σ -> σ0.get b = σ.get b) /\ nx σ + 2 <= nx σ0) ⟨rfl, rfl, rfl, rfl, rfl, rfl, trivial⟩ ⟨.nil (.slice none 0 0), by rw [Sto.get_set, if_pos rfl], .nil, by rw [Sto.get_set, if_neg (by omega), Sto.get_new, if_neg (by rw [Ap]; omega), Sto.get_new, if_pos rfl]; rfl, fun b hb => by rw [Sto.get_set, if_neg (by omega), Sto.get_new, if_neg (by rw [Ap]; omega), Sto.get_new, if_neg (by omega)], by rw [An, Ap, Ap]; exact nl⟩ ?_
  rintro i0 σ0 hi0 ⟨vp, h8, hown, h20, hg0, hn0⟩;refine Ad (Aa (O1 (Bb ok3 rfl rfl) (Ab (Ad ?_))));refine Ai rfl (fun h2 => ?_) (fun h2 => ?_)
  ·have hlt0 : i0 < ks.length := by simpa using h2
   obtain ⟨a0, ha0⟩ := B3 hlt0;have hd0 := Bn ha0;have hA0 := Ahu (l := l) ha0;obtain ⟨la, ka, he⟩ := Ahp (apT l a0)
   have hlim : (((apL l ks).take i0).length + [apT l a0].length) * (40 + 1) <= sizeLim := by rw [List.length_take, T1]; simp [sizeLim]; omega
   obtain ⟨v1, τ1, hap1, ho1, hb1, _⟩ := Own.app (by' := 40) (enc := eT) (sz := 2) eT_len hn0 hown [apT l a0] hlim
   have hap1 : Cj σ0 2 40 vp 1 (eT (apT l a0)) = some (v1, τ1) := by simpa using hap1
   have h8t : τ1.get (nx σ + 1) = some (.cells [sV s, vp]) := (hb1.2 _ (by omega)).trans h8
   refine Aj (Ad (Am (Ad (Aa (O1 (A3 L5 eT_len rfl rfl ha0) (O1 (Ae Bq rfl rfl (Cb (eT_len a0) _)) (B6 Ku Bq rfl (fun _ => rfl) rfl (Bp (eT_len a0)) rfl rfl ?_)))))))
   refine Ab ?_
   refine Gv 1 (anns := [aP 0 1, aR 0 1, aR 0 0, aR 0 0, aE 0 1, aP 1 1, aE 1 2, aP 2 2, aE 2 3]) A5 (Ar (l := [(61, [.agg (eT a0), .pv [slV eS 3 l], .pr b 0], σ0, .agg [sV la, slV eT 2 ka], σ0)]) ⟨by rw [← he]; exact ih a0 (List.mem_of_getElem? ha0) σ0 ((hg0 b hbn).trans hb), trivial⟩) (by kernel_rfl) (by kernel_rfl) ?_
   refine DF (Ac Dk rfl rfl) (DF (Ae (u := .pr (nx σ + 1) 1) (cs := [vp]) H8 rfl (by simp only [B2, Sto.cells, h8]; rfl) rfl) ?_)
   refine DF (Ae (u := .pr b 0) (cs := [.fn (.func 61) [] [.pv [slV eS 3 l], .pr b 0]]) ld99 rfl (by simp only [B2, Sto.cells, hg0 b hbn, hb]; rfl) rfl) ?_
   refine DF (Ae Bq rfl rfl (Be (eT_len a0))) (DT (A7 rfl rfl Ba) (DF (Br L5 byW rfl rfl rfl) (DT (B5 L5 rfl Kj rfl rfl rfl (new := eT (apT l a0)) (by rw [he]; rfl) hap1) ?_)))
   refine DF (Ac Dk rfl rfl) (DT (A6 (ad := nx σ + 1) (off := 1) (vs := [sV s, vp]) (vs' := [sV s, v1]) (cs := [v1]) H8 rfl rfl (Kq ho1) (by simp only [Sto.cells, h8t]) rfl) ?_)
   refine Bl ?_
   refine ⟨(by intro e he; simp at he; rcases he with rfl | rfl <;> exact .refl), ?_⟩
   refine Aa (O1 (A1 (q := 1) ok3 rfl rfl (by omega)) ?_)
   refine OM rfl (Ab ?_)
   refine ⟨hlt0, ⟨rfl, rfl, rfl, rfl, rfl, rfl, trivial⟩, v1, by rw [Sto.get_set, if_pos rfl], by rw [Cx hA0]; exact ho1.mono (by rw [An]; exact nl) fun a tl _ h11 h12 _ => by rw [Sto.get_set, if_neg (by omega)], by rw [Sto.get_set, if_neg (by omega), hb1.2 _ (by omega)]; exact h20, fun b hb => by rw [Sto.get_set, if_neg (by omega), hb1.2 b (by omega)]; exact hg0 b hb, by rw [An]; exact Nat.le_trans hn0 hb1.1⟩
  ·have hge0 : ks.length <= i0 := by simpa using h2
   refine Bf ?_
   refine Ad (Aa (O1 (Ae (u := .pr (nx σ + 1) 0) (cs := [sV s, vp]) Bq rfl (by simp only [B2, Sto.cells, h8]; rfl) rfl) ?_))
   refine O1 (A6 (ad := nx σ) (off := 0) (vs := zT) (vs' := [sV s, vp]) (cs := [sV s, vp]) Bq rfl rfl rfl (by simp only [Sto.cells, h20]) rfl) ?_
   refine Ab ?_;have hlf9 := hlf
   have hap : apT l (.node s ks) = .node s (apL l ks) := by rw [apT, hlf9]
   refine Ak ?_
   rw [List.take_of_length_le (by rw [T1]; exact hge0)] at hown
   exact ⟨[.agg [sV s, vp]], Cc Bq rfl (by simp only [Sto.cells]; rw [Sto.get_set, if_pos rfl]) rfl rfl, .agg [sV s, slV eT 2 (apL l ks)], σ, Aw.below hw ⟨by rw [An]; omega, fun b hb => by rw [Sto.get_set, if_neg (by omega)]; exact hg0 b hb⟩, nl, .agg (.cons (.same rfl) (.cons ((hown.mono (by rw [An]; exact nl) (fun a tl _ h11 h12 _ => by rw [Sto.get_set, if_neg (by omega)])).fz eT_len (fun a ha => hw.none (by omega)) (Ce Jx _)) .nil)), by rw [hap, Ci], rfl⟩
theorem Ah.wfs {E : Env} {f : Nat} {a : List AV} {σ : Sto} {Post : AV -> Sto -> Prop} (h : WFS σ -> Ah E f a σ Post) : Ah E f a σ Post := fun C w vs hs hg ha => h hs.wfs C w vs hs hg ha
theorem f61 (l : List Sb) (b : Nat) (hll : l.length < 1000000) (hl : ∀ x ∈ l, By x.tree <= 4000) (t : Ay) : ∀ (σ : Sto), σ.get b = some (.cells [.fn (.func 61) [] [.pv [slV eS 3 l], .pr b 0]]) -> By t <= 1000000 -> Ah Ew 61 [A4 t, .pv [slV eS 3 l], .pr b 0] σ fun v σ' => v = A4 (apT l t) /\ σ' = σ := by
 refine Ay.ind' (P := fun t => ∀ (σ : Sto), σ.get b = some (.cells [.fn (.func 61) [] [.pv [slV eS 3 l], .pr b 0]]) -> By t <= 1000000 -> Ah Ew 61 [A4 t, .pv [slV eS 3 l], .pr b 0] σ fun v σ' => v = A4 (apT l t) /\ σ' = σ) ?_ t
 intro s ks ih σ hb hc;unfold By at hc;have hlk := H7 ks
 exact Ah.wfs fun hw => f61n l s ks b σ hb (hw b _ hb).1 hll hl (by omega) fun k hk τ hτ => ih k hk τ hτ (by have := Gs hk; omega)
theorem f58 (l : List Sb) (σ : Sto) : Ah Ew 58 [slV eS 3 l] σ fun v σ' => v = .fn (.func 101) [] [.pv [slV eS 3 l]] /\ σ' = σ := by
 refine A2 Tryz.func58 rfl rfl fun hw hu0 => ?_
 refine Ad (Aa (Ax Zy rfl rfl rfl (OA rfl (Ab (Ad (Aa (O1 (E8 rfl rfl) ?_)))))));refine OA rfl (Ab ?_);refine Ak ?_;refine ⟨_, rfl, .fn (.func 101) [] [.pv [slV eS 3 l]], σ, Aw.of_same hw nl (fun _ _ => rfl), nl, .same ?_, rfl, rfl⟩
 show (true && (AV.und _ (.pv [slV eS 3 l]) && true)) = true
 show (true && ((AV.und _ (slV eS 3 l) && true) && true)) = true
 rw [Jo Adl]; rfl
theorem it101 (L : RF) (l : List Sb) (σ : Sto) (S : Nat -> Sto -> Prop) (hb : l.length < 1000000) (h0 : S 0 σ)
  (hy : ∀ (k i : Nat) (x : Sb) (σ' : Sto), l[i]? = some x -> k + 1 + i = l.length -> nx σ <= nx σ' -> S k σ' -> YTo Ew L [iV (.ofNat i), .agg (eS x)] σ' (fun σ'' => S (k + 1) σ'')) :
  Kh Ew L 101 [.yl L.aY, .pv [slV eS 3 l]] σ (S l.length) := by
 refine Aml Tryz.func101 rfl rfl rfl fun hw hu0 => ?_
 refine Hx (Ln (Aa ?_))
 refine O1 (Ae Zy rfl rfl rfl) (O1 (As sl32 rfl) (O1 (Wf (p := Int.ofNat l.length) (q := 1) ok3 rfl rfl (by simp only [Int.ofNat_eq_natCast]; omega) (by simp only [Int.ofNat_eq_natCast]; omega)) ?_))
 refine OA rfl (Ab ?_);refine Pe ?_
 refine Aax (fun k => [(0, .yl L.aY), (1, .pv [slV eS 3 l]), (3, iV (Int.ofNat l.length - 1 - Int.ofNat k))]) (fun k σ0 => k <= l.length /\ S k σ0 /\ nx σ <= nx σ0) (fun k => l.length - k) 0 ⟨rfl, rfl, congrArg (fun x => some (iV x)) (show Int.ofNat l.length - 1 = Int.ofNat l.length - 1 - Int.ofNat 0 by simp), trivial⟩ ⟨Nat.zero_le _, h0, nl⟩ ?_
 rintro k σ0 ⟨hk0, hS0, hn0⟩;refine Hx (Hx (Ln (Aa ?_)));refine OM rfl (O1 (Gi (q := 0) ok3 rfl rfl) (Ab ?_));refine Oc rfl (fun h1 => ?_) (fun h1 => ?_)
 ·have hlt : k < l.length := by
   have h1 := h1;simp only [Int.ofNat_eq_natCast, decide_eq_true_eq, Bool.not_eq_true', decide_eq_false_iff_not, ge_iff_le, Int.not_lt] at h1;omega
  obtain ⟨i, hi⟩ : ∃ i : Nat, k + 1 + i = l.length := ⟨l.length - k - 1, by omega⟩
  have hI : Int.ofNat l.length - 1 - Int.ofNat k = Int.ofNat i := by simp only [Int.ofNat_eq_natCast]; omega
  obtain ⟨x, hx⟩ := B3 (l := l) (i := i) (by omega)
  rw [hI];refine Ob ?_;refine Hx (Pe ?_);refine Hx (Yo ?_);refine Im noR rfl rfl (Ag rfl) ?_;refine Im noR rfl rfl (Ag rfl) ?_;refine Im noR rfl rfl (Ae Zy rfl rfl rfl) ?_;refine Im noR rfl rfl (Ag rfl) ?_;refine Im noR rfl rfl (A3 Akq eS_len rfl rfl hx) ?_;refine Im noR rfl rfl (Ae Amo rfl rfl (Cb (eS_len x) _)) ?_;refine Aay (fun tm ht => rfl) rfl rfl rfl rfl (hy k i x σ0 hx hi hn0 hS0) fun σ1 hS1 hn1 => ?_
  refine Im noR rfl rfl (A8 rfl) ?_;refine Acz ?_
  refine Oc rfl (fun h2 => by cases h2) (fun h2 => ?_)
  refine Ob ?_;refine Ln (Aa ?_)
  refine OM rfl (O1 (Wf (p := Int.ofNat i) (q := 1) ok3 rfl rfl (by simp only [Int.ofNat_eq_natCast]; omega) (by simp only [Int.ofNat_eq_natCast]; omega)) ?_)
  refine OA rfl (Ab ?_)
  exact ⟨k + 1, by omega, ⟨rfl, rfl, congrArg (fun x => some (iV x)) (show Int.ofNat i - 1 = Int.ofNat l.length - 1 - Int.ofNat (k + 1) by simp only [Int.ofNat_eq_natCast]; omega), trivial⟩, hlt, hS1, Nat.le_trans hn0 hn1⟩
 ·have hge : l.length <= k := by
   have h1 := h1;simp only [Int.ofNat_eq_natCast, decide_eq_false_iff_not, decide_eq_true_eq, Bool.not_eq_false', ge_iff_le] at h1;omega
  refine Ae4 ?_
  have hkl : k = l.length := by omega
  subst hkl;exact hS0
structure ApS (σ : Sto) (l : List Sb) (k : Nat) (τ : Sto) : Prop where
 m : Bg szV τ (nx σ + 3) (G8 (l.drop (l.length - k)))
 c : τ.get (nx σ + 4) = some (.cells [.mp (nx σ + 3)])
 t : τ.get (nx σ + 1) = some (.cells zT)
 e : τ.get (nx σ + 2) = some (.cells [iV 0])
 lo : ∀ b, b < nx σ -> τ.get b = σ.get b
 rd : τ.get (nx σ + 6) = some (.loop .ready)
 n : nx σ + 7 <= nx τ
theorem f13 (t : Ay) (l : List Sb) (σ : Sto) (hc : By t <= 10000) (hll : l.length < 1000000) (hl : ∀ x ∈ l, By x.tree <= 4000) (ha : By (apT l t) <= 4000) (hd : dpT (apT l t) 1 <= 100) : Ah Ew 13 [A4 t, slV eS 3 l] σ fun v σ' => v = .tup [A4 (apT l t), iV 0] /\ σ' = σ := by
 refine Amn Tryz.func13 rfl rfl rfl rfl fun hw hu0 => ?_
 refine Aa (Ax Bq rfl (Bp (eT_len t)) rfl (Ax Zy rfl rfl rfl (O1 (D4 (n := nx σ + 1) Ku (Bo σ)) (O1 (D4 (n := nx σ + 2) zi33 (nx1 (Bo σ))) (Ab ?_)))));refine ⟨_, _, _, nx σ + 2, 0, rfl, rfl, rfl, ?_⟩;refine Ao6 ?_
 refine Aa (O1 (Cr (n := nx σ + 3) Ams (nx1 (nx1 (Bo σ)))) (O1 (D4 (n := nx σ + 4) zi102 (nx1 (nx1 (nx1 (Bo σ))))) (O1 (A6 (ad := nx σ + 4) (off := 0) (vs := [.nil (.map none)]) (vs' := [.mp (nx σ + 3)]) (cs := [.mp (nx σ + 3)]) Amr rfl rfl rfl (by simp only [Sto.cells]; rw [Sto.get_new, if_pos (nx1 (nx1 (nx1 (Bo σ)))).symm]) rfl) ?_)))
 refine Ab ?_;refine Ag7 ?_;refine Aa (O1 (Ae Zy rfl rfl rfl) (Aq rfl rfl rfl rfl (f58 l _) (Ab ?_)));obtain ⟨SR, hSR⟩ : ∃ s, s = (((((σ.bump.new (.cells [.str [], .nil (.slice none 0 0)])).new (.cells [.int .i64 0])).new (.map 9 [] 0)).new (.cells [.nil (.map none)])).set (nx σ + 4) (.cells [.mp (nx σ + 3)])) := ⟨_, rfl⟩;rw [← hSR];have e1 := Bo σ;have e2 := nx1 (o := .cells [.str [], .nil (.slice none 0 0)]) e1;have e3 := nx1 (o := .cells [.int .i64 0]) e2;have e4 := nx1 (o := .map 9 [] 0) e3;have e5 := nx1 (o := .cells [.nil (.map none)]) e4
 have hSRn : nx SR = nx σ + 5 := by rw [hSR, An, e5]
 have hg4 : SR.get (nx σ + 4) = some (.cells [.mp (nx σ + 3)]) := by rw [hSR, Sto.get_set, if_pos rfl]
 have hg3 : SR.get (nx σ + 3) = some (.map 9 [] 0) := by rw [hSR, Sto.get_set, if_neg (by omega), Sto.get_new, if_neg (by rw [e4]; omega), Sto.get_new, if_pos e3.symm]
 have hg1 : SR.get (nx σ + 1) = some (.cells zT) := by rw [hSR, Sto.get_set, if_neg (by omega), Sto.get_new, if_neg (by rw [e4]; omega), Sto.get_new, if_neg (by rw [e3]; omega), Sto.get_new, if_neg (by rw [e2]; omega), Sto.get_new, if_pos e1.symm]; rfl
 have hg2 : SR.get (nx σ + 2) = some (.cells [iV 0]) := by rw [hSR, Sto.get_set, if_neg (by omega), Sto.get_new, if_neg (by rw [e4]; omega), Sto.get_new, if_neg (by rw [e3]; omega), Sto.get_new, if_pos e2.symm]; rfl
 have hg0 : ∀ b, b < nx σ -> SR.get b = σ.get b := fun b hb => by rw [hSR, Sto.get_set, if_neg (by omega), Sto.get_new, if_neg (by rw [e4]; omega), Sto.get_new, if_neg (by rw [e3]; omega), Sto.get_new, if_neg (by rw [e2]; omega), Sto.get_new, if_neg (by rw [e1]; omega), Dv]
 clear hSR e2 e3 e4 e5;refine ⟨101, [.pv [slV eS 3 l]], _, fun σ' => ApS σ l l.length σ', rfl, Tryz.func101, S8 _ _ Tryz.func101, rfl, fun tm ht => ?_, fun σ' aD hS hn => ?_⟩
 ·rw [hSRn]
  have hsn : nx (SR.bump.new (.loop .ready)) = nx σ + 7 := by rw [Ap, Bo, hSRn]
  have hsb : nx SR.bump = nx σ + 6 := by rw [Bo, hSRn]
  refine Kh.post (it101 _ l _ (fun k σ' => ApS σ l k σ') hll ?_ ?_) fun σ' hS => ⟨hS.rd, hS⟩
  ·have hlow : ∀ b, b < nx σ + 6 -> (SR.bump.new (.loop .ready)).get b = SR.get b := fun b hb => by rw [Sto.get_new, if_neg (by rw [hsb]; omega), Dv]
   refine ⟨?_, (hlow _ (by omega)).trans hg4, (hlow _ (by omega)).trans hg1, (hlow _ (by omega)).trans hg2, fun b hb => (hlow b (by omega)).trans (hg0 b hb), by rw [Sto.get_new, if_pos hsb.symm], by rw [hsn]; exact nl⟩
   rw [Nat.sub_zero, List.drop_length]
   exact ⟨0, (hlow _ (by omega)).trans hg3⟩
  ·intro k i x σ' hx hki hn' hS;have hxm := List.mem_of_getElem? hx;have hnσ' := hS.n
   refine Amj (ρL := _) ht rfl rfl hS.rd (by show nx σ + 6 < nx σ'; omega) ?_
   refine Kg (by kernel_rfl) ?_
   refine B6 zi43 Amo rfl (fun _ => rfl) rfl (Bp (eS_len x)) rfl rfl ?_
   refine Ab ?_;refine ⟨hS.rd, ?_⟩
   have hB : ∀ b, b ≠ nx σ + 6 -> (σ'.set (nx σ + 6) (.loop .busy)).get b = σ'.get b := fun b hb => by rw [Sto.get_set, if_neg hb]
   have hmB : Bg szV (σ'.set (nx σ + 6) (.loop .busy)) (nx σ + 3) (G8 (l.drop (l.length - k))) := hS.m.of_get (hB _ (by omega))
   obtain ⟨vm, hvm⟩ := id hmB
   refine Aaw (Ao4 (Kg (by kernel_rfl) ?_))
   refine O1 (Ac Ac2 rfl rfl) (O1 (Ae (v := A4 x.tree) Bq rfl rfl (Be (eT_len x.tree))) (Aq rfl rfl rfl rfl (f59 x.tree _ 1 (by have := hl x hxm; omega) (hl x hxm)) ?_))
   refine OM rfl (O1 (Ao rfl rfl) (O1 (Ao rfl rfl) (OA rfl (OA rfl (Ab ?_)))))
   refine Kg (by kernel_rfl) ?_
   refine O1 (Ae (u := .pr (nx σ + 4) 0) (cs := [.mp (nx σ + 3)]) Amr rfl (by simp only [B2, Sto.cells]; rw [hB _ (by omega), hS.c]; rfl) rfl) ?_
   refine O1 (Ac Ahb rfl rfl) (O1 (Ae (v := sV x.label) ld9 rfl rfl rfl) (OM rfl (OM rfl (O1 (Ve (z := [.int .i64 0, .int .i64 0]) (by kernel_rfl) Amu rfl rfl) ?_))))
   refine O1 (Fj (v := szP x.tree) (enc := szV) st9 Ams rfl hvm rfl rfl (fun te k1 k2 => Gj k1 k2 rfl)) ?_
   refine Ab ?_
   have hdr : G8 (l.drop (l.length - (k + 1))) = (G8 (l.drop (l.length - k))).put x.label (szP x.tree) := by
    rw [show l.length - (k + 1) = i by omega, Bn hx, show i + 1 = l.length - k by omega]; rfl
   refine ⟨by rw [Sto.get_set, if_neg (by show ¬ nx σ + 6 = nx σ + 3; omega), Sto.get_set, if_pos rfl], ?_, ?_, ?_, ?_, fun b hb => ?_, by rw [Sto.get_set, if_pos rfl], by rw [An, An, An]; exact hnσ'⟩
   ·rw [hdr]
    exact Bg.set Bg.put (by show nx σ + 3 ≠ nx σ + 6; omega)
   ·rw [Sto.get_set, if_neg (by show ¬ nx σ + 4 = nx σ + 6; omega), Sto.get_set, if_neg (by omega), hB _ (by omega)]; exact hS.c
   ·rw [Sto.get_set, if_neg (by show ¬ nx σ + 1 = nx σ + 6; omega), Sto.get_set, if_neg (by omega), hB _ (by omega)]; exact hS.t
   ·rw [Sto.get_set, if_neg (by show ¬ nx σ + 2 = nx σ + 6; omega), Sto.get_set, if_neg (by omega), hB _ (by omega)]; exact hS.e
   ·rw [Sto.get_set, if_neg (by show ¬ b = nx σ + 6; omega), Sto.get_set, if_neg (by omega), hB _ (by omega)]; exact hS.lo b hb
 ·obtain ⟨K, hK⟩ : ∃ K, K = σ'.kill (nx SR + 1) := ⟨_, rfl⟩;rw [← hK]
  have hKg : ∀ b, b ≠ nx σ + 6 -> K.get b = σ'.get b := fun b hb => by rw [hK, hSRn, Sto.get_kill, if_neg hb]
  obtain ⟨B1, hB1⟩ : ∃ B1, nx K = B1 := ⟨_, rfl⟩
  have hB1n : nx σ + 7 <= B1 := by rw [← hB1, hK, Ck]; exact hS.n
  have hm0 : Bg szV K (nx σ + 3) (G8 l) := by
   have := hS.m;rw [Nat.sub_self, List.drop_zero] at this
   exact this.of_get (hKg _ (by omega))
  have hc0 : K.get (nx σ + 4) = some (.cells [.mp (nx σ + 3)]) := (hKg _ (by omega)).trans hS.c
  have ht0 : K.get (nx σ + 1) = some (.cells zT) := (hKg _ (by omega)).trans hS.t
  have he0 : K.get (nx σ + 2) = some (.cells [iV 0]) := (hKg _ (by omega)).trans hS.e
  have hlo0 : ∀ b, b < nx σ -> K.get b = σ.get b := fun b hb => (hKg b (by omega)).trans (hS.lo b hb)
  clear hK
  -- measure
  refine Ad (Aa (O1 (D4 (n := B1) zi107 hB1) (Ab (Ad (Aa (O1 (E8 rfl rfl) (O1 (A6 (ad := B1) (off := 0) (vs := [.nil .nilFunc]) (vs' := [.fn (.func 60) [] [.pr (nx σ + 4) 0, .pr B1 0]]) (cs := [.fn (.func 60) [] [.pr (nx σ + 4) 0, .pr B1 0]]) Amt rfl rfl rfl (by simp only [Sto.cells]; rw [Sto.get_new, if_pos hB1.symm]) rfl) ?_)))))))
  refine Ab ?_;obtain ⟨K1, hK1⟩ : ∃ s, s = ((K.new (.cells [.nil .nilFunc])).set B1 (.cells [.fn (.func 60) [] [.pr (nx σ + 4) 0, .pr B1 0]])) := ⟨_, rfl⟩;rw [← hK1]
  have hn1 : nx K1 = B1 + 1 := by rw [hK1, An, Ap, hB1]
  have hk1 : ∀ b, b < B1 -> K1.get b = K.get b := fun b hb => by rw [hK1, Sto.get_set, if_neg (by omega), Sto.get_new, if_neg (by rw [hB1]; omega)]
  have hf1 : K1.get B1 = some (.cells [.fn (.func 60) [] [.pr (nx σ + 4) 0, .pr B1 0]]) := by rw [hK1, Sto.get_set, if_pos rfl]
  clear hK1
  refine Ad (Aa (O1 (Ae (u := .pr B1 0) (cs := [.fn (.func 60) [] [.pr (nx σ + 4) 0, .pr B1 0]]) Amt rfl (by simp only [B2, Sto.cells, hf1]; rfl) rfl) ?_))
  refine O1 (Ae Bq rfl rfl (Be (eT_len t))) (Aq rfl rfl rfl rfl (f60 l (nx σ + 4) B1 (nx σ + 3) K1 ((hk1 _ (by omega)).trans hc0) hf1 (hm0.of_get (hk1 _ (by omega))) hl t 1 (by omega) ha) ?_)
  refine OM rfl (O1 (Ao rfl rfl) (O1 (Ao rfl rfl) (OA rfl (OA rfl (Ab (Ad (Ad ?_)))))));refine Aa (OM rfl (O1 (Cm (q := 4000) ok3 rfl rfl) (Ab ?_)));refine Ai rfl (fun h1 => ?_) (fun h1 => ?_)
  ·exact absurd h1 (by simp only [Int.ofNat_eq_natCast, decide_eq_true_eq]; omega)
  refine Aj (Ad (Ad (Aa (OM rfl (O1 (Cm (q := 100) ok3 rfl rfl) (Ab ?_))))));refine Ai rfl (fun h2 => ?_) (fun h2 => ?_)
  ·exact absurd h2 (by simp only [Int.ofNat_eq_natCast, decide_eq_true_eq]; omega)
  refine Aj ?_
  -- apply
  refine Ad (Aa (O1 (D4 (n := B1 + 1) zi99 hn1) (Ab (Ad (Aa (O1 (E8 rfl rfl) (O1 (A6 (ad := B1 + 1) (off := 0) (vs := [.nil .nilFunc]) (vs' := [.fn (.func 61) [] [.pv [slV eS 3 l], .pr (B1 + 1) 0]]) (cs := [.fn (.func 61) [] [.pv [slV eS 3 l], .pr (B1 + 1) 0]]) ld99 rfl rfl rfl (by simp only [Sto.cells]; rw [Sto.get_new, if_pos hn1.symm]) rfl) ?_)))))))
  refine Ab ?_;obtain ⟨K2, hK2⟩ : ∃ s, s = ((K1.new (.cells [.nil .nilFunc])).set (B1 + 1) (.cells [.fn (.func 61) [] [.pv [slV eS 3 l], .pr (B1 + 1) 0]])) := ⟨_, rfl⟩;rw [← hK2]
  have hn2 : nx K2 = B1 + 2 := by rw [hK2, An, Ap, hn1]
  have hk2 : ∀ b, b < B1 -> K2.get b = K.get b := fun b hb => by rw [hK2, Sto.get_set, if_neg (by omega), Sto.get_new, if_neg (by rw [hn1]; omega)]; exact hk1 b hb
  have hf2 : K2.get (B1 + 1) = some (.cells [.fn (.func 61) [] [.pv [slV eS 3 l], .pr (B1 + 1) 0]]) := by rw [hK2, Sto.get_set, if_pos rfl]
  clear hK2
  refine Ad (Aa (O1 (Ae (u := .pr (B1 + 1) 0) (cs := [.fn (.func 61) [] [.pv [slV eS 3 l], .pr (B1 + 1) 0]]) ld99 rfl (by simp only [B2, Sto.cells, hf2]; rfl) rfl) ?_))
  refine O1 (Ae Bq rfl rfl (Be (eT_len t))) (Aq rfl rfl rfl rfl (f61 l (B1 + 1) hll hl t K2 hf2 (by omega)) ?_)
  refine O1 (A6 (ad := nx σ + 1) (off := 0) (vs := zT) (vs' := eT (apT l t)) (cs := eT (apT l t)) Bq rfl rfl (Bp (eT_len _)) (by simp only [Sto.cells, hk2 _ (show nx σ + 1 < B1 by omega), ht0]) (Ey (eT_len _))) ?_
  refine O1 (A6 (ad := nx σ + 2) (off := 0) (vs := [iV 0]) (vs' := [iV 0]) (cs := [iV 0]) Ae7 rfl rfl rfl (by simp only [Sto.cells]; rw [Sto.get_set, if_neg (by omega), hk2 _ (by omega), he0]) rfl) ?_
  refine Ab ?_;refine Ak ?_
  exact ⟨[A4 (apT l t), iV 0], Cc (vs := eT (apT l t)) Bq rfl (by simp only [Sto.cells]; rw [Sto.get_set, if_neg (by omega), Sto.get_set, if_pos rfl]) (Be (eT_len _)) (Cc (vs := [iV 0]) Ae7 rfl (by simp only [Sto.cells]; rw [Sto.get_set, if_pos rfl]) rfl rfl), .tup [A4 (apT l t), iV 0], σ,
   Aw.below hw ⟨by rw [An, An, hn2]; omega, fun b hb => by rw [Sto.get_set, if_neg (by omega), Sto.get_set, if_neg (by omega), hk2 b (by omega)]; exact hlo0 b hb⟩, nl, .same (by show (AV.und _ (A4 (apT l t)) && (true && true)) = true; rw [Ya]; rfl), rfl, rfl⟩
mutual
theorem An2 : ∀ (a b : Ay), eqT a b = true -> a = b
 | .node l ks, .node lt kt, h => by
  rw [eqT] at h;simp only [Bool.and_eq_true, decide_eq_true_eq, Bool.not_not] at h;obtain ⟨h1, h2, h3⟩ := h;rw [h1, Ajn ks kt (Int.ofNat.inj h2) h3]
theorem Ajn : ∀ (l m : List Ay), l.length = m.length -> Yv l m = true -> l = m
 | [], [], _, _ => rfl
 | [], _ :: _, h, _ => by cases h
 | _ :: _, [], h, _ => by cases h
 | a :: r, b :: s, h, h2 => by
  rw [Yv] at h2;simp only [Bool.and_eq_true] at h2
  rw [An2 a b h2.1, Ajn r s (by simpa using h) h2.2]
end
mutual
theorem Ov : ∀ (a : Ay), eqT a a = true
 | .node l ks => by rw [eqT, Abl ks]; simp
theorem Abl : ∀ (l : List Ay), Yv l l = true
 | [] => by rw [Yv]
 | a :: r => by rw [Yv, Ov a, Abl r]; rfl
end
theorem Abm : ∀ {l : List Sb} {s : Str} {u : Ay} {x : Sb}, Cp l s = some u -> Cp (l ++ [x]) s = some u
 | a :: r, s, u, x, h => by
  unfold Cp at h
  show (if a.label = s then some a.tree else Cp (r ++ [x]) s) = some u
  split at h
  ·rename_i h1; rw [if_pos h1]; exact h
  ·rename_i h1; rw [if_neg h1]; exact Abm h
theorem Abn : ∀ {l : List Sb} {x : Sb}, Cp l x.label = none -> Cp (l ++ [x]) x.label = some x.tree
 | [], x, _ => by show (if x.label = x.label then some x.tree else none) = _; rw [if_pos rfl]
 | a :: r, x, h => by
  unfold Cp at h
  show (if a.label = x.label then some a.tree else Cp (r ++ [x]) x.label) = _
  split at h
  ·cases h
  ·rename_i h1; rw [if_neg h1]; exact Abn h
theorem Uv : ∀ {l : List Sb} {s : Str} {u : Ay}, Cp l s = some u -> ∃ x ∈ l, x.label = s /\ x.tree = u
 | a :: r, s, u, h => by
  unfold Cp at h
  split at h
  ·rename_i h1; cases h; exact ⟨a, List.mem_cons_self .., h1, rfl⟩
  ·obtain ⟨x, h2, h3⟩ := Uv h; exact ⟨x, List.mem_cons_of_mem _ h2, h3⟩
def Vp (a b : List Sb) : Prop := ∀ s u, Cp a s = some u -> Cp b s = some u
theorem Vp.trans {a b c : List Sb} (h : Vp a b) (k : Vp b c) : Vp a c := fun s u q => k s u (h s u q)
def Abo (g : Gr) (m : SM Rl) (o : List Sb) : Prop := ∀ x ∈ o, Lr g m x.label = true
section
variable {g : Gr} {m : SM Rl}
mutual
theorem Aqd : ∀ (p t : Ay) (out : List Sb), Vp out (mtT g m p t out).2
 | .node l ks, t, out => by
  rw [mtT]
  split
  ·cases hf : Cp out l with
   | some was => exact fun s u h => h
   | none => exact fun s u h => Abm h
  ·split
   ·exact fun s u h => h
   ·exact An3 ks (Kr t) out
theorem An3 : ∀ (ks ts : List Ay) (out : List Sb), Vp out (mtL g m ks ts out).2
 | [], _, out => by rw [mtL]; exact fun s u h => h
 | _ :: _, [], out => by rw [mtL]; exact fun s u h => h
 | k :: r, t :: s, out => by
  rw [mtL]
  split
  ·exact Aqd k t out
  ·exact (Aqd k t out).trans (An3 r s _)
end
mutual
theorem An4 : ∀ (p t : Ay) (out : List Sb), Abo g m out -> Abo g m (mtT g m p t out).2
 | .node l ks, t, out, h => by
  rw [mtT]
  split
  ·rename_i hb
   cases hf : Cp out l with
   | some was => exact h
   | none =>
    intro x hx
    rcases List.mem_append.1 hx with hx | hx
    ·exact h x hx
    ·rw [List.mem_singleton.1 hx];simp only [Bool.and_eq_true] at hb;exact hb.2
  ·split
   ·exact h
   ·exact Aqe ks (Kr t) out h
theorem Aqe : ∀ (ks ts : List Ay) (out : List Sb), Abo g m out -> Abo g m (mtL g m ks ts out).2
 | [], _, out, h => by rw [mtL]; exact h
 | _ :: _, [], out, h => by rw [mtL]; exact h
 | k :: r, t :: s, out, h => by
  rw [mtL]
  split
  ·exact An4 k t out h
  ·exact Aqe r s _ (An4 k t out h)
end
mutual
theorem Aqf : ∀ (p t : Ay) (out o : List Sb), (mtT g m p t out).1 = true -> Vp (mtT g m p t out).2 o -> Abo g m o -> apT o p = t
 | .node l ks, t, out, o, h, hle, hpl => by
  rw [mtT] at h hle
  by_cases h1 : (decide (Int.ofNat ks.length = 0) && Lr g m l) = true
  ·rw [if_pos h1] at h hle
   have hz : decide (Int.ofNat ks.length = 0) = true := by simp only [Bool.and_eq_true] at h1; exact h1.1
   cases hf : Cp out l with
   | some was =>
    simp only [hf] at h hle;rw [apT, L9, if_pos hz, hle l was hf];exact An2 _ _ h
   | none =>
    simp only [hf] at h hle;rw [apT, L9, if_pos hz, hle l t (Abn (x := ⟨l, t⟩) hf)]
  ·rw [if_neg h1] at h hle
   by_cases h2 : (!decide (l = Z2 t) || !decide (Int.ofNat ks.length = Int.ofNat (Kr t).length)) = true
   ·rw [if_pos h2] at h; cases h
   ·rw [if_neg h2] at h hle
    have h2 : (!decide (l = Z2 t) || !decide (Int.ofNat ks.length = Int.ofNat (Kr t).length)) = false := by simpa using h2
    simp only [Bool.or_eq_false_iff, Bool.not_eq_false', decide_eq_true_eq] at h2;have hlen : ks.length = (Kr t).length := Int.ofNat.inj h2.2;have hap := Aqg ks (Kr t) out o hlen h hle hpl
    have hlf : L9 o l ks = none := by
     unfold L9
     split
     ·rename_i hz
      cases hf : Cp o l with
      | none => rfl
      | some u =>
       obtain ⟨x, hx, hxl, _⟩ := Uv hf;have := hpl x hx;rw [hxl] at this
       exact absurd (by rw [hz, this]; rfl) h1
     ·rfl
    rw [apT, hlf]
    show Ay.node l (apL o ks) = t
    rw [hap, h2.1];cases t; rfl
theorem Aqg : ∀ (ks ts : List Ay) (out o : List Sb), ks.length = ts.length -> (mtL g m ks ts out).1 = true -> Vp (mtL g m ks ts out).2 o -> Abo g m o -> apL o ks = ts
 | [], [], _, _, _, _, _, _ => by rw [apL]
 | [], _ :: _, _, _, h, _, _, _ => by cases h
 | _ :: _, [], _, _, h, _, _, _ => by cases h
 | k :: r, t :: s, out, o, hl, h, hle, hpl => by
  rw [mtL] at h hle
  by_cases h1 : (!(mtT g m k t out).1) = true
  ·rw [if_pos h1] at h; cases h
  ·rw [if_neg h1] at h hle
   have hk : (mtT g m k t out).1 = true := by simpa using h1
   rw [apL, Aqf k t out o hk ((An3 r s _).trans hle) hpl, Aqg r s _ o (by simpa using hl) h hle hpl]
end
def Ajo (o : List Sb) : Prop := ∀ x ∈ o, x.tree = .node x.label []
mutual
theorem Ajp : ∀ (t : Ay) (out : List Sb), Ajo out -> (mtT g m t t out).1 = true /\ Ajo (mtT g m t t out).2
 | .node l ks, out, h => by
  rw [mtT]
  by_cases h1 : (decide (Int.ofNat ks.length = 0) && Lr g m l) = true
  ·rw [if_pos h1]
   have hz : ks = [] := by
    simp only [Bool.and_eq_true, decide_eq_true_eq] at h1;exact List.length_eq_zero_iff.1 (Int.ofNat.inj h1.1)
   cases hf : Cp out l with
   | some was =>
    obtain ⟨x, hx, hxl, hxt⟩ := Uv hf;have := h x hx;simp only [];refine ⟨?_, h⟩;rw [← hxt, this, hxl, hz];exact Ov _
   | none =>
    simp only [];refine ⟨trivial, fun x hx => ?_⟩
    rcases List.mem_append.1 hx with hx | hx
    ·exact h x hx
    ·rw [List.mem_singleton.1 hx, hz]
  ·rw [if_neg h1, if_neg (by show ¬ (!decide (l = l) || !decide (Int.ofNat ks.length = Int.ofNat ks.length)) = true; simp)]
   exact Ajq ks out h
theorem Ajq : ∀ (ks : List Ay) (out : List Sb), Ajo out -> (mtL g m ks ks out).1 = true /\ Ajo (mtL g m ks ks out).2
 | [], out, h => by rw [mtL]; exact ⟨rfl, h⟩
 | k :: r, out, h => by
  obtain ⟨h1, h2⟩ := Ajp k out h
  rw [mtL, if_neg (by rw [h1]; simp)]
  exact Ajq r _ h2
end
end
theorem An5 {d : Db} {p t : Ay} (h : (Cn d p t).2 = 0) : apT (Cn d p t).1 p = t := by
 unfold Cn at h ⊢
 split at h
 ·rename_i h1; simp at h1; exact absurd h h1
 ·split at h
  ·rename_i h1 h2; simp at h2; exact absurd h h2
  ·split at h
   ·cases h
   ·split at h
    ·cases h
    ·rename_i h1 h2 h3 h4
     rw [if_neg h1, if_neg h2, if_neg h3, if_neg h4]
     exact Aqf p t [] _ (by simpa using h4) (fun s u q => q) (An4 p t [] fun x hx => by cases hx)
theorem Abp {d : Db} {p t : Ay} (hp : By p <= 60) (ht : By t <= 60) : (Cn d p t).1.length <= 60 /\ ∀ x ∈ (Cn d p t).1, By x.tree <= 60 := by
 have h0 : ([] : List Sb).length <= 60 /\ ∀ x ∈ ([] : List Sb), By x.tree <= 60 := ⟨by simp, fun x hx => by cases hx⟩
 unfold Cn
 split
 ·exact h0
 ·split
  ·exact h0
  ·split
   ·exact h0
   ·split
    ·exact h0
    ·refine ⟨?_, Adm _ _ 60 p t [] ht fun x hx => by cases hx⟩
     have := Wp (gO d) (mO d) p t [];simp only [List.length_nil] at this; show (mtT (gO d) (mO d) p t []).2.length <= 60; omega
theorem Ahw (d : Db) (t : Ay) : (Cn d t t).2 = (Ks d t).2 /\ ∀ x ∈ (Cn d t t).1, x.tree = .node x.label [] := by
 obtain ⟨h1, h2⟩ := Ajp (g := gO d) (m := mO d) t [] fun x hx => by cases hx
 unfold Cn Ks
 split
 ·exact ⟨rfl, fun x hx => by cases hx⟩
 ·by_cases hc : (!decide (V5 (gO d) (mO d) t = 0)) = true
  ·have e : Jh (gO d) (mO d) [t, t] = V5 (gO d) (mO d) t := by rw [Jh, if_pos hc]
   rw [e, if_pos hc, if_pos hc]
   exact ⟨rfl, fun x hx => by cases hx⟩
  ·have e : Jh (gO d) (mO d) [t, t] = 0 := by rw [Jh, if_neg hc, Jh, if_neg hc, Jh]
   rw [e, if_neg hc, if_neg (by simp), if_neg (by simp), if_neg (by rw [h1]; simp)]
   exact ⟨rfl, h2⟩
theorem An6 {d : Db} (h : Ada d 20 100 = true) : DbS d := by
 unfold Ada at h;simp only [Bool.and_eq_true, decide_eq_true_eq, Int.ofNat_eq_natCast, Bool.not_eq_true'] at h;obtain ⟨⟨⟨h1, h2⟩, h3⟩, h4⟩ := h
 refine ⟨⟨fun f hf => ?_, by omega, by omega, by omega⟩, by omega⟩
 have hf := List.any_eq_false.1 h4 f hf;simp only [bigF, Bool.or_eq_true, decide_eq_true_eq, Int.ofNat_eq_natCast, List.any_eq_true, not_or, not_exists, not_and] at hf;obtain ⟨⟨⟨⟨⟨⟨⟨⟨k1, k2⟩, k3⟩, k4⟩, k5⟩, k6⟩, k7⟩, k8⟩, k9⟩ := hf
 refine ⟨by omega, by unfold Fr.all; simp; omega, by omega, fun h hh => ?_, by omega, by omega⟩
 have : Yt h = false := by
  rcases List.mem_append.1 (show h ∈ f.hyps ++ f.dummies by simpa [Fr.all] using hh) with hh | hh
  ·have := k7 h hh; simpa using this
  ·have := k8 h hh; simpa using this
 unfold Yt at this;simp only [decide_eq_false_iff_not, Int.ofNat_eq_natCast] at this;omega
theorem An7 {t : Ay} (h : Aku t 60 = true) (hl : G7 t) : TrS t /\ By t <= 60 := by
 have hc : By t <= 60 := Arg (n := 60) h
 exact ⟨⟨hl, by omega, by have := (Rs t 1).2; omega⟩, hc⟩
theorem f13t {d : Db} {p t : Ay} {e0 : Int} (he : 0 = e0) (σ : Sto) (hp : By p <= 60) (ht : By t <= 60) (h : (Cn d p t).2 = 0) : Ah Ew 13 [A4 p, slV eS 3 (Cn d p t).1] σ fun v σ' => v = .tup [A4 t, iV e0] /\ σ' = σ := by
 subst he;have hap := An5 h;obtain ⟨h1, h2⟩ := Abp (d := d) hp ht
 have := f13 p (Cn d p t).1 σ (by omega) (by omega) (fun x hx => by have := h2 x hx; omega) (by rw [hap]; omega) (by rw [hap]; have := (Rs t 1).2; omega)
 rwa [hap] at this
theorem f3 (d : Db) (p t : Ay) (σ : Sto) (hlp : G7 p) (hlt : G7 t) (hA : ∀ τ, Ah Ew 11 [] τ fun v σ' => v = .bool true /\ σ' = τ) : Ah Ew 3 [dbV d, A4 p, A4 t] σ fun v σ' => v = .bool true /\ σ' = σ := by
 refine A2 Tryz.func3 rfl rfl fun hw hu0 => ?_
 refine Ad (Aa (Ax Ki rfl rfl rfl (Ax Bq rfl (Bp (eT_len p)) rfl (Ax Bq rfl (Bp (eT_len t)) rfl (OA rfl (Ab (Ad ?_)))))))
 refine Ad (Aa (O1 (Ae Ki rfl rfl rfl) (Aq rfl rfl rfl rfl (f9 d 20 100 _ (by decide) (by decide)) ?_)))
 refine O1 (A8 rfl) (OM rfl ?_);refine Co 3 _ ?_ rfl rfl rfl rfl rfl (Av rfl) (fun hg => ?_) (fun hg => ?_) ?_
 rotate_left
 ·refine On hg (Ae Bq rfl rfl (Be (eT_len p))) (B0 rfl rfl rfl (by rw [hg]; rfl) rfl rfl rfl rfl (f10 p 60 _ (by decide) (by decide)) ?_)
  refine On hg (A8 rfl) (Ab ?_);refine ⟨rfl, ?_, ?_⟩
  ·exact sb
  ·exact rfl
 ·refine Of hg (Of hg (Of hg (Ab ?_)));exact ⟨rfl, sb⟩
 refine OM rfl ?_;refine Co 3 _ ?_ rfl rfl rfl rfl rfl (Av rfl) (fun hg => ?_) (fun hg => ?_) ?_
 rotate_left
 ·refine On hg (Ae Bq rfl rfl (Be (eT_len t))) (B0 rfl rfl rfl (by rw [hg]; rfl) rfl rfl rfl rfl (f10 t 60 _ (by decide) (by decide)) ?_)
  refine On hg (A8 rfl) (Ab ?_);refine ⟨rfl, ?_, ?_⟩
  ·exact sb
  ·exact rfl
 ·refine Of hg (Of hg (Of hg (Ab ?_)));exact ⟨rfl, sb⟩
 refine Ab ?_;refine Ai rfl (fun h1 => ?_) (fun h1 => ?_)
 ·refine Ad (Aa (Aq rfl rfl rfl rfl (hA _) (OA rfl (Ab ?_))));refine Ak (Bw hw rfl ?_)
  rfl
 ·have hD : DbS d := An6 (by cases h : Ada d 20 100 with | true => rfl | false => rw [h] at h1; cases h1)
  obtain ⟨hp, hpc⟩ := An7 (t := p) (by cases h : Aku p 60 with | true => rfl | false => rw [h] at h1; simp at h1) hlp
  obtain ⟨ht, htc⟩ := An7 (t := t) (by cases h : Aku t 60 with | true => rfl | false => rw [h] at h1; simp at h1) hlt
  obtain ⟨hol, hou⟩ := Abp (d := d) htc htc;have hself := Ahw d t;refine Aj (Ad (Aa (O1 (Ae Ki rfl rfl rfl) (O1 (Ae Bq rfl rfl (Be (eT_len p))) (O1 (Ae Bq rfl rfl (Be (eT_len t))) (Aq rfl rfl rfl rfl (f12 d p t _ hD hp ht) (OM rfl ?_)))))));refine O1 (Ao rfl rfl) (O1 (Ao rfl rfl) (OA rfl (OA rfl (Ab (Ad (Ad (Aa ?_)))))));refine OM rfl (O1 (Dq (q := 0) Jp rfl rfl) (Ab ?_));refine Ai rfl (fun h2 => ?_) (fun h2 => ?_)
  ·have he0 : (Cn d p t).2 = 0 := by simpa using h2
   obtain ⟨e0, he00⟩ : ∃ e0 : Int, 0 = e0 := ⟨_, rfl⟩;refine Ad (Aa (O1 (Ae Bq rfl rfl (Be (eT_len p))) (OM rfl (Aq rfl rfl rfl rfl (f13t he00 _ hpc htc he0) (OM rfl (O1 (Ao rfl rfl) (O1 (Ao rfl rfl) ?_)))))));refine B6 Ku Bq rfl (fun _ => rfl) rfl (Bp (eT_len t)) rfl rfl ?_
   refine OA rfl (Ab (Ad (Aa (OM rfl (O1 (C9 (q := 0) Jp rfl rfl) (OM rfl ?_))))));refine Co 4 _ ?_ rfl rfl rfl rfl rfl (Av rfl) (fun hg => ?_) (fun hg => ?_) ?_
   rotate_left
   ·refine On hg (Ae Bq rfl rfl (Be (eT_len t))) (On hg (Ae Bq rfl rfl (Be (eT_len t))) (B0 rfl rfl rfl (by rw [hg]; rfl) rfl rfl rfl rfl (f14 t t _ (Oq t (by omega))) ?_))
    refine On hg (A8 rfl) (Ab ?_);refine ⟨rfl, ?_, ?_⟩
    ·exact sb
    ·exact rfl
   ·refine Of hg (Of hg (Of hg (Of hg (Ab ?_))));exact ⟨rfl, sb⟩
   refine Ab ?_;refine Ai rfl (fun h3 => ?_) (fun h3 => ?_)
   ·exact absurd h3 (by rw [Ov, ← he00]; decide)
   ·refine Aj (Ad (Aa (O1 (Ae Ki rfl rfl rfl) (O1 (Ae Bq rfl rfl (Be (eT_len t))) (O1 (Ae Bq rfl rfl (Be (eT_len t))) (Aq rfl rfl rfl rfl (f12 d t t _ hD ht ht) (OM rfl ?_)))))));refine O1 (Ao rfl rfl) (O1 (Ao rfl rfl) (OA rfl (OA rfl (Ab (Ad (Ad (Aa ?_)))))));refine O1 (Ae Ki rfl rfl rfl) (O1 (Ae Bq rfl rfl (Be (eT_len t))) (Aq rfl rfl rfl rfl (f15 d t _ hD ht) (OM rfl (O1 (Ao rfl rfl) (O1 (Ao rfl rfl) (OA rfl (OA rfl ?_)))))));refine Ab (Ad (Aa (OM rfl (O1 (C9 (q := 0) Jp rfl rfl) (OM rfl ?_)))));refine Co 2 _ ?_ rfl rfl rfl rfl rfl (Av rfl) (fun hg => ?_) (fun hg => ?_) ?_
    rotate_left
    ·refine On hg (Ag rfl) (On hg (C9 (q := 0) Jp rfl rfl) (Ab ?_));refine ⟨rfl, ?_, ?_⟩
     ·exact sb
     ·exact rfl
    ·refine Of hg (Of hg (Ab ?_));exact ⟨rfl, sb⟩
    refine Ab ?_;refine Ai rfl (fun h4 => ?_) (fun h4 => ?_)
    ·refine Ad (Aa (OM rfl (OM rfl (O1 (Dq Jp rfl rfl) (OM rfl ?_)))));refine Cv 1 _ ?_ rfl rfl rfl rfl rfl (Av rfl) (fun hg => ?_) (fun hg => ?_) ?_
     rotate_left
     ·refine B0 rfl rfl rfl (by rw [hg]; rfl) rfl rfl rfl rfl (hA _) ?_
      refine Ab ?_;refine ⟨rfl, ?_, ?_⟩
      ·exact sb
      ·exact rfl
     ·refine Of hg (Ab ?_);exact ⟨rfl, sb⟩
     refine OA rfl (Ab ?_);refine Ak (Bw hw rfl ?_);rw [hself.1]; simp [Np]
    ·refine Aj (Ad (Aa (OM rfl (Aq rfl rfl rfl rfl (f16 (fun x => !(eqT x.tree (.node x.label []))) (Cn d t t).1 17 [] _ (by omega) (fun x hx => f17 x _ (Oq x.tree (by have := hou x hx; omega)))) ?_))))
     refine O1 (A8 rfl) (OM rfl ?_);refine Cv 1 _ ?_ rfl rfl rfl rfl rfl (Av rfl) (fun hg => ?_) (fun hg => ?_) ?_
     rotate_left
     ·refine B0 rfl rfl rfl (by rw [hg]; rfl) rfl rfl rfl rfl (hA _) ?_
      refine Ab ?_;refine ⟨rfl, ?_, ?_⟩
      ·exact sb
      ·exact rfl
     ·refine Of hg (Ab ?_);exact ⟨rfl, sb⟩
     refine OA rfl (Ab ?_);refine Ak (Bw hw rfl ?_)
     rw [show ((Cn d t t).1.any fun x => !(eqT x.tree (.node x.label []))) = false by rw [List.any_eq_false]; intro x hx; rw [hself.2 x hx, Ov]; simp]; rfl
  ·refine Aj (Ad (Aa (O1 (Ae Ki rfl rfl rfl) (O1 (Ae Bq rfl rfl (Be (eT_len t))) (O1 (Ae Bq rfl rfl (Be (eT_len t))) (Aq rfl rfl rfl rfl (f12 d t t _ hD ht ht) (OM rfl ?_)))))));refine O1 (Ao rfl rfl) (O1 (Ao rfl rfl) (OA rfl (OA rfl (Ab (Ad (Ad (Aa ?_)))))));refine O1 (Ae Ki rfl rfl rfl) (O1 (Ae Bq rfl rfl (Be (eT_len t))) (Aq rfl rfl rfl rfl (f15 d t _ hD ht) (OM rfl (O1 (Ao rfl rfl) (O1 (Ao rfl rfl) (OA rfl (OA rfl ?_)))))));refine Ab (Ad (Aa (OM rfl (O1 (C9 (q := 0) Jp rfl rfl) (OM rfl ?_)))));refine Co 2 _ ?_ rfl rfl rfl rfl rfl (Av rfl) (fun hg => ?_) (fun hg => ?_) ?_
   rotate_left
   ·refine On hg (Ag rfl) (On hg (C9 (q := 0) Jp rfl rfl) (Ab ?_));refine ⟨rfl, ?_, ?_⟩
    ·exact sb
    ·exact rfl
   ·refine Of hg (Of hg (Ab ?_));exact ⟨rfl, sb⟩
   refine Ab ?_;refine Ai rfl (fun h3 => ?_) (fun h3 => ?_)
   ·refine Ad (Aa (OM rfl (OM rfl (O1 (Dq Jp rfl rfl) (OM rfl ?_)))));refine Cv 1 _ ?_ rfl rfl rfl rfl rfl (Av rfl) (fun hg => ?_) (fun hg => ?_) ?_
    rotate_left
    ·refine B0 rfl rfl rfl (by rw [hg]; rfl) rfl rfl rfl rfl (hA _) ?_
     refine Ab ?_;refine ⟨rfl, ?_, ?_⟩
     ·exact sb
     ·exact rfl
    ·refine Of hg (Ab ?_);exact ⟨rfl, sb⟩
    refine OA rfl (Ab ?_);refine Ak (Bw hw rfl ?_);rw [hself.1]; simp [Np]
   ·refine Aj (Ad (Aa (OM rfl (Aq rfl rfl rfl rfl (f16 (fun x => !(eqT x.tree (.node x.label []))) (Cn d t t).1 17 [] _ (by omega) (fun x hx => f17 x _ (Oq x.tree (by have := hou x hx; omega)))) ?_))))
    refine O1 (A8 rfl) (OM rfl ?_);refine Cv 1 _ ?_ rfl rfl rfl rfl rfl (Av rfl) (fun hg => ?_) (fun hg => ?_) ?_
    rotate_left
    ·refine B0 rfl rfl rfl (by rw [hg]; rfl) rfl rfl rfl rfl (hA _) ?_
     refine Ab ?_;refine ⟨rfl, ?_, ?_⟩
     ·exact sb
     ·exact rfl
    ·refine Of hg (Ab ?_);exact ⟨rfl, sb⟩
    refine OA rfl (Ab ?_);refine Ak (Bw hw rfl ?_)
    rw [show ((Cn d t t).1.any fun x => !(eqT x.tree (.node x.label []))) = false by rw [List.any_eq_false]; intro x hx; rw [hself.2 x hx, Ov]; simp]; rfl
end Go.AM
