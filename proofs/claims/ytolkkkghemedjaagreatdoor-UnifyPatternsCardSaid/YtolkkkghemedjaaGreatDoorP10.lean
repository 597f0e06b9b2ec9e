/- A part of the proof; shortened by program. -/
import Derived.Shelf.LaysM
import Derived.Shelf.LaysC
import Derived.Shelf.Strconv.Itoa3
import Derived.Shelf.Strconv.AtoiAll
import Derived.Shelf.Strconv.ErrVarAll
import Derived.Shelf.Strings.LastIndex
import Derived.Lib.ItoaNum
import Derived.Lib.AppendIntMem
import Derived.Lib.AtoiAll
import Derived.Test.YtolkkkghemedjaaGreatDoorP09
set_option maxRecDepth 100000
set_option linter.unusedSimpArgs false
set_option linter.unusedVariables false
namespace Go.AM
open Go Go.Proofs
mutual
def By : Ay -> Nat
 | .node _ ks => 1 + D5 ks
def D5 : List Ay -> Nat
 | [] => 0
 | t :: r => By t + D5 r
end
mutual
def dpT : Ay -> Nat -> Nat
 | .node _ ks, lv => dpL ks (lv + 1) lv
def dpL : List Ay -> Nat -> Nat -> Nat
 | [], _, d => d
 | t :: r, lv, d => dpL r lv (max d (dpT t lv))
end
theorem Afv (t : Ay) : 1 <= By t := by cases t; unfold By; omega
theorem Oo : ∀ (l m : List Ay), D5 (l ++ m) = D5 l + D5 m
 | [], m => by simp [D5]
 | t :: r, m => by simp only [List.cons_append, D5, Oo r m]; omega
theorem Adk : ∀ (l m : List Ay) (lv d : Nat), dpL (l ++ m) lv d = dpL m lv (dpL l lv d)
 | [], m, lv, d => by simp [dpL]
 | t :: r, m, lv, d => by simp only [List.cons_append, dpL, Adk r m]
theorem Anm {α : Type} {l : List α} {i : Nat} {a : α} (h : l[i]? = some a) : l.take (i + 1) = l.take i ++ [a] := by
 rw [List.take_add_one, h]; rfl
theorem Abd {l : List Ay} {i : Nat} {a : Ay} (h : l[i]? = some a) : D5 (l.take i) + By a <= D5 l := by
 have e : D5 l = D5 (l.take (i + 1)) + D5 (l.drop (i + 1)) := by rw [← Oo, List.take_append_drop]
 rw [e, Anm h, Oo]; simp only [D5]; omega
theorem Gs : ∀ {l : List Ay} {a : Ay}, a ∈ l -> By a <= D5 l
 | x :: r, a, h => by
  unfold D5
  rcases List.mem_cons.1 h with rfl | h
  ·omega
  ·have := Gs h; omega
theorem H7 : ∀ l : List Ay, l.length <= D5 l
 | [] => nl
 | t :: r => by have := H7 r; have := Afv t; simp only [List.length_cons, D5]; omega
mutual
theorem Rs : ∀ (t : Ay) (lv : Nat), lv <= dpT t lv /\ dpT t lv + 1 <= lv + By t
 | .node _ ks, lv => by
  unfold dpT By;have := Ano ks (lv + 1) lv;omega
theorem Ano : ∀ (l : List Ay) (lv d : Nat), d <= dpL l lv d /\ dpL l lv d + 1 <= max (d + 1) (lv + D5 l)
 | [], lv, d => by unfold dpL; exact ⟨nl, by omega⟩
 | t :: r, lv, d => by
  unfold dpL D5;have h1 := Rs t lv;have h2 := Ano r lv (max d (dpT t lv));have h3 := Afv t;omega
end
theorem Ci (l : Str) (ks : List Ay) : A4 (.node l ks) = .agg [sV l, slV eT 2 ks] := by rw [A4, Hs]
mutual
theorem Ajg : ∀ (t : Ay) (n : Int), 0 <= Ll t n -> Int.ofNat (By t) = n - Ll t n
 | .node _ ks, n, h => by
  unfold Ll at h ⊢;unfold By;have := Afw ks (n - 1) h;simp only [Int.ofNat_eq_natCast] at *; omega
theorem Afw : ∀ (l : List Ay) (n : Int), 0 <= Mx l n -> Int.ofNat (D5 l) = n - Mx l n
 | [], n, h => by unfold Mx D5; simp
 | t :: r, n, h => by
  unfold Mx at h ⊢;unfold D5
  split at h
  ·rename_i h0
   rw [if_pos h0];have h2 := Afw r (Ll t n) h
   have h3 : 0 <= Ll t n := by
    by_cases hh : 0 <= Ll t n
    ·exact hh
    ·rw [Aeq (by omega)] at h; omega
   have h1 := Ajg t n h3;simp only [Int.ofNat_eq_natCast] at *; omega
  ·omega
end
theorem Arg {t : Ay} {n : Nat} (h : Aku t (Int.ofNat n) = true) : By t <= n := by
 have h1 : 0 <= Ll t (Int.ofNat n) := by simpa [Aku] using h
 have h2 := Ajg t _ h1;simp only [Int.ofNat_eq_natCast] at *; omega
mutual
theorem Oq : ∀ (t : Ay), By t <= 1000000000 -> L4 t = true
 | .node _ ks, h => by
  unfold By at h;unfold L4;have h1 := H7 ks
  have h2 := Abe ks (by omega)
  simp only [Bool.and_eq_true, h2, and_true]
  simp; omega
theorem Abe : ∀ (l : List Ay), D5 l <= 1000000000 -> Rb l = true
 | [], _ => by unfold Rb; rfl
 | t :: r, h => by
  unfold D5 at h;unfold Rb
  rw [Oq t (by omega), Abe r (by omega)]; rfl
end
theorem f59n (l : Str) (ks : List Ay) (lv : Nat) (σ : Sto) (hl : lv + By (.node l ks) <= 20000) (hc : By (.node l ks) <= 4000) (ih : ∀ k ∈ ks, Ah Ew 59 [A4 k, iV (.ofNat (lv + 1))] σ fun v σ' => v = .tup [iV (.ofNat (By k)), iV (.ofNat (dpT k (lv + 1)))] /\ σ' = σ) : Ah Ew 59 [A4 (.node l ks), iV (.ofNat lv)] σ fun v σ' => v = .tup [iV (.ofNat (By (.node l ks))), iV (.ofNat (dpT (.node l ks) lv))] /\ σ' = σ := by
 have hcn : 1 + D5 ks <= 4000 := by unfold By at hc; exact hc
 have hln : lv + (1 + D5 ks) <= 20000 := by unfold By at hl; exact hl
 have hbk := H7 ks;simp only [Ci];refine A2 Tryz.func59 rfl rfl fun hw hu0 => ?_
 refine Ad (Aa (Ax Bq rfl rfl rfl (OA rfl (OA rfl (Ab (Ad (Aa ?_)))))));refine OM rfl (OA rfl (OA rfl (Ab (Ad (Ad (Aa (O1 (Ac Dk rfl rfl) ?_)))))));refine O1 (Ae H8 rfl rfl rfl) (O1 (As Kj rfl) (OM rfl (Ab (Am ?_))))
 refine Cg ks.length (fun i0 => [(1, iV (.ofNat lv)), (4, iV (.ofNat (1 + D5 (ks.take i0)))), (5, iV (.ofNat (dpL (ks.take i0) (lv + 1) lv))), (12, slV eT 2 ks), (13, iV (.ofNat ks.length)), (14, iV (.ofNat i0))]) (fun i0 σ0 => σ0 = σ) ⟨rfl, congrArg (fun x => some (iV x)) (show Int.ofNat 1 = Int.ofNat (1 + D5 (ks.take 0)) by simp [D5]), congrArg (fun x => some (iV x)) (show Int.ofNat lv = Int.ofNat (dpL (ks.take 0) (lv + 1) lv) by simp [dpL]), rfl, rfl, rfl, trivial⟩ rfl ?_
 rintro i0 σ0 hi0 rfl;refine Ad (Aa (O1 (Bb ok3 rfl rfl) (Ab (Ad ?_))));refine Ai rfl (fun h1 => ?_) (fun h1 => ?_)
 ·have hlt0 : i0 < ks.length := by simpa using h1
  obtain ⟨a0, ha0⟩ := B3 hlt0;have hd0 := Bn ha0;have hct := Abd ha0;refine Aj (Ad (Am (Ad (Aa (O1 (A3 L5 eT_len rfl rfl ha0) (O1 (Ae Bq rfl rfl (Cb (eT_len a0) _)) (B6 Ku Bq rfl (fun _ => rfl) rfl (Bp (eT_len a0)) rfl rfl ?_)))))))
  refine Ab (Ad (Ad (Aa (OM rfl (O1 (Cm (q := 4000) ok3 rfl rfl) (Ab ?_))))));refine Ai rfl (fun h2 => ?_) (fun h2 => ?_)
  ·exact absurd h2 (by simp only [Int.ofNat_eq_natCast, decide_eq_true_eq]; omega)
  ·have hd1 := Rs a0 (lv + 1)
   have e4 : Int.ofNat (1 + D5 (ks.take i0) + By a0) = Int.ofNat (1 + D5 (ks.take (i0 + 1))) := by rw [Cx ha0, Oo]; simp only [D5, Int.ofNat_eq_natCast]; omega
   have e5 : max (Int.ofNat (dpL (ks.take i0) (lv + 1) lv)) (Int.ofNat (dpT a0 (lv + 1))) = Int.ofNat (dpL (ks.take (i0 + 1)) (lv + 1) lv) := by rw [Cx ha0, Adk]; simp only [dpL, Int.ofNat_eq_natCast]; omega
   refine Aj (Ad (Aa (O1 (Ae Bq rfl rfl (Be (eT_len a0))) (OM rfl (O1 (A1 (q := 1) ok3 rfl rfl (by omega)) ?_)))))
   refine Aq rfl rfl rfl rfl (ih a0 (List.mem_of_getElem? ha0)) (OM rfl (O1 (Ao rfl rfl) (O1 (Ao rfl rfl) (OA rfl (OA rfl (Ab (Aa ?_)))))))
   refine OM rfl (OM rfl (O1 (A1 ok3 rfl rfl (by omega)) ?_))
   refine OM rfl (OM rfl (O1 (Ama ok3 rfl rfl) (OA rfl (OA rfl (Ab (Aa (O1 (A1 (q := 1) ok3 rfl rfl (by omega)) ?_)))))))
   refine OM rfl (Ab ?_);refine ⟨hlt0, ⟨rfl, congrArg (fun x => some (iV x)) e4, congrArg (fun x => some (iV x)) e5, rfl, rfl, rfl, trivial⟩, rfl⟩
 ·have hge0 : ks.length <= i0 := by simpa using h1
  refine Bf ?_;refine Ad (Aa (OM rfl (OM rfl (OA rfl (OA rfl (Ab ?_))))));refine Ak (Bw hw rfl ?_);unfold By dpT; rw [List.take_of_length_le hge0]; rfl
theorem f59 (t : Ay) (σ : Sto) : ∀ (lv : Nat), lv + By t <= 20000 -> By t <= 4000 -> Ah Ew 59 [A4 t, iV (.ofNat lv)] σ fun v σ' => v = .tup [iV (.ofNat (By t)), iV (.ofNat (dpT t lv))] /\ σ' = σ := by
 refine Ay.ind' (P := fun t => ∀ (lv : Nat), lv + By t <= 20000 -> By t <= 4000 -> Ah Ew 59 [A4 t, iV (.ofNat lv)] σ fun v σ' => v = .tup [iV (.ofNat (By t)), iV (.ofNat (dpT t lv))] /\ σ' = σ) ?_ t
 intro l ks ih lv h1 h2;refine f59n l ks lv σ h1 h2 fun k hk => ih k hk (lv + 1) ?_ ?_
 ·have := Gs hk; unfold By at h1; omega
 ·have := Gs hk; unfold By at h2; omega
theorem f102 (t : Ay) (σ : Sto) (hc : By t <= 4000) (hd : dpT t 1 <= 100) : Ah Ew 102 [A4 t] σ fun v σ' => v = .tup [] /\ σ' = σ := by
 refine A2 Tryz.func102 rfl rfl fun hw hu0 => ?_
 refine Ad (Aa (Ax Bq rfl (Bp (eT_len t)) rfl (Ab (Ad (Aa (O1 (Ae Bq rfl rfl (Be (eT_len t))) (Aq rfl rfl rfl rfl (f59 t _ 1 (by omega) hc) ?_)))))))
 refine OM rfl (O1 (Ao rfl rfl) (O1 (Ao rfl rfl) (OA rfl (OA rfl (Ab (Ad (Ad ?_)))))));refine Aa (OM rfl (O1 (Cm (q := 4000) ok3 rfl rfl) (Ab ?_)));refine Ai rfl (fun h1 => ?_) (fun h1 => ?_)
 ·exact absurd h1 (by simp only [Int.ofNat_eq_natCast, decide_eq_true_eq]; omega)
 ·skip
  refine Aj (Ad (Aa (OM rfl (O1 (Cm (q := 100) ok3 rfl rfl) (Ab ?_)))));refine Ai rfl (fun h2 => ?_) (fun h2 => ?_)
  ·exact absurd h2 (by simp only [Int.ofNat_eq_natCast, decide_eq_true_eq]; omega)
  ·skip
   refine Aj ?_;refine Bw hw rfl ?_;exact rfl
theorem Ahp (t : Ay) : ∃ la ka, eT t = [sV la, slV eT 2 ka] := by obtain ⟨l, k⟩ := t; exact ⟨l, k, Hs l k⟩
def zT : List AV := [.str [], .nil (.slice none 0 0)]
theorem f56n (l : Str) (ks : List Ay) (σ : Sto) (hb : ks.length <= 1000000) (ih : ∀ k ∈ ks, ∀ τ, Ah Ew 56 [A4 k] τ fun v σ' => v = A4 k /\ σ' = τ) : Ah Ew 56 [A4 (.node l ks)] σ fun v σ' => v = A4 (.node l ks) /\ σ' = σ := by
 rw [Ci];refine A2 Tryz.func56 rfl rfl fun hw hu0 => ?_
 refine Ad (Aa (Ax Bq rfl rfl rfl (O1 (Dt Ku) (Ab (Ad (Aa (O1 (Ac Dr rfl rfl) ?_)))))))
 refine O1 (Ae ld9 rfl rfl rfl) (O1 (Cl Akp rfl rfl) (O1 (D4 (n := nx σ + 1) Ku (Ap _ _)) (O1 (A6 (ad := nx σ + 1) (off := 0) (vs := zT) (vs' := [sV l, .nil (.slice none 0 0)]) (cs := [sV l, .nil (.slice none 0 0)]) Bq rfl rfl rfl (by simp only [Sto.cells]; rw [Sto.get_new, if_pos (by rw [Ap])]; rfl) rfl) ?_)))
 refine Ab (Ad (Ad (Aa (O1 (Ac Dk rfl rfl) (O1 (Ae H8 rfl rfl rfl) (O1 (As Kj rfl) (OM rfl ?_)))))));refine Ab (Am ?_)
 refine Cg ks.length (fun i0 => [(2, .pr (nx σ) 0), (3, .pr (nx σ + 1) 0), (10, slV eT 2 ks), (11, iV (.ofNat ks.length)), (12, iV (.ofNat i0))]) (fun i0 σ0 => ∃ vp, σ0.get (nx σ + 1) = some (.cells [sV l, vp]) /\ Own σ0 (nx σ + 2) eT 2 (ks.take i0) vp /\ σ0.get (nx σ) = some (.cells zT) /\ (∀ b, b < nx σ -> σ0.get b = σ.get b) /\ nx σ + 2 <= nx σ0) ⟨rfl, rfl, rfl, rfl, rfl, trivial⟩ ⟨.nil (.slice none 0 0), by rw [Sto.get_set, if_pos rfl], .nil, by rw [Sto.get_set, if_neg (by omega), Sto.get_new, if_neg (by rw [Ap]; omega), Sto.get_new, if_pos rfl]; rfl, fun b hb => by rw [Sto.get_set, if_neg (by omega), Sto.get_new, if_neg (by rw [Ap]; omega), Sto.get_new, if_neg (by omega)], by rw [An, Ap, Ap]; exact nl⟩ ?_
 rintro i0 σ0 hi0 ⟨vp, h8, hown, h20, hg0, hn0⟩;refine Ad (Aa (O1 (Bb ok3 rfl rfl) (Ab (Ad ?_))));refine Ai rfl (fun h1 => ?_) (fun h1 => ?_)
 ·have hlt0 : i0 < ks.length := by simpa using h1
  obtain ⟨a0, ha0⟩ := B3 hlt0;have hd0 := Bn ha0;obtain ⟨la, ka, he⟩ := Ahp a0
  have hlim : ((ks.take i0).length + [a0].length) * (40 + 1) <= sizeLim := by rw [List.length_take]; simp [sizeLim]; omega
  obtain ⟨v1, τ1, hap, ho1, hb1, _⟩ := Own.app (by' := 40) (enc := eT) (sz := 2) eT_len hn0 hown [a0] hlim
  have hap : Cj σ0 2 40 vp 1 (eT a0) = some (v1, τ1) := by simpa using hap
  have h8t : τ1.get (nx σ + 1) = some (.cells [sV l, vp]) := (hb1.2 _ (by omega)).trans h8
  refine Aj (Ad (Am (Ad (Aa (O1 (A3 L5 eT_len rfl rfl ha0) (O1 (Ae Bq rfl rfl (Cb (eT_len a0) _)) (B6 Ku Bq rfl (fun _ => rfl) rfl (Bp (eT_len a0)) rfl rfl ?_)))))))
  refine Ab ?_
  refine Gv 1 (anns := [aP 0 1, aR 0 1, aR 0 0, aE 0 1, aP 1 1, aE 1 2, aP 2 2, aE 2 3]) A5 (Ar (l := [(56, [.agg (eT a0)], σ0, .agg [sV la, slV eT 2 ka], σ0)]) ⟨by rw [← he]; exact ih a0 (List.mem_of_getElem? ha0) σ0, trivial⟩) (by kernel_rfl) (by kernel_rfl) ?_
  refine DF (Ac Dk rfl rfl) (DF (Ae (u := .pr (nx σ + 1) 1) (cs := [vp]) H8 rfl (by simp only [B2, Sto.cells, h8]; rfl) rfl) ?_)
  refine DF (Ae Bq rfl rfl (Be (eT_len a0))) (DT (A7 rfl rfl Ba) (DF (Br L5 byW rfl rfl rfl) (DT (B5 L5 rfl Kj rfl rfl rfl (new := eT a0) (by rw [he]; rfl) hap) ?_)))
  refine DF (Ac Dk rfl rfl) (DT (A6 (ad := nx σ + 1) (off := 1) (vs := [sV l, vp]) (vs' := [sV l, v1]) (cs := [v1]) H8 rfl rfl (Kq ho1) (by simp only [Sto.cells, h8t]) rfl) ?_)
  refine Bl ?_
  refine ⟨(by intro e he; simp at he; rcases he with rfl | rfl <;> exact .refl), ?_⟩
  refine Aa (O1 (A1 (q := 1) ok3 rfl rfl (by omega)) ?_)
  refine OM rfl (Ab ?_)
  refine ⟨hlt0, ⟨rfl, rfl, rfl, rfl, rfl, trivial⟩, v1, by rw [Sto.get_set, if_pos rfl], by rw [Cx ha0]; exact ho1.mono (by rw [An]; exact nl) fun a tl _ h11 h12 _ => by rw [Sto.get_set, if_neg (by omega)], by rw [Sto.get_set, if_neg (by omega), hb1.2 _ (by omega)]; exact h20, fun b hb => by rw [Sto.get_set, if_neg (by omega), hb1.2 b (by omega)]; exact hg0 b hb, by rw [An]; exact Nat.le_trans hn0 hb1.1⟩
 ·have hge0 : ks.length <= i0 := by simpa using h1
  refine Bf ?_
  refine Ad (Aa (O1 (Ae (u := .pr (nx σ + 1) 0) (cs := [sV l, vp]) Bq rfl (by simp only [B2, Sto.cells, h8]; rfl) rfl) ?_))
  refine O1 (A6 (ad := nx σ) (off := 0) (vs := zT) (vs' := [sV l, vp]) (cs := [sV l, vp]) Bq rfl rfl rfl (by simp only [Sto.cells, h20]) rfl) ?_
  refine Ab ?_;refine Ak ?_;rw [List.take_of_length_le hge0] at hown
  exact ⟨[.agg [sV l, vp]], Cc Bq rfl (by simp only [Sto.cells]; rw [Sto.get_set, if_pos rfl]) rfl rfl, _, σ, Aw.below hw ⟨by rw [An]; omega, fun b hb => by rw [Sto.get_set, if_neg (by omega)]; exact hg0 b hb⟩, nl, .agg (.cons (.same rfl) (.cons ((hown.mono (by rw [An]; exact nl) (fun a tl _ h11 h12 _ => by rw [Sto.get_set, if_neg (by omega)])).fz eT_len (fun a ha => hw.none (by omega)) (Ce Jx _)) .nil)), rfl, rfl⟩
theorem f56 (t : Ay) : ∀ (σ : Sto), By t <= 1000000 -> Ah Ew 56 [A4 t] σ fun v σ' => v = A4 t /\ σ' = σ := by
 refine Ay.ind' (P := fun t => ∀ (σ : Sto), By t <= 1000000 -> Ah Ew 56 [A4 t] σ fun v σ' => v = A4 t /\ σ' = σ) ?_ t
 intro l ks ih σ hc;unfold By at hc;have := H7 ks
 exact f56n l ks σ (by omega) fun k hk τ => ih k hk τ (by have := Gs hk; omega)
end Go.AM
namespace Go.Proofs
open Go.Shelf
def Tryz.laysM171_ren : Go.Shelf.Ren := ⟨fun | 171 => 145 | 243 => 163 | 246 => 197 | 283 => 230 | 284 => 231 | 285 => 232 | 286 => 233 | 129 => 255 | 317 => 256 | 318 => 257 | 319 => 258 | 320 => 259 | 337 => 277 | 338 => 278 | n => n, fun | 3 => 3 | 9 => 9 | 2 => 2 | 4 => 4 | 171 => 324 | 0 => 0 | 53 => 289 | 37 => 253 | 5 => 5 | 173 => 327 | 212 => 354 | 51 => 352 | 20 => 20 | 213 => 355 | 46 => 292 | 232 => 382 | 233 => 383 | n => n, fun | 17 => 3 | 18 => 5 | 19 => 6 | n => n⟩
theorem Tryz.laysM171 : Go.Proofs.LaysM.n171 Tryz.prog Tryz.laysM171_ren := {
 mixed := by kernel_rfl
 f129 := Tryz.func255.trans (congrArg some (by kernel_rfl))
 f171 := Tryz.func145.trans (congrArg some (by kernel_rfl))
 f243 := Tryz.func163.trans (congrArg some (by kernel_rfl))
 f246 := Tryz.func197.trans (congrArg some (by kernel_rfl))
 f283 := Tryz.func230.trans (congrArg some (by kernel_rfl))
 f284 := Tryz.func231.trans (congrArg some (by kernel_rfl))
 f285 := Tryz.func232.trans (congrArg some (by kernel_rfl))
 f286 := Tryz.func233.trans (congrArg some (by kernel_rfl))
 f317 := Tryz.func256.trans (congrArg some (by kernel_rfl))
 f318 := Tryz.func257.trans (congrArg some (by kernel_rfl))
 f319 := Tryz.func258.trans (congrArg some (by kernel_rfl))
 f320 := Tryz.func259.trans (congrArg some (by kernel_rfl))
 f337 := Tryz.func277.trans (congrArg some (by kernel_rfl))
 f338 := Tryz.func278.trans (congrArg some (by kernel_rfl))
 t0 := Tryz.underlying0
 a0 := Tryz.isAgg0
 z0 := Tryz.sizeOf0
 v0 := Tryz.zeroValue0
 t2 := Tryz.underlying2
 a2 := Tryz.isAgg2
 z2 := Tryz.sizeOf2
 v2 := Tryz.zeroValue2
 t3 := Tryz.underlying3
 a3 := Tryz.isAgg3
 z3 := Tryz.sizeOf3
 v3 := Tryz.zeroValue3
 t4 := Tryz.underlying4
 a4 := Tryz.isAgg4
 z4 := Tryz.sizeOf4
 v4 := Tryz.zeroValue4
 t5 := Tryz.underlying5
 a5 := Tryz.isAgg5
 z5 := Tryz.sizeOf5
 v5 := Tryz.zeroValue5
 t9 := Tryz.underlying9
 a9 := Tryz.isAgg9
 z9 := Tryz.sizeOf9
 v9 := Tryz.zeroValue9
 t20 := Tryz.underlying20
 a20 := Tryz.isAgg20
 z20 := Tryz.sizeOf20
 v20 := Tryz.zeroValue20
 t37 := Tryz.underlying253
 a37 := Tryz.isAgg253
 z37 := Tryz.sizeOf253
 v37 := Tryz.zeroValue253
 t46 := Tryz.underlying292
 a46 := Tryz.isAgg292
 z46 := Tryz.sizeOf292
 v46 := Tryz.zeroValue292
 t51 := Tryz.underlying352
 a51 := Tryz.isAgg352
 z51 := Tryz.sizeOf352
 v51 := Tryz.zeroValue352
 t53 := Tryz.underlying289
 a53 := Tryz.isAgg289
 z53 := Tryz.sizeOf289
 v53 := Tryz.zeroValue289
 t171 := Tryz.underlying324
 a171 := Tryz.isAgg324
 z171 := Tryz.sizeOf324
 v171 := Tryz.zeroValue324
 t173 := Tryz.underlying327
 a173 := Tryz.isAgg327
 z173 := Tryz.sizeOf327
 v173 := Tryz.zeroValue327
 t212 := Tryz.underlying354
 a212 := Tryz.isAgg354
 z212 := Tryz.sizeOf354
 v212 := Tryz.zeroValue354
 t213 := Tryz.underlying355
 a213 := Tryz.isAgg355
 z213 := Tryz.sizeOf355
 t232 := Tryz.underlying382
 a232 := Tryz.isAgg382
 z232 := Tryz.sizeOf382
 v232 := Tryz.zeroValue382
 t233 := Tryz.underlying383
 a233 := Tryz.isAgg383
 z233 := Tryz.sizeOf383
 v233 := Tryz.zeroValue383
 g17 := by kernel_rfl
 g18 := by kernel_rfl
 g19 := by kernel_rfl
 i0 := by kernel_rfl
 i2 := by kernel_rfl
 i3 := by kernel_rfl
 i4 := by kernel_rfl
 i5 := by kernel_rfl
 i9 := by kernel_rfl
 i20 := by kernel_rfl
 i37 := by kernel_rfl
 i46 := by kernel_rfl
 i51 := by kernel_rfl
 i53 := by kernel_rfl
 i171 := by kernel_rfl
 i173 := by kernel_rfl
 i212 := by kernel_rfl
 i232 := by kernel_rfl
 i233 := by kernel_rfl
 m17 := by kernel_rfl
 m18 := by kernel_rfl
 m19 := by kernel_rfl }
open Go.RowKit Go.Sort Go.Lib in
theorem Tryz.strconv_Itoa (n : Int) (h0 : -9223372036854775808 <= n) (h1 : n <= 9223372036854775807) (w : World) (htab : Lib.TabIs Tryz.prog w "internal/strconv.uint64pow10" .u64 Lib.pow10Tab) :
  Calls Tryz.prog 145 #[.int .i64 n] w fun e w' => e = .returned (.string ⟨(Lib.itoa n).toArray⟩) /\ ∃ k os, w' = grow (w.drewN k) os := Any.strconv_Itoa Tryz.laysM171 n h0 h1 w htab
def Tryz.laysC172_ren : Go.Shelf.Ren := ⟨fun | 172 => 113 | 244 => 143 | 245 => 144 | 247 => 158 | 279 => 159 | 280 => 160 | 281 => 161 | 282 => 162 | 287 => 194 | 316 => 195 | 171 => 145 | 205 => 196 | 321 => 228 | 322 => 229 | 243 => 163 | 246 => 197 | 283 => 230 | 284 => 231 | 285 => 232 | 286 => 233 | 129 => 255 | 317 => 256 | 318 => 257 | 319 => 258 | 320 => 259 | 337 => 277 | 338 => 278 | n => n, fun | 9 => 9 | 3 => 3 | 75 => 202 | 76 => 203 | 4 => 4 | 5 => 5 | 167 => 252 | 37 => 253 | 0 => 0 | 85 => 254 | 2 => 2 | 168 => 256 | 53 => 289 | 175 => 290 | 46 => 292 | 210 => 294 | 127 => 320 | 145 => 323 | 143 => 321 | 21 => 21 | 171 => 324 | 173 => 327 | 212 => 354 | 51 => 352 | 20 => 20 | 213 => 355 | 232 => 382 | 233 => 383 | 80 => 390 | n => n, fun | 15 => 1 | 16 => 2 | 17 => 3 | 18 => 5 | 19 => 6 | n => n⟩
theorem Tryz.laysC172 : Go.Proofs.LaysC.n172 Tryz.prog Tryz.laysC172_ren := {
 mixed := by kernel_rfl
 f129 := Tryz.func255.trans (congrArg some (by kernel_rfl))
 f171 := Tryz.func145.trans (congrArg some (by kernel_rfl))
 f172 := Tryz.func113.trans (congrArg some (by kernel_rfl))
 f205 := Tryz.func196.trans (congrArg some (by kernel_rfl))
 f243 := Tryz.func163.trans (congrArg some (by kernel_rfl))
 f244 := Tryz.func143.trans (congrArg some (by kernel_rfl))
 f245 := Tryz.func144.trans (congrArg some (by kernel_rfl))
 f246 := Tryz.func197.trans (congrArg some (by kernel_rfl))
 f247 := Tryz.func158.trans (congrArg some (by kernel_rfl))
 f279 := Tryz.func159.trans (congrArg some (by kernel_rfl))
 f280 := Tryz.func160.trans (congrArg some (by kernel_rfl))
 f281 := Tryz.func161.trans (congrArg some (by kernel_rfl))
 f282 := Tryz.func162.trans (congrArg some (by kernel_rfl))
 f283 := Tryz.func230.trans (congrArg some (by kernel_rfl))
 f284 := Tryz.func231.trans (congrArg some (by kernel_rfl))
 f285 := Tryz.func232.trans (congrArg some (by kernel_rfl))
 f286 := Tryz.func233.trans (congrArg some (by kernel_rfl))
 f287 := Tryz.func194.trans (congrArg some (by kernel_rfl))
 f316 := Tryz.func195.trans (congrArg some (by kernel_rfl))
 f317 := Tryz.func256.trans (congrArg some (by kernel_rfl))
 f318 := Tryz.func257.trans (congrArg some (by kernel_rfl))
 f319 := Tryz.func258.trans (congrArg some (by kernel_rfl))
 f320 := Tryz.func259.trans (congrArg some (by kernel_rfl))
 f321 := Tryz.func228.trans (congrArg some (by kernel_rfl))
 f322 := Tryz.func229.trans (congrArg some (by kernel_rfl))
 f337 := Tryz.func277.trans (congrArg some (by kernel_rfl))
 f338 := Tryz.func278.trans (congrArg some (by kernel_rfl))
 t0 := Tryz.underlying0
 a0 := Tryz.isAgg0
 z0 := Tryz.sizeOf0
 v0 := Tryz.zeroValue0
 t2 := Tryz.underlying2
 a2 := Tryz.isAgg2
 z2 := Tryz.sizeOf2
 v2 := Tryz.zeroValue2
 t3 := Tryz.underlying3
 a3 := Tryz.isAgg3
 z3 := Tryz.sizeOf3
 v3 := Tryz.zeroValue3
 t4 := Tryz.underlying4
 a4 := Tryz.isAgg4
 z4 := Tryz.sizeOf4
 v4 := Tryz.zeroValue4
 t5 := Tryz.underlying5
 a5 := Tryz.isAgg5
 z5 := Tryz.sizeOf5
 v5 := Tryz.zeroValue5
 t9 := Tryz.underlying9
 a9 := Tryz.isAgg9
 z9 := Tryz.sizeOf9
 v9 := Tryz.zeroValue9
 t20 := Tryz.underlying20
 a20 := Tryz.isAgg20
 z20 := Tryz.sizeOf20
 v20 := Tryz.zeroValue20
 t21 := Tryz.underlying21
 a21 := Tryz.isAgg21
 z21 := Tryz.sizeOf21
 v21 := Tryz.zeroValue21
 t37 := Tryz.underlying253
 a37 := Tryz.isAgg253
 z37 := Tryz.sizeOf253
 v37 := Tryz.zeroValue253
 t46 := Tryz.underlying292
 a46 := Tryz.isAgg292
 z46 := Tryz.sizeOf292
 v46 := Tryz.zeroValue292
 t51 := Tryz.underlying352
 a51 := Tryz.isAgg352
 z51 := Tryz.sizeOf352
 v51 := Tryz.zeroValue352
 t53 := Tryz.underlying289
 a53 := Tryz.isAgg289
 z53 := Tryz.sizeOf289
 v53 := Tryz.zeroValue289
 t75 := Tryz.underlying202
 a75 := Tryz.isAgg202
 z75 := Tryz.sizeOf202
 v75 := Tryz.zeroValue202
 t76 := Tryz.underlying203
 a76 := Tryz.isAgg203
 z76 := Tryz.sizeOf203
 v76 := Tryz.zeroValue203
 t85 := Tryz.underlying254
 a85 := Tryz.isAgg254
 z85 := Tryz.sizeOf254
 v85 := Tryz.zeroValue254
 t127 := Tryz.underlying320
 a127 := Tryz.isAgg320
 z127 := Tryz.sizeOf320
 v127 := Tryz.zeroValue320
 t143 := Tryz.underlying321
 a143 := Tryz.isAgg321
 z143 := Tryz.sizeOf321
 v143 := Tryz.zeroValue321
 t145 := Tryz.underlying323
 a145 := Tryz.isAgg323
 z145 := Tryz.sizeOf323
 v145 := Tryz.zeroValue323
 t167 := Tryz.underlying252
 a167 := Tryz.isAgg252
 z167 := Tryz.sizeOf252
 v167 := Tryz.zeroValue252
 t168 := Tryz.underlying256
 a168 := Tryz.isAgg256
 z168 := Tryz.sizeOf256
 v168 := Tryz.zeroValue256
 t171 := Tryz.underlying324
 a171 := Tryz.isAgg324
 z171 := Tryz.sizeOf324
 v171 := Tryz.zeroValue324
 t173 := Tryz.underlying327
 a173 := Tryz.isAgg327
 z173 := Tryz.sizeOf327
 v173 := Tryz.zeroValue327
 t175 := Tryz.underlying290
 a175 := Tryz.isAgg290
 z175 := Tryz.sizeOf290
 v175 := Tryz.zeroValue290
 t210 := Tryz.underlying294
 a210 := Tryz.isAgg294
 z210 := Tryz.sizeOf294
 v210 := Tryz.zeroValue294
 t212 := Tryz.underlying354
 a212 := Tryz.isAgg354
 z212 := Tryz.sizeOf354
 v212 := Tryz.zeroValue354
 t213 := Tryz.underlying355
 a213 := Tryz.isAgg355
 z213 := Tryz.sizeOf355
 t232 := Tryz.underlying382
 a232 := Tryz.isAgg382
 z232 := Tryz.sizeOf382
 v232 := Tryz.zeroValue382
 t233 := Tryz.underlying383
 a233 := Tryz.isAgg383
 z233 := Tryz.sizeOf383
 v233 := Tryz.zeroValue383
 g15 := by kernel_rfl
 g16 := by kernel_rfl
 g17 := by kernel_rfl
 g18 := by kernel_rfl
 g19 := by kernel_rfl
 t80 := Tryz.underlying390
 a80 := Tryz.isAgg390
 z80 := Tryz.sizeOf390
 v80 := Tryz.zeroValue390
 i0 := by kernel_rfl
 i2 := by kernel_rfl
 i3 := by kernel_rfl
 i4 := by kernel_rfl
 i5 := by kernel_rfl
 i9 := by kernel_rfl
 i20 := by kernel_rfl
 i21 := by kernel_rfl
 i37 := by kernel_rfl
 i46 := by kernel_rfl
 i51 := by kernel_rfl
 i53 := by kernel_rfl
 i75 := by kernel_rfl
 i76 := by kernel_rfl
 i80 := by kernel_rfl
 i85 := by kernel_rfl
 i127 := by kernel_rfl
 i143 := by kernel_rfl
 i145 := by kernel_rfl
 i167 := by kernel_rfl
 i168 := by kernel_rfl
 i171 := by kernel_rfl
 i173 := by kernel_rfl
 i175 := by kernel_rfl
 i210 := by kernel_rfl
 i212 := by kernel_rfl
 i232 := by kernel_rfl
 i233 := by kernel_rfl
 m15 := by kernel_rfl
 m16 := by kernel_rfl
 m17 := by kernel_rfl
 m18 := by kernel_rfl
 m19 := by kernel_rfl
 c0 := by kernel_rfl
 c2 := by kernel_rfl
 c3 := by kernel_rfl
 c4 := by kernel_rfl
 c5 := by kernel_rfl
 c9 := by kernel_rfl
 c20 := by kernel_rfl
 c21 := by kernel_rfl
 c37 := by kernel_rfl
 c46 := by kernel_rfl
 c51 := by kernel_rfl
 c53 := by kernel_rfl
 c75 := by kernel_rfl
 c76 := by kernel_rfl
 c80 := by kernel_rfl
 c85 := by kernel_rfl
 c127 := by kernel_rfl
 c143 := by kernel_rfl
 c145 := by kernel_rfl
 c167 := by kernel_rfl
 c168 := by kernel_rfl
 c171 := by kernel_rfl
 c173 := by kernel_rfl
 c175 := by kernel_rfl
 c210 := by kernel_rfl
 c212 := by kernel_rfl
 c213 := by kernel_rfl
 c232 := by kernel_rfl
 c233 := by kernel_rfl }
open Go.RowKit in
theorem Tryz.strconv_Atoi_ok (s : ByteArray) (hmax : s.size <= 9223372036854775806) (v : Int) (h : Lib.atoiAll s.data.toList = .ok v) (w : World) :
  Calls Tryz.prog 113 #[.string s] w fun e w' => e = .returned (.tuple #[.int .i64 v, .nilIface]) /\ (w' = w ∨ ∃ t, w' = Lib.bytesWorld w 5 t) := Any.strconv_Atoi_ok Tryz.laysC172 s hmax v h w
def Tryz.lays149_ren : Go.Shelf.Ren := ⟨fun | 149 => 112 | 222 => 142 | n => n, fun | 9 => 9 | 5 => 5 | 3 => 3 | 4 => 4 | n => n, fun | n => n⟩
theorem Tryz.lays149 : Go.Proofs.Lays.n149 Tryz.prog Tryz.lays149_ren := {
 mixed := by kernel_rfl
 f149 := Tryz.func112.trans (congrArg some (by kernel_rfl))
 f222 := Tryz.func142.trans (congrArg some (by kernel_rfl))
 t3 := Tryz.underlying3
 a3 := Tryz.isAgg3
 z3 := Tryz.sizeOf3
 v3 := Tryz.zeroValue3
 t4 := Tryz.underlying4
 a4 := Tryz.isAgg4
 z4 := Tryz.sizeOf4
 v4 := Tryz.zeroValue4
 t5 := Tryz.underlying5
 a5 := Tryz.isAgg5
 z5 := Tryz.sizeOf5
 v5 := Tryz.zeroValue5
 t9 := Tryz.underlying9
 a9 := Tryz.isAgg9
 z9 := Tryz.sizeOf9
 v9 := Tryz.zeroValue9 }
open Go.RowKit Go.Lib in
theorem Tryz.strings_LastIndexByte (s : ByteArray) (c : Int) (hs : s.size < 4611686018427387904) (w : World) :
  Calls Tryz.prog 112 #[.string s, .int .u8 c] w fun e w' => e = .returned (.int .i64 (Lib.lastIndexByte s c)) /\ w' = w := Any.strings_LastIndexByte Tryz.lays149 s c hs w
end Go.Proofs
namespace Go.AM
open Go Go.Proofs
theorem Vm {f : Nat} {args : List AV} {σ : Sto} {v : AV} (he : Ub Ew.P f) (h : ∀ C w (vs : Array Value), Fv C (nx σ) w Ew -> RL C (nx σ) w args vs.toList -> Calls Ew.P f vs w (fun e w' => ∃ x, e = .returned x /\ Go.RowKit.Below w.heap.size w w' /\ R C (nx σ) w' v x)) : Ah Ew f args σ fun u τ => u = v /\ τ = σ := by
 intro C w vs hs hg ha;refine ⟨he, (h C w vs hg ha).mono fun e w' hq => ?_⟩
 obtain ⟨x, rfl, hb, hx⟩ := hq;obtain ⟨k1, k2⟩ := hs.same hb.size hb.block ⟨hb.os, hb.output⟩;exact ⟨v, σ, C, ⟨rfl, rfl⟩, k1, k2, hx⟩
theorem Anp : Tryz.prog.globalNamed "strconv.ErrSyntax" = some 1 := by kernel_rfl
theorem Anq : Tryz.prog.globalNamed "strconv.ErrRange" = some 2 := by kernel_rfl
theorem Anr : Tryz.prog.globalNamed "internal/strconv.uint64pow10" = some 3 := by kernel_rfl
section
variable {C : Ctx} {N : Nat} {w : World}
theorem Ahq (hg : Fv C N w Ew) {c : Nat} {P : Array Value -> Prop} {nm : String} (hn : Tryz.prog.globalNamed nm = some c) (hh : Aig c = some P) : ∃ cs, w.var? Tryz.prog nm = some cs /\ P cs := by
 obtain ⟨_, cs, T, fz, h2, h3⟩ := hg.2 c P hh
 exact ⟨cs, by unfold World.var?; rw [hn]; simp [h2], h3⟩
theorem R_i64 {n : Int} {x : Value} (h : R C N w (iV n) x) : x = .int .i64 n := by unfold iV R at h; exact h
theorem Ans {a : AV} {vs : Array Value} (h : RL C N w [a] vs.toList) : ∃ x, vs = #[x] /\ R C N w a x := by
 obtain ⟨l⟩ := vs
 match l, h with
 | [], h => unfold RL at h; exact h.elim
 | [x], h => unfold RL at h; exact ⟨x, rfl, h.1⟩
 | _ :: _ :: _, h => unfold RL at h; have := h.2; unfold RL at this; exact this.elim
end
def Fq (s : Str) : Int := Lib.lastIndexByte ⟨⟨s⟩⟩ 46
theorem Tz (s : Str) : Fq s = -1 ∨ ∃ i : Nat, i < s.length /\ Fq s = Int.ofNat i := by
 have h := Lib.lastIdx_spec (⟨⟨s⟩⟩ : ByteArray) 46 (⟨⟨s⟩⟩ : ByteArray).size
 rcases h with ⟨h, _⟩ | ⟨i, h1, h2, _⟩
 ·exact .inl h
 ·exact .inr ⟨i, h1, h2⟩
theorem f112 (s : Str) (σ : Sto) (hb : s.length < 4611686018427387904) : Ah Ew 112 [sV s, .int .u8 46] σ fun v σ' => v = iV (Fq s) /\ σ' = σ := by
 refine Ro ⟨_, Tryz.func112, rfl, rfl⟩ fun C w vs ha => ?_
 obtain ⟨x, y, rfl, hx, hy⟩ := Ahg ha;obtain ⟨a, rfl, rfl⟩ := Aff hx
 have hy : y = .int .u8 46 := by unfold R at hy; exact hy
 subst hy
 exact ⟨_, Tryz.strings_LastIndexByte a 46 (by simpa using hb) w, by unfold iV R; rfl⟩
def T0 (t : Str) : Int := match Lib.atoiAll t with | .ok v => v | .range => Lib.atoiSat t | _ => 0
def Vn (t : Str) : Bool := match Lib.atoiAll t with | .ok _ => true | _ => false
def Ak6 (ok : Bool) : AV := match ok with | true => .nil .nilIface | false => .ifc 256 .any
theorem f113 (t : Str) (σ : Sto) (hb : t.length <= 281474976710656) : Ah Ew 113 [sV t] σ fun v σ' => v = .tup [iV (T0 t), Ak6 (Vn t)] /\ σ' = σ := by
 refine Vm ⟨_, Tryz.func113, rfl, rfl⟩ fun C w vs hg ha => ?_
 obtain ⟨x, rfl, hx⟩ := Ans ha;obtain ⟨a, rfl, rfl⟩ := Aff hx
 have hsz : a.size <= 281474976710656 := by simpa using hb
 rcases hA : Lib.atoiAll a.data.toList with v | _ | _
 ·refine (Tryz.strconv_Atoi_ok a (by omega) v hA w).mono fun e w' hh => ?_
  obtain ⟨h1, h2⟩ := hh;refine ⟨_, h1, ?_, ?_⟩
  ·rcases h2 with rfl | ⟨x, rfl⟩
   ·exact Go.RowKit.Below.refl _ _
   ·exact Lib.bytesWorld_below _ _ _
  ·rw [show T0 a.data.toList = v by unfold T0; rw [hA], show Vn a.data.toList = true by unfold Vn; rw [hA]]
   unfold R
   exact ⟨_, rfl, by unfold RL; exact ⟨by unfold iV R; rfl, by unfold RL; exact ⟨by unfold Ak6 R; exact ⟨rfl, rfl⟩, by unfold RL; trivial⟩⟩⟩
 ·obtain ⟨cs, hv, tp, p, rfl⟩ := Ahq hg Anp rfl;refine (Any.strconv_Atoi_syntax_var Tryz.laysC172 a hsz hA tp p w hv).mono fun e w' hh => ?_
  obtain ⟨M, h1, _, _, h2⟩ := hh;refine ⟨_, h1, h2, ?_⟩
  rw [show T0 a.data.toList = 0 by unfold T0; rw [hA], show Vn a.data.toList = false by unfold Vn; rw [hA]]
  unfold R
  exact ⟨_, rfl, by unfold RL; exact ⟨by unfold iV R; rfl, by unfold RL; exact ⟨by unfold Ak6 R; exact ⟨_, rfl, by unfold R; trivial⟩, by unfold RL; trivial⟩⟩⟩
 ·obtain ⟨cs, hv, tp, p, rfl⟩ := Ahq hg Anq rfl;refine (Any.strconv_Atoi_range_var Tryz.laysC172 a hsz hA tp p w hv).mono fun e w' hh => ?_
  obtain ⟨M, h1, _, _, h2⟩ := hh;refine ⟨_, h1, h2, ?_⟩
  rw [show T0 a.data.toList = Lib.atoiSat a.data.toList by unfold T0; rw [hA], show Vn a.data.toList = false by unfold Vn; rw [hA]]
  unfold R
  exact ⟨_, rfl, by unfold RL; exact ⟨by unfold iV R; rfl, by unfold RL; exact ⟨by unfold Ak6 R; exact ⟨_, rfl, by unfold R; trivial⟩, by unfold RL; trivial⟩⟩⟩
theorem f145 (n : Int) (σ : Sto) (h0 : -9223372036854775808 <= n) (h1 : n <= 9223372036854775807) : Ah Ew 145 [iV n] σ fun v σ' => v = sV (Lib.itoa n) /\ σ' = σ := by
 refine Vm ⟨_, Tryz.func145, rfl, rfl⟩ fun C w vs hg ha => ?_
 obtain ⟨x, rfl, hx⟩ := Ans ha;have := R_i64 hx;subst this;obtain ⟨cs, hv, hp⟩ := Ahq hg Anr rfl
 refine (Tryz.strconv_Itoa n h0 h1 w (by unfold Lib.TabIs; rw [hv, hp]; rfl)).mono fun e w' hh => ?_
 obtain ⟨e1, k, os, e2⟩ := hh
 exact ⟨_, e1, e2 ▸ Lib.below_grow _ w nl k os, by unfold sV R; exact ⟨_, rfl, by simp [Ca]⟩⟩
theorem Abf (m : Nat) (h : m < 10) : Lib.decDigits m = [UInt8.ofNat (48 + m)] := by rw [Lib.decDigits]; simp [h]
theorem Ant (m : Nat) (h : 9 < m) : Lib.decDigits m = Lib.decDigits (m / 10) ++ [UInt8.ofNat (48 + m % 10)] := by rw [Lib.decDigits]; rw [dif_neg (by omega)]
theorem Ajh : ∀ (k n : Nat), n < 10 ^ k -> 0 < k -> (Lib.decDigits n).length <= k
 | 0, n, _, h => absurd h (by omega)
 | 1, n, h, _ => by rw [Abf n (by omega)]; simp
 | k + 2, n, h, _ => by
  by_cases h9 : 9 < n
  ·rw [Ant n h9, List.length_append]
   have := Ajh (k + 1) (n / 10) (by rw [Nat.pow_succ] at h; omega) (by omega)
   simp; omega
  ·rw [Abf n (by omega)]; simp
theorem Anu (n : Int) (h0 : 0 <= n) (h1 : n <= 1000000000) : (Lib.itoa n).length <= 20 := by
 unfold Lib.itoa
 rw [if_neg (by omega)]
 exact Ajh 20 _ (Nat.lt_of_le_of_lt (show n.toNat <= 1000000000 by omega) (by decide)) (by omega)
def Abg (sort : Str) (n : Int) : Int := if sort = [] then 2 else if n < 0 ∨ 1000000000 < n then 3 else 0
def Afx (sort : Str) (n : Int) : Str := if Abg sort n = 0 then [38] ++ sort ++ [46] ++ Lib.itoa n else []
section
variable {E : Env} {ρ : Al} {σ : Sto} {Rr : Rec}
theorem Aji {t : Nat} {x : Operand} {lo hi : Option Operand} {s : Str} {lv hv : Option AV} {a b : Nat} {c : Option Nat} (h9 : Dz E.P t = true) (hx : A0 E ρ x = some (sV s)) (h1 : Gd E ρ lo = some lv) (h2 : Gd E ρ hi = some hv)
  (hb : C6 s.length (some s.length) lv hv none = some (a, b, c)) : Bu E Rr (.slice t x lo hi none) ρ σ (sV ((s.take b).drop a)) σ := fun tm h => by
 unfold Dz at h9
 split at h9
 ·rename_i ti hti
  split at h9
  ·rename_i hd
   have hl : (s.map UInt8.toNat).length = s.length := List.length_map ..;simp only [opA, Bm, hti, hd, h.opd hx, h.opdO h1, h.opdO h2, sV, Js, hl, hb, List.map_drop, List.map_take]
  ·cases h9
 ·cases h9
theorem Anv {t a : Nat} {x y : Operand} {s : Str} (h9 : Dz E.P t = true) (hx : A0 E ρ x = some (sV s)) (h1 : A0 E ρ y = some (iV (.ofNat a))) (ha : a <= s.length) : Bu E Rr (.slice t x (some y) none none) ρ σ (sV (s.drop a)) σ := by
 have hb : C6 s.length (some s.length) (some (iV (.ofNat a))) none none = some (a, s.length, some (s.length - a)) := by
  have h3 : Nat.ble a s.length = true := Nat.ble_eq_true_of_le ha;have h4 : Nat.ble s.length s.length = true := Nat.ble_eq_true_of_le nl;simp only [C6, iV, I3, h3, h4, Ls, cond_true, Bool.and_self, Lg]
 have := Aji (Rr := Rr) (σ := σ) (lo := some y) (hi := none) h9 hx (show Gd E ρ (some y) = some (some (iV (.ofNat a))) by simp only [Gd, h1]) rfl hb
 rwa [List.take_length] at this
theorem Ajj {t a b : Nat} {x y z : Operand} {s : Str} (h9 : Dz E.P t = true) (hx : A0 E ρ x = some (sV s)) (h1 : A0 E ρ y = some (iV (.ofNat a))) (h2 : A0 E ρ z = some (iV (.ofNat b))) (ha : a <= b) (hbl : b <= s.length) : Bu E Rr (.slice t x (some y) (some z) none) ρ σ (sV ((s.take b).drop a)) σ := by
 have hb : C6 s.length (some s.length) (some (iV (.ofNat a))) (some (iV (.ofNat b))) none = some (a, b, some (s.length - a)) := by
  have h3 : Nat.ble a b = true := Nat.ble_eq_true_of_le ha;have h4 : Nat.ble b s.length = true := Nat.ble_eq_true_of_le hbl;simp only [C6, iV, I3, h3, h4, Ls, cond_true, Bool.and_self, Lg]
 exact Aji (Rr := Rr) (σ := σ) (lo := some y) (hi := some z) h9 hx (show Gd E ρ (some y) = some (some (iV (.ofNat a))) by simp only [Gd, h1]) (show Gd E ρ (some z) = some (some (iV (.ofNat b))) by simp only [Gd, h2]) hb
def Ahr (P : Program) (t : Nat) : Bool := match Bi P t with | some ti => (match ti.desc with | .interface _ => true | _ => false) | none => false
theorem Anw {t : Nat} {x y : Operand} {ty : Nat} {ok : Bool} (hi : Ahr E.P t = true) (hx : A0 E ρ x = some (Ak6 ok)) (hy : A0 E ρ y = some (.nil .nilIface)) (hc : Ds y = true) : Bu E Rr (.binOp .neq t x y ty) ρ σ (.bool (!ok)) σ := fun tm h => by
 unfold Ahr at hi
 split at hi
 ·rename_i ti hti
  split at hi
  ·rename_i hd
   cases ok <;> simp only [opA, Bm, h.opd hx, h.opd hy, hc, Ak6, Zf, hti, Kw, Bool.or_true, cond_true, Ah2, V6, Qu, hd, Vq, Bool.or_self, Bool.or_false, Bool.or_true, cond_false, Bool.not_true, Bool.not_false]
  ·cases hi
 ·cases hi
end
theorem if202 : Ahr Ew.P 202 = true := by kernel_rfl
theorem f114 (s : Str) (n : Int) (σ : Sto) (hb : s.length < 4611686018427387904) : Ah Ew 114 [sV s, iV n] σ fun v σ' => v = .tup [sV (Afx s n), iV (Abg s n)] /\ σ' = σ := by
 refine A2 Tryz.func114 rfl rfl fun hw hu0 => ?_
 refine Ad (Aa (OA rfl (OA rfl (Ab (Ad (Am (Ad ?_)))))));refine Aa (OM rfl (O1 (Hr (q := []) ok9 rfl rfl) (OA rfl (Ab ?_))));refine Ai rfl (fun h1 => ?_) (fun h1 => ?_)
 ·refine Ad (Aa (OA rfl (OA rfl (Ab ?_))));refine Ak (Bw hw rfl ?_)
  have hs : s = [] := by simpa using h1
  have hB : Abg s n = 2 := if_pos hs
  unfold Afx; rw [hB, if_neg (by decide)]; rfl
 ·have hs : ¬ s = [] := by simpa using h1
  refine Ad (Aa (OM rfl (O1 (Bb (q := 0) ok3 rfl rfl) (OM rfl ?_))));refine Co 2 _ ?_ rfl rfl rfl rfl rfl (Av rfl) (fun hg => ?_) (fun hg => ?_) ?_
  rotate_left
  ·refine On hg (Ag rfl) (On hg (Cm (q := 1000000000) ok3 rfl rfl) (Ab ?_));refine ⟨rfl, ?_, ?_⟩
   ·exact sb
   ·exact rfl
  ·refine Of hg (Of hg (Ab ?_));exact ⟨rfl, sb⟩
  refine OA rfl (Ab ?_);refine Ai rfl (fun h2 => ?_) (fun h2 => ?_)
  ·refine Ad (Aa (OA rfl (OA rfl (Ab ?_))));refine Ak (Bw hw rfl ?_)
   have hn : n < 0 ∨ 1000000000 < n := by simpa using h2
   have hB : Abg s n = 3 := (if_neg hs).trans (if_pos hn)
   unfold Afx; rw [hB, if_neg (by decide)]; rfl
  ·have hn : ¬ (n < 0 ∨ 1000000000 < n) := by
    intro hh
    have := of_decide_eq_true (p := n < 0 ∨ 1000000000 < n) (by simpa using hh)
    simp only [Bool.or_eq_false_iff, decide_eq_false_iff_not] at h2
    rcases this with h | h
    ·exact h2.1 h
    ·exact h2.2 h
   have hil := Anu n (by omega) (by omega)
   refine Aj (Ad (Aa (OM rfl (O1 (Acq (a := [38]) (b := s) ok9 rfl rfl (by simp [Nn]; omega)) ?_))))
   refine O1 (Acq (a := [38] ++ s) (b := [46]) ok9 rfl rfl (by simp [Nn]; omega)) ?_
   refine OM rfl (Aq rfl rfl rfl rfl (f145 n _ (by omega) (by omega)) ?_)
   refine O1 (Acq (a := [38] ++ s ++ [46]) (b := Lib.itoa n) ok9 rfl rfl (by simp [Nn]; omega)) ?_
   refine OA rfl (OA rfl (Ab ?_));refine Ak (Bw hw rfl ?_);have hB : Abg s n = 0 := (if_neg hs).trans (if_neg hn);unfold Afx; rw [hB, if_pos rfl]; rfl
def wkN (s : Str) (at' : Nat) : Int := T0 (s.drop (at' + 1))
def wkS (s : Str) (at' : Nat) : Str := (s.take at').drop 1
def Z1 (s : Str) : Option (Str × Int) :=
 if (decide (Fq s < 2) || !decide (Int.ofNat (s.headD 0).toNat = 38)) = true then none
 else if ((!Vn (s.drop ((Fq s).toNat + 1)) || !decide (Abg (wkS s (Fq s).toNat) (wkN s (Fq s).toNat) = 0)) || !decide (Afx (wkS s (Fq s).toNat) (wkN s (Fq s).toNat) = s)) = true then none
 else some (wkS s (Fq s).toNat, wkN s (Fq s).toNat)
def wkV (o : Option (Str × Int)) : AV := match o with | none => .tup [sV [], iV 0, .bool false] | some p => .tup [sV p.1, iV p.2, .bool true]
theorem f75 (s : Str) (σ : Sto) (hb : s.length <= 281474976710656) : Ah Ew 75 [sV s] σ fun v σ' => v = wkV (Z1 s) /\ σ' = σ := by
 have hd0 : decide (Fq s < 2) = false -> s[0]? = some (s.headD 0) := by
  intro hh
  rcases Tz s with h | ⟨i, hi, h⟩
  ·rw [h] at hh; cases hh
  ·cases s with
   | nil => simp at hi
   | cons c r => rfl
 refine A2 Tryz.func75 rfl rfl fun hw hu0 => ?_
 refine Ad (Aa (OA rfl (OA rfl (OA rfl (Ab (Ad (Aa ?_)))))))
 refine OM rfl (Aq rfl rfl rfl rfl (f112 s _ (by omega)) ?_)
 refine OA rfl (Ab (Ad (Ad (Aa (OM rfl (O1 (Bb (q := 2) ok3 rfl rfl) (OM rfl ?_)))))));refine Co 3 _ ?_ rfl rfl rfl rfl rfl (Av rfl) (fun hg => ?_) (fun hg => ?_) ?_
 rotate_left
 ·refine On hg (Ag rfl) (On hg (Aij st9 rfl rfl (hd0 hg) (i := 0)) (On hg (C9 (q := 38) ok5 rfl rfl) (Ab ?_)));refine ⟨rfl, ?_, ?_⟩
  ·exact sb
  ·exact rfl
 ·refine Of hg (Of hg (Of hg (Ab ?_)));exact ⟨rfl, sb⟩
 refine Ab ?_;refine Ai rfl (fun h1 => ?_) (fun h1 => ?_)
 ·refine Ad (Aa (OA rfl (OA rfl (OA rfl (Ab ?_)))));refine Ak (Bw hw rfl ?_);rw [show Z1 s = none from if_pos h1]; rfl
 ·obtain ⟨i, hi, hli⟩ : ∃ i : Nat, i < s.length /\ Fq s = Int.ofNat i := by
   rcases Tz s with h | h
   ·rw [h] at h1; cases h1
   ·exact h
  have h2i : 2 <= i := by
   rw [hli] at h1;simp only [Bool.or_eq_false_iff, decide_eq_false_iff_not, Int.ofNat_eq_natCast] at h1;omega
  have hN : (Fq s).toNat = i := by rw [hli]; rfl
  have h1' := h1;rw [hli]
  refine Aj (Ad (Aa (OM rfl (OM rfl (O1 (A1 (q := 1) ok3 rfl rfl (by omega)) ?_)))))
  refine O1 (Anv (a := i + 1) st9 rfl rfl (by omega)) ?_
  refine Aq rfl rfl rfl rfl (f113 (s.drop (i + 1)) _ (by rw [List.length_drop]; omega)) ?_
  refine OM rfl (O1 (Ao rfl rfl) (O1 (Ao rfl rfl) (OA rfl (OA rfl (Ab (Ad (Ad ?_)))))))
  refine Aa (OM rfl (OM rfl (O1 (Ajj (a := 1) (b := i) st9 rfl rfl rfl (by omega) (by omega)) ?_)))
  refine OM rfl (Aq rfl rfl rfl rfl (f114 ((s.take i).drop 1) (T0 (s.drop (i + 1))) _ (by simp; omega)) ?_)
  refine OM rfl (O1 (Ao rfl rfl) (O1 (Ao rfl rfl) (OA rfl (OA rfl (Ab (Ad (Aa ?_)))))));refine OM rfl (O1 (Anw if202 rfl rfl rfl) (OM rfl ?_));refine Co 2 _ ?_ rfl rfl rfl rfl rfl (Av rfl) (fun hg => ?_) (fun hg => ?_) ?_
  rotate_left
  ·refine On hg (Ag rfl) (On hg (C9 (q := 0) Jp rfl rfl) (Ab ?_));refine ⟨rfl, ?_, ?_⟩
   ·exact sb
   ·exact rfl
  ·refine Of hg (Of hg (Ab ?_));exact ⟨rfl, sb⟩
  refine OM rfl ?_;refine Co 3 _ ?_ rfl rfl rfl rfl rfl (Av rfl) (fun hg => ?_) (fun hg => ?_) ?_
  rotate_left
  ·refine On hg (Ag rfl) (On hg (Ag rfl) (On hg (En ok9 rfl rfl) (Ab ?_)));refine ⟨rfl, ?_, ?_⟩
   ·exact sb
   ·exact rfl
  ·refine Of hg (Of hg (Of hg (Ab ?_)));exact ⟨rfl, sb⟩
  refine Ab ?_;refine Ai rfl (fun h2 => ?_) (fun h2 => ?_)
  ·refine Ad (Aa (OA rfl (OA rfl (OA rfl (Ab ?_)))));refine Ak (Bw hw rfl ?_)
   rw [show Z1 s = none by unfold Z1; rw [if_neg (fun hc => Bool.noConfusion (h1'.symm.trans hc)), hN]; exact if_pos h2]; rfl
  ·refine Aj (Ad (Aa (OM rfl (OM rfl (O1 (Ajj (a := 1) (b := i) st9 rfl rfl rfl (by omega) (by omega)) ?_)))))
   refine OM rfl (OA rfl (OA rfl (OA rfl (Ab ?_))));refine Ak (Bw hw rfl ?_)
   rw [show Z1 s = some (wkS s i, wkN s i) by unfold Z1; rw [if_neg (fun hc => Bool.noConfusion (h1'.symm.trans hc)), hN]; exact if_neg (fun hc => Bool.noConfusion (h2.symm.trans hc))]; rfl
def rV (r : Rl) : AV := .agg (eR r)
def Up (l : List Rl) (m : SM Rl) : SM Rl := l.foldl (fun m r => m.put r.label r) m
def Ei (g : Gr) (r : Nat) : List AV := [A9 g.sorts, slV eR 4 g.rules, .mp r]
def Fg (g : Gr) (r : Nat) : AV := .agg (Ei g r)
theorem Abh {ρ : Al} {σ : Sto} {Rr : Rec} {t r sz : Nat} {x y : Operand} {agg : Bool} {z : AV} {α : Type} {enc : α -> AV} {m : SM α} {s : Str} {v : α} (h9 : Dz Ew.P 9 = true) (hi : mpI Ew.P t = some (9, z, sz, agg)) (hx : A0 Ew ρ x = some (.mp r)) (hm : Bg enc σ r m) (hy : A0 Ew ρ y = some (sV s)) (hg : m.get s = some v) :
  Bu Ew Rr (.lookup t x y true) ρ σ (.tup [enc v, .bool true]) σ := by
 have := Pc (Rr := Rr) h9 hi hx hm hy
 rwa [hg] at this
theorem Abi {ρ : Al} {σ : Sto} {Rr : Rec} {t r sz : Nat} {x y : Operand} {agg : Bool} {z : AV} {α : Type} {enc : α -> AV} {m : SM α} {s : Str} (h9 : Dz Ew.P 9 = true) (hi : mpI Ew.P t = some (9, z, sz, agg)) (hx : A0 Ew ρ x = some (.mp r)) (hm : Bg enc σ r m) (hy : A0 Ew ρ y = some (sV s)) (hg : m.get s = none) :
  Bu Ew Rr (.lookup t x y true) ρ σ (.tup [z, .bool false]) σ := by
 have := Pc (Rr := Rr) h9 hi hx hm hy
 rwa [hg] at this
theorem Ak7 {ρ : Al} {σ : Sto} {Rr : Rec} {t r sz : Nat} {x y : Operand} {agg : Bool} {z : AV} {α : Type} {enc : α -> AV} {m : SM α} {s : Str} {v : α} {ok : Bool} (hok : true = ok) (h9 : Dz Ew.P 9 = true) (hi : mpI Ew.P t = some (9, z, sz, agg)) (hx : A0 Ew ρ x = some (.mp r)) (hm : Bg enc σ r m) (hy : A0 Ew ρ y = some (sV s)) (hg : m.get s = some v) :
  Bu Ew Rr (.lookup t x y true) ρ σ (.tup [enc v, .bool ok]) σ := by subst hok; exact Abh h9 hi hx hm hy hg
theorem Ak8 {ρ : Al} {σ : Sto} {Rr : Rec} {t r sz : Nat} {x y : Operand} {agg : Bool} {z : AV} {α : Type} {enc : α -> AV} {m : SM α} {s : Str} {ok : Bool} (hok : false = ok) (h9 : Dz Ew.P 9 = true) (hi : mpI Ew.P t = some (9, z, sz, agg)) (hx : A0 Ew ρ x = some (.mp r)) (hm : Bg enc σ r m) (hy : A0 Ew ρ y = some (sV s)) (hg : m.get s = none) :
  Bu Ew Rr (.lookup t x y true) ρ σ (.tup [z, .bool ok]) σ := by subst hok; exact Abi h9 hi hx hm hy hg
theorem Apl {N : Nat} (g : Gr) {r : Nat} (h : r < N) : AV.und N (Fg g r) = true := by
 have hr : AV.und N (.mp r) = true := by unfold AV.und; exact D8 h
 show (AV.und N (A9 g.sorts) && (AV.und N (slV eR 4 g.rules) && (AV.und N (.mp r) && true))) = true
 rw [show AV.und N (A9 g.sorts) = true from Jo Na _, Jo Adg, hr]; rfl
def zS : List AV := [.nil (.slice none 0 0), .nil (.slice none 0 0), .nil (.map none)]
theorem f49 (d : Db) (σ : Sto) (hB : DbB d) (hvf : d.vars.length + d.frames.length < 1000000) (hbr : (ofF d).1.rules.length < 2000000) : Ah Ew 49 [dbV d] σ fun v σ' => ∃ r, v = .tup [Fg (ofF d).1 r, iV (ofF d).2] /\ nx σ <= r /\ Bg rV σ' r (Up (ofF d).1.rules []) /\ Below (nx σ) σ σ' := by
 refine A2 Tryz.func49 rfl rfl fun hw hu0 => ?_
 refine Ad (Aa (Ax Ki rfl rfl rfl (O1 (Dt zi92) (OA rfl (Ab (Ad (Aa ?_)))))));refine O1 (Ae Ki rfl rfl rfl) (Aq rfl rfl rfl rfl (f99 d _ hB hvf) (OM rfl (O1 (Ao rfl rfl) (O1 (Ao rfl rfl) (B6 zi89 L6 rfl (fun _ => rfl) rfl rfl rfl rfl ?_)))))
 refine OA rfl (Ab (Ad (Aa (O1 (Ae L6 rfl rfl rfl) (O1 (Cr (n := nx σ + 1) Ae8 (Ap _ _)) (O1 (Cl bd92 rfl rfl) (B6 zi92 Fl rfl (fun _ => rfl) rfl rfl rfl rfl ?_)))))))
 refine Ab (Ad (Ad (Aa (O1 (Ac Lp rfl rfl) (O1 (Ae Zz rfl rfl rfl) (O1 (As Ahc rfl) (OM rfl ?_)))))));refine Ab (Am ?_)
 refine Cg (ofF d).1.rules.length (fun i0 => [(2, .pr (nx σ) 0), (5, iV (ofF d).2), (6, .pv (Ei (ofF d).1 (nx σ + 1))), (18, slV eR 4 (ofF d).1.rules), (19, iV (.ofNat (ofF d).1.rules.length)), (20, iV (.ofNat i0))]) (fun i0 σ0 => nx σ0 = nx σ + 2 /\ σ0.get (nx σ) = some (.cells zS) /\ (∀ b, b < nx σ -> σ0.get b = σ.get b) /\ ∃ m, Bg rV σ0 (nx σ + 1) m /\ Up (ofF d).1.rules [] = Up ((ofF d).1.rules.drop i0) m) ⟨rfl, rfl, rfl, rfl, rfl, rfl, trivial⟩ ⟨by rw [Ap, Ap], by rw [Sto.get_new, if_neg (by rw [Ap]; omega), Sto.get_new, if_pos rfl]; rfl, fun b hb => by rw [Sto.get_new, if_neg (by rw [Ap]; omega), Sto.get_new, if_neg (by omega)], [], ⟨0, by rw [Sto.get_new, if_pos (by rw [Ap])]; rfl⟩, rfl⟩ ?_
 rintro i0 σ0 hi0 ⟨hn0, h20, hg0, m, hm0, hf0⟩;refine Ad (Aa (O1 (Bb ok3 rfl rfl) (Ab (Ad ?_))));refine Ai rfl (fun h1 => ?_) (fun h1 => ?_)
 ·have hlt0 : i0 < (ofF d).1.rules.length := by simpa using h1
  obtain ⟨a0, ha0⟩ := B3 hlt0;have hd0 := Bn ha0;obtain ⟨vm, hvm⟩ := id hm0;refine Aj (Ad (Am (Ad (Aa (O1 (A3 Ac5 (fun _ => rfl) rfl rfl ha0) ?_)))))
  refine O1 (Ae F6 rfl rfl rfl) (B6 Tl F6 rfl (fun _ => rfl) rfl rfl rfl rfl ?_)
  refine Ab (Aa (O1 (Ac Ri rfl rfl) (O1 (Ae Ahd rfl rfl rfl) (O1 (Ac Wj rfl rfl) (O1 (Ae ld9 rfl rfl rfl) (O1 (Ae F6 rfl rfl rfl) (O1 (Fj (v := a0) st9 Ae8 rfl hvm rfl rfl (fun te k1 k2 => by first | exact G2 k1 k2 | exact G3 k1 k2 | exact Hu k1 k2 | exact Hv k1 k2 | exact Gj k1 k2 rfl)) ?_)))))))
  refine Ab (Aa (O1 (A1 (q := 1) ok3 rfl rfl (by omega)) ?_))
  refine OM rfl (Ab ?_)
  refine ⟨hlt0, ⟨rfl, rfl, rfl, rfl, rfl, rfl, trivial⟩, by rw [An]; exact hn0, by rw [Sto.get_set, if_neg (by omega)]; exact h20, fun b hb => by rw [Sto.get_set, if_neg (by omega)]; exact hg0 b hb, m.put a0.label a0, Bg.put, by rw [hf0, hd0]; rfl⟩
 ·have hge0 : (ofF d).1.rules.length <= i0 := by simpa using h1
  have hargs : Up (ofF d).1.rules [] = m := by rw [hf0, List.drop_eq_nil_of_le hge0]; rfl
  rw [← hargs] at hm0;refine Bf ?_
  refine Ad (Aa (O1 (Ae Fl rfl rfl rfl) (OM rfl (O1 (A6 (ad := nx σ) (off := 0) (vs := zS) (vs' := Ei (ofF d).1 (nx σ + 1)) (cs := Ei (ofF d).1 (nx σ + 1)) Fl rfl rfl rfl (by simp only [Sto.cells, h20]) rfl) ?_))))
  refine OA rfl (Ab ?_);refine Ec fun hw9 => ?_
  refine Ak ?_
  have hn9 : nx (σ0.set (nx σ) (.cells (Ei (ofF d).1 (nx σ + 1)))) = nx σ + 2 := by rw [An]; exact hn0
  exact ⟨[Fg (ofF d).1 (nx σ + 1), iV (ofF d).2], Cc Fl rfl (by simp only [Sto.cells]; rw [Sto.get_set, if_pos rfl]) rfl (Fe rfl rfl), _, _, Aw.of_same hw9 nl (fun _ _ => rfl), by rw [hn9]; omega, .same (by show (AV.und _ (Fg (ofF d).1 (nx σ + 1)) && (true && true)) = true; rw [Apl _ (by rw [hn9]; omega)]; rfl), nx σ + 1, rfl, by omega, hm0.set (by omega), by rw [hn9]; omega, fun b hb => by rw [Sto.get_set, if_neg (by omega)]; exact hg0 b hb⟩
def Fh (g : Gr) (m : SM Rl) (l : Str) : Str := match m.get l with
 | some r => r.sort
 | none => match Z1 l with
  | some p => if (g.sorts.any fun x => decide (p.1 = x)) = true then p.1 else []
  | none => []
def Lr (g : Gr) (m : SM Rl) (l : Str) : Bool := match m.get l with
 | some r => r.var
 | none => !decide (Fh g m l = [])
theorem f51a (g : Gr) (m : SM Rl) (l : Str) (r : Nat) (σ : Sto) (hm : Bg rV σ r m) (hb : l.length <= 281474976710656) (hs : g.sorts.length < 1000000) (rl : Rl) (hg : m.get l = some rl) : Ah Ew 51 [Fg g r, sV l] σ fun v σ' => v = sV (Fh g m l) /\ σ' = σ := by
 refine A2 Tryz.func51 rfl rfl fun hw hu0 => ?_
 refine Ad (Aa (Ax Fl rfl rfl rfl (OA rfl (Ab (Ad (Ad (Aa ?_)))))));refine O1 (Ac Ri rfl rfl) (O1 (Ae Ahd rfl rfl rfl) (OM rfl (O1 (Abh (v := rl) st9 Ae8 rfl hm rfl hg) (OM rfl (O1 (Ao rfl rfl) (O1 (Ao rfl rfl) (B6 (cs := eR rl) Tl F6 rfl (fun _ => rfl) rfl rfl rfl rfl ?_)))))))
 refine OA rfl (Ab (Ad (Aa (OM rfl (Ab ?_)))));refine Ai rfl (fun h1 => ?_) (fun h1 => ?_)
 ·refine Ad (Aa (O1 (Ac Aiw rfl rfl) (O1 (Ae ld9 rfl rfl rfl) (OA rfl (Ab ?_)))));refine Ak (Bw hw rfl ?_);unfold Fh; rw [hg]; rfl
 ·cases h1
theorem f75w {u : Str} {n : Int} {b : Bool} (l : Str) (σ : Sto) (hb : l.length <= 281474976710656) (h : wkV (Z1 l) = .tup [sV u, iV n, .bool b]) : Ah Ew 75 [sV l] σ fun v σ' => v = .tup [sV u, iV n, .bool b] /\ σ' = σ := by
 rw [← h]; exact f75 l σ hb
theorem f51c (g : Gr) (m : SM Rl) (l : Str) (r : Nat) (σ : Sto) (hm : Bg rV σ r m) (hb : l.length <= 281474976710656) (hs : g.sorts.length < 1000000) (hg : m.get l = none) (u : Str) (n : Int) (b : Bool) (hw1 : wkV (Z1 l) = .tup [sV u, iV n, .bool b]) (hr : Fh g m l = if (b && (g.sorts.any fun x => decide (u = x))) = true then u else []) : Ah Ew 51 [Fg g r, sV l] σ fun v σ' => v = sV (Fh g m l) /\ σ' = σ := by
 refine A2 Tryz.func51 rfl rfl fun hw hu0 => ?_
 refine Ad (Aa (Ax Fl rfl rfl rfl (OA rfl (Ab (Ad (Ad (Aa ?_)))))));refine O1 (Ac Ri rfl rfl) (O1 (Ae Ahd rfl rfl rfl) (OM rfl (O1 (Abi st9 Ae8 rfl hm rfl hg) (OM rfl (O1 (Ao rfl rfl) (O1 (Ao rfl rfl) (B6 Tl F6 rfl (fun _ => rfl) rfl rfl rfl rfl ?_)))))))
 refine OA rfl (Ab (Ad (Aa (OM rfl (Ab ?_)))));refine Ai rfl (fun h1 => ?_) (fun h1 => ?_)
 ·cases h1
 ·refine Aj (Ad (Ad (Aa (OM rfl (Aq rfl rfl rfl rfl (f75w l _ hb hw1) (OM rfl (O1 (Ao rfl rfl) ?_)))))));refine O1 (Ao rfl rfl) (O1 (Ao rfl rfl) (OA rfl (OA rfl (OA rfl (Ab (Ad (Aa ?_)))))));refine OM rfl (OM rfl ?_);refine Cv 5 _ ?_ rfl rfl rfl rfl rfl (Av rfl) (fun hg => ?_) (fun hg => ?_) ?_
  rotate_left
  ·refine On hg (Ac Aq4 rfl rfl) (On hg (Ac M0 rfl rfl) (On hg (Ae Cf rfl rfl rfl) (On hg (Ag rfl) (B0 rfl rfl rfl (by rw [hg]; rfl) rfl rfl rfl rfl (f30 g.sorts u _ (by omega)) ?_))))
   refine Ab ?_;refine ⟨rfl, ?_, ?_⟩
   ·exact sb
   ·exact rfl
  ·refine Of hg (Of hg (Of hg (Of hg (Of hg (Ab ?_)))));exact ⟨rfl, sb⟩
  refine Ab ?_;refine Ai rfl (fun h2 => ?_) (fun h2 => ?_)
  ·refine Ad (Aa (OM rfl (OA rfl (Ab ?_))));refine Ak (Bw hw rfl ?_);rw [hr, if_pos h2]; rfl
  ·refine Aj (Ad (Aa (OA rfl (Ab ?_))));refine Ak (Bw hw rfl ?_);rw [hr, if_neg (fun hc => Bool.noConfusion (h2.symm.trans hc))]; rfl
theorem f51 (g : Gr) (m : SM Rl) (l : Str) (r : Nat) (σ : Sto) (hm : Bg rV σ r m) (hb : l.length <= 281474976710656) (hs : g.sorts.length < 1000000) : Ah Ew 51 [Fg g r, sV l] σ fun v σ' => v = sV (Fh g m l) /\ σ' = σ := by
 cases hg : m.get l with
 | some rl => exact f51a g m l r σ hm hb hs rl hg
 | none =>
  cases hk : Z1 l with
  | none => exact f51c g m l r σ hm hb hs hg [] 0 false (by rw [hk]; rfl) (by unfold Fh; rw [hg]; simp only [hk]; rfl)
  | some p => exact f51c g m l r σ hm hb hs hg p.1 p.2 true (by rw [hk]; rfl) (by unfold Fh; rw [hg]; simp only [hk]; rfl)
theorem f53a (g : Gr) (m : SM Rl) (l : Str) (r : Nat) (σ : Sto) (hm : Bg rV σ r m) (hb : l.length <= 281474976710656) (hs : g.sorts.length < 1000000) (rl : Rl) (hg : m.get l = some rl) (ok : Bool) (hok : true = ok) : Ah Ew 53 [Fg g r, sV l] σ fun v σ' => v = .bool (Lr g m l) /\ σ' = σ := by
 refine A2 Tryz.func53 rfl rfl fun hw hu0 => ?_
 refine Ad (Aa (Ax Fl rfl rfl rfl (OA rfl (Ab (Ad (Aa (O1 (Ac Ri rfl rfl) ?_)))))));refine O1 (Ae Ahd rfl rfl rfl) (OM rfl (O1 (Ak7 (v := rl) hok st9 Ae8 rfl hm rfl hg) (OM rfl (O1 (Ao rfl rfl) (O1 (Ao rfl rfl) (B6 Tl F6 rfl (fun _ => rfl) rfl rfl rfl rfl ?_))))))
 refine OA rfl (Ab (Ad (Aa (OM rfl (OM rfl ?_)))));refine Cv 2 _ ?_ rfl rfl rfl rfl rfl (Av rfl) (fun hg => ?_) (fun hg => ?_) ?_
 rotate_left
 ·refine On hg (Ac Ac6 rfl rfl) (On hg (Ae ld4 rfl rfl rfl) (Ab ?_));refine ⟨rfl, ?_, ?_⟩
  ·exact sb
  ·exact rfl
 ·refine Of hg (Of hg (Ab ?_));exact ⟨rfl, sb⟩
 refine OM rfl ?_;refine Co 8 _ ?_ rfl rfl rfl rfl rfl (Av rfl) (fun hg => ?_) (fun hg => ?_) ?_
 rotate_left
 ·refine On hg (Ag rfl) (On hg (A8 rfl) (On hg (Ag rfl) ?_))
  refine Cv 4 _ ?_ rfl rfl rfl rfl rfl (Iu rfl rfl rfl rfl (by rw [hg]; rfl)) (fun hg => ?_) (fun hg => ?_) ?_
  rotate_left
  ·refine On hg (Ae Fl rfl rfl rfl) (On hg (Ag rfl) (B0 rfl rfl rfl (by rw [hg]; rfl) rfl rfl rfl rfl (f51 g m l r _ hm hb hs) ?_))
   refine On hg (En (q := []) ok9 rfl rfl) (Ab ?_);refine ⟨rfl, ?_, ?_⟩
   ·exact sb
   ·exact rfl
  ·refine Of hg (Of hg (Of hg (Of hg (Ab ?_))));exact ⟨rfl, sb⟩
  refine Ab ?_;refine ⟨rfl, ?_, ?_⟩
  ·exact sb
  ·exact rfl
 ·refine Of hg (Of hg (Of hg (Ou (Ou (Ou (Ou (Of hg ?_)))))));refine Ab ?_;exact ⟨rfl, sb⟩
 refine OA rfl (Ab ?_);refine Ak (Bw hw rfl ?_);subst hok; unfold Lr; rw [hg]; show AV.bool _ = AV.bool rl.var; cases rl.var <;> rfl
theorem f53b (g : Gr) (m : SM Rl) (l : Str) (r : Nat) (σ : Sto) (hm : Bg rV σ r m) (hb : l.length <= 281474976710656) (hs : g.sorts.length < 1000000) (hg : m.get l = none) (ok : Bool) (hok : false = ok) : Ah Ew 53 [Fg g r, sV l] σ fun v σ' => v = .bool (Lr g m l) /\ σ' = σ := by
 refine A2 Tryz.func53 rfl rfl fun hw hu0 => ?_
 refine Ad (Aa (Ax Fl rfl rfl rfl (OA rfl (Ab (Ad (Aa (O1 (Ac Ri rfl rfl) ?_)))))));refine O1 (Ae Ahd rfl rfl rfl) (OM rfl (O1 (Ak8 hok st9 Ae8 rfl hm rfl hg) (OM rfl (O1 (Ao rfl rfl) (O1 (Ao rfl rfl) (B6 Tl F6 rfl (fun _ => rfl) rfl rfl rfl rfl ?_))))))
 refine OA rfl (Ab (Ad (Aa (OM rfl (OM rfl ?_)))));refine Cv 2 _ ?_ rfl rfl rfl rfl rfl (Av rfl) (fun hg => ?_) (fun hg => ?_) ?_
 rotate_left
 ·refine On hg (Ac Ac6 rfl rfl) (On hg (Ae ld4 rfl rfl rfl) (Ab ?_));refine ⟨rfl, ?_, ?_⟩
  ·exact sb
  ·exact rfl
 ·refine Of hg (Of hg (Ab ?_));exact ⟨rfl, sb⟩
 refine OM rfl ?_;refine Co 8 _ ?_ rfl rfl rfl rfl rfl (Av rfl) (fun hg => ?_) (fun hg => ?_) ?_
 rotate_left
 ·refine On hg (Ag rfl) (On hg (A8 rfl) (On hg (Ag rfl) ?_))
  refine Cv 4 _ ?_ rfl rfl rfl rfl rfl (Iu rfl rfl rfl rfl (by rw [hg]; rfl)) (fun hg => ?_) (fun hg => ?_) ?_
  rotate_left
  ·refine On hg (Ae Fl rfl rfl rfl) (On hg (Ag rfl) (B0 rfl rfl rfl (by rw [hg]; rfl) rfl rfl rfl rfl (f51 g m l r _ hm hb hs) ?_))
   refine On hg (En (q := []) ok9 rfl rfl) (Ab ?_);refine ⟨rfl, ?_, ?_⟩
   ·exact sb
   ·exact rfl
  ·refine Of hg (Of hg (Of hg (Of hg (Ab ?_))));exact ⟨rfl, sb⟩
  refine Ab ?_;refine ⟨rfl, ?_, ?_⟩
  ·exact sb
  ·exact rfl
 ·refine Of hg (Of hg (Of hg (Ou (Ou (Ou (Ou (Of hg ?_)))))));refine Ab ?_;exact ⟨rfl, sb⟩
 refine OA rfl (Ab ?_);refine Ak (Bw hw rfl ?_);subst hok; unfold Lr; rw [hg]; rfl
theorem f53 (g : Gr) (m : SM Rl) (l : Str) (r : Nat) (σ : Sto) (hm : Bg rV σ r m) (hb : l.length <= 281474976710656) (hs : g.sorts.length < 1000000) : Ah Ew 53 [Fg g r, sV l] σ fun v σ' => v = .bool (Lr g m l) /\ σ' = σ := by
 cases hg : m.get l with
 | some rl => exact f53a g m l r σ hm hb hs rl hg true rfl
 | none => exact f53b g m l r σ hm hb hs hg false rfl
theorem Own.setAt {σ : Sto} {N sz i : Nat} {α : Type} {enc : α -> List AV} {l : List α} {v : AV} (h : Own σ N enc sz l v) (hi : i < l.length) (u : α) :
  ∃ a tl, N <= a /\ a < nx σ /\ v = .sr a 0 sz l.length none /\ σ.get a = some (.cells (l.flatMap enc ++ tl)) /\ Own (σ.set a (.cells ((l.set i u).flatMap enc ++ tl))) N enc sz (l.set i u) v := by
 rcases h with ⟨rfl, _⟩ | ⟨a, tl, h1, h2, h3, h4⟩
 ·simp at hi
 ·exact ⟨a, tl, h1, h2, h3, h4, .inr ⟨a, tl, h1, by rw [An]; exact h2, by rw [List.length_set]; exact h3, by rw [Sto.get_set, if_pos rfl]⟩⟩
def Eq (m : SM Rl) (l : Str) : List Pt := match m.get l with | some r => r.parts | none => []
def Ib : List Pt -> List Str -> List Str
 | [], o => o
 | p :: r, o => Ib r (if Lq p = true then o.set p.arg.toNat p.sort else o)
def Ic (ps : List Pt) : List Str := Ib ps (List.replicate (Dl ps).length [])
theorem L8 : ∀ (l k : List Pt) (o : List Str), Ib (l ++ k) o = Ib k (Ib l o)
 | [], _, _ => rfl
 | p :: r, k, o => by simp only [List.cons_append, Ib]; exact L8 r k _
theorem Uq : ∀ (l : List Pt) (o : List Str), (Ib l o).length = o.length
 | [], _ => rfl
 | p :: r, o => by unfold Ib; rw [Uq r]; split <;> simp
def Ur (ps : List Pt) : Prop := ∀ p ∈ ps, Lq p = true -> ∃ j : Nat, p.arg = .ofNat j /\ j < (Dl ps).length
theorem Ajk : ∀ {l : List Int} {n : Nat}, Adf l n = false -> ∀ x ∈ l, ∃ j : Nat, x = .ofNat j /\ n <= j /\ j < n + l.length
 | [], _, _, x, hx => by cases hx
 | a :: r, n, h, x, hx => by
  simp only [Adf, Bool.or_eq_false_iff] at h
  rcases List.mem_cons.1 hx with rfl | hx
  ·exact ⟨n, by simpa using h.1, nl, by simp⟩
  ·obtain ⟨j, h1, h2, h3⟩ := Ajk h.2 x hx
   exact ⟨j, h1, by omega, by simp; omega⟩
theorem Ahs {g : Gr} {r : Rl} (h : H3 g r = true) : Ur r.parts := by
 intro p hp hb;unfold H3 at h
 split at h
 ·cases h
 ·split at h
  ·cases h
  ·rename_i hbad
   have hm : p.arg ∈ D3 (Eh r) := by
    unfold D3;rw [List.mem_mergeSort];unfold Eh;exact List.mem_map.2 ⟨p, List.mem_filter.2 ⟨hp, hb⟩, rfl⟩
   obtain ⟨j, h1, _, h3⟩ := Ajk (by simpa using hbad) _ hm
   refine ⟨j, h1, ?_⟩
   rw [show (D3 (Eh r)).length = (Dl r.parts).length by unfold D3 Eh; rw [List.length_mergeSort, List.length_map]] at h3
   omega
theorem f140a (g : Gr) (m : SM Rl) (l : Str) (r : Nat) (σ : Sto) (hm : Bg rV σ r m) (rl : Rl) (hg : m.get l = some rl) (hb : rl.parts.length < 1000000) (hv : Ur rl.parts) : Ah Ew 140 [Fg g r, sV l] σ fun v σ' => v = A9 (Ic rl.parts) /\ σ' = σ := by
 refine A2 Tryz.func140 rfl rfl fun hw hu0 => ?_
 refine Ad (Aa (Ax Fl rfl rfl rfl (OA rfl (Ab (Ad (Aa (O1 (Ac Ri rfl rfl) ?_)))))));refine O1 (Ae Ahd rfl rfl rfl) (OM rfl (O1 (Kp (v := rl) st9 Ae8 rfl hm rfl hg) (O1 (Ad9 (cs := eR rl) Iv rfl rfl) (OA rfl (Ab (Ad (Aa ?_)))))));refine OA rfl (Ab (Ad (Ad (Aa (OM rfl (O1 (As (enc := ePt) (l := rl.parts) Qq rfl) (OM rfl ?_)))))));refine Ab (Am ?_);refine E9 (fun q : Nat × AV => [(5, slV ePt 3 rl.parts), (6, q.2), (16, slV ePt 3 rl.parts), (17, iV (.ofNat rl.parts.length)), (18, iV (.ofNat q.1))]) (fun q σ0 => q.1 <= rl.parts.length /\ Own σ0 (nx σ) e1 1 (List.replicate (Dl (rl.parts.take q.1)).length ([] : Str)) q.2 /\ Below (nx σ) σ σ0) (fun q => rl.parts.length - q.1) (0, .nil (.slice none 0 0)) ⟨rfl, rfl, rfl, rfl, rfl, trivial⟩ ⟨Nat.zero_le _, .nil, Below.rfl'⟩ ?_
 rintro ⟨i0, v0⟩ σ0 hP0;obtain ⟨hi0, hown, hbel⟩ : i0 <= rl.parts.length /\ Own σ0 (nx σ) e1 1 (List.replicate (Dl (rl.parts.take i0)).length ([] : Str)) v0 /\ Below (nx σ) σ σ0 := hP0;refine Ad (Aa (O1 (Bb ok3 rfl rfl) (Ab (Ad ?_))));refine Ai rfl (fun h1 => ?_) (fun h1 => ?_)
 ·have hlt0 : i0 < rl.parts.length := by simpa using h1
  obtain ⟨a0, ha0⟩ := B3 hlt0;have hd0 := Bn ha0;refine Aj (Ad (Am (Ad (Aa (O1 (A3 (enc := ePt) (l := rl.parts) Nh (fun _ => rfl) rfl rfl ha0) ?_)))))
  refine O1 (Ae Jc rfl rfl rfl) (B6 Aa0 Jc rfl (fun _ => rfl) rfl rfl rfl rfl ?_)
  refine Ab (Ad (Aa (O1 (Ac Jq rfl rfl) (O1 (Ae ld9 rfl rfl rfl) (O1 (En (q := []) ok9 rfl rfl) (Ab ?_))))));refine Ai rfl (fun h2 => ?_) (fun h2 => ?_)
  ·have hlim : ((List.replicate (Dl (rl.parts.take i0)).length ([] : Str)).length + [([] : Str)].length) * (16 + 1) <= sizeLim := by
    have := List.length_filter_le Lq (rl.parts.take i0);rw [List.length_replicate]; unfold Dl;rw [List.length_take] at this
    simp [sizeLim]; omega
   obtain ⟨v1, τ1, hap, ho1, hb1, _⟩ := Own.app (by' := 16) (enc := e1) (sz := 1) (fun _ => rfl) hbel.1 hown [([] : Str)] hlim
   have hap : Cj σ0 1 16 v0 1 (e1 []) = some (v1, τ1) := by simpa using hap
   refine Aa (OM rfl (E2 (Br C5 byW rfl rfl rfl) (Gq (len := 1)) rfl rfl (O1 (B5 C5 rfl D0 rfl rfl rfl (new := e1 []) rfl hap) (OA rfl (Ab (Aa (O1 (A1 (q := 1) ok3 rfl rfl (by omega)) ?_)))))))
   refine OM rfl (Ab ?_)
   refine ⟨(i0 + 1, v1), by show rl.parts.length - (i0 + 1) < rl.parts.length - i0; omega, ⟨rfl, rfl, rfl, rfl, rfl, trivial⟩, hlt0, by rw [Ip ha0, if_pos (show Lq a0 = true from h2), List.length_append, List.length_singleton, List.replicate_succ']; exact ho1, hbel.trans hb1⟩
  ·refine Aj (Aa (O1 (A1 (q := 1) ok3 rfl rfl (by omega)) ?_))
   refine OM rfl (Ab ?_)
   refine ⟨(i0 + 1, v0), by show rl.parts.length - (i0 + 1) < rl.parts.length - i0; omega, ⟨rfl, rfl, rfl, rfl, rfl, trivial⟩, hlt0, by rw [Ip ha0, if_neg (by rw [show Lq a0 = false from h2]; simp), List.append_nil]; exact hown, hbel⟩
 ·have hge0 : rl.parts.length <= i0 := by simpa using h1
  rw [List.take_of_length_le hge0] at hown;refine Bf ?_;refine Ad (Ad (Aa (OM rfl (O1 (As (enc := ePt) (l := rl.parts) Qq rfl) (OM rfl (Ab (Am ?_)))))));refine Cg rl.parts.length (fun i2 => [(6, v0), (29, slV ePt 3 rl.parts), (30, iV (.ofNat rl.parts.length)), (31, iV (.ofNat i2))]) (fun i2 σ2 => Own σ2 (nx σ) e1 1 (Ib (rl.parts.take i2) (List.replicate (Dl rl.parts).length ([] : Str))) v0 /\ Below (nx σ) σ σ2) ⟨rfl, rfl, rfl, rfl, trivial⟩ ⟨hown, hbel⟩ ?_
  rintro i2 σ2 hi2 ⟨hown2, hbel2⟩;refine Ad (Aa (O1 (Bb ok3 rfl rfl) (Ab (Ad ?_))));refine Ai rfl (fun h2 => ?_) (fun h2 => ?_)
  ·have hlt2 : i2 < rl.parts.length := by simpa using h2
   obtain ⟨a2, ha2⟩ := B3 hlt2;have hd2 := Bn ha2;refine Aj (Ad (Am (Ad (Aa (O1 (A3 (enc := ePt) (l := rl.parts) Nh (fun _ => rfl) rfl rfl ha2) ?_)))))
   refine O1 (Ae Jc rfl rfl rfl) (B6 Aa0 Jc rfl (fun _ => rfl) rfl rfl rfl rfl ?_)
   refine Ab (Ad (Aa (O1 (Ac Jq rfl rfl) (O1 (Ae ld9 rfl rfl rfl) (O1 (En (q := []) ok9 rfl rfl) (Ab ?_))))));refine Ai rfl (fun h3 => ?_) (fun h3 => ?_)
   ·obtain ⟨j, hj, hjl⟩ := hv a2 (List.mem_of_getElem? ha2) h3
    have hlen : (Ib (rl.parts.take i2) (List.replicate (Dl rl.parts).length ([] : Str))).length = (Dl rl.parts).length := by rw [Uq, List.length_replicate]
    have hjl' : j < (Ib (rl.parts.take i2) (List.replicate (Dl rl.parts).length ([] : Str))).length := by rw [hlen]; exact hjl
    obtain ⟨b, tl, hNb, hbn, hvb, hget, hset⟩ := hown2.setAt hjl' a2.sort
    refine Aa (OM rfl (O1 (Ac Wl rfl rfl) (O1 (Ae ld3 rfl rfl rfl) (O1 (Ac Jq rfl rfl) (O1 (Ae ld9 rfl rfl rfl) (O1 (Hw (i := j) (k := .i64) C5 (by rw [← hvb]; rfl) (by rw [← hj]; rfl) hjl') ?_))))))
    refine O1 (Acr (enc := e1) (u := a2.sort) (i := j) (fun _ => rfl) ld9 rfl rfl rfl hget hjl') ?_
    refine Ab (Aa (O1 (A1 (q := 1) ok3 rfl rfl (by omega)) ?_))
    refine OM rfl (Ab ?_)
    refine ⟨hlt2, ⟨rfl, rfl, rfl, rfl, trivial⟩, by rw [Cx ha2, L8]; show Own _ _ _ _ (if Lq a2 = true then (Ib (rl.parts.take i2) _).set a2.arg.toNat a2.sort else _) _; rw [if_pos (show Lq a2 = true from h3), hj]; exact hset, by rw [An]; exact hbel2.1, fun b' hb' => by rw [Sto.get_set, if_neg (by omega)]; exact hbel2.2 b' hb'⟩
   ·refine Aj (Aa (O1 (A1 (q := 1) ok3 rfl rfl (by omega)) ?_))
    refine OM rfl (Ab ?_)
    refine ⟨hlt2, ⟨rfl, rfl, rfl, rfl, trivial⟩, by rw [Cx ha2, L8]; show Own _ _ _ _ (if Lq a2 = true then _ else Ib (rl.parts.take i2) _) _; rw [if_neg (by rw [show Lq a2 = false from h3]; simp)]; exact hown2, hbel2⟩
  ·have hge2 : rl.parts.length <= i2 := by simpa using h2
   rw [List.take_of_length_le hge2] at hown2;refine Bf ?_;refine Ad (Aa (OM rfl (OA rfl (Ab ?_))));refine Ak ?_;exact ⟨_, rfl, A9 (Ic rl.parts), σ, Aw.below hw hbel2, nl, hown2.fz (fun _ => rfl) (fun a ha => hw.none ha) (Ce Na _), rfl, rfl⟩
theorem Apm {ps : List Pt} (h : [] = ps) : Wk (.nil (.slice none 0 0)) (slV ePt 3 ps) := by subst h; exact X5
theorem f140b (g : Gr) (m : SM Rl) (l : Str) (r : Nat) (σ : Sto) (hm : Bg rV σ r m) (hg : m.get l = none) (ps : List Pt) (hps : [] = ps) (hb : ps.length < 1000000) (hv : Ur ps) : Ah Ew 140 [Fg g r, sV l] σ fun v σ' => v = A9 (Ic ps) /\ σ' = σ := by
 refine A2 Tryz.func140 rfl rfl fun hw hu0 => ?_
 refine Ad (Aa (Ax Fl rfl rfl rfl (OA rfl (Ab (Ad (Aa (O1 (Ac Ri rfl rfl) ?_)))))));refine O1 (Ae Ahd rfl rfl rfl) (OM rfl (O1 (Afj st9 Ae8 rfl hm rfl hg) (E2 (Ad9 Iv rfl rfl) (Apm hps) rfl rfl (OA rfl (Ab (Ad (Aa ?_)))))));refine OA rfl (Ab (Ad (Ad (Aa (OM rfl (O1 (As (enc := ePt) (l := ps) Qq rfl) (OM rfl ?_)))))));refine Ab (Am ?_);refine E9 (fun q : Nat × AV => [(5, slV ePt 3 ps), (6, q.2), (16, slV ePt 3 ps), (17, iV (.ofNat ps.length)), (18, iV (.ofNat q.1))]) (fun q σ0 => q.1 <= ps.length /\ Own σ0 (nx σ) e1 1 (List.replicate (Dl (ps.take q.1)).length ([] : Str)) q.2 /\ Below (nx σ) σ σ0) (fun q => ps.length - q.1) (0, .nil (.slice none 0 0)) ⟨rfl, rfl, rfl, rfl, rfl, trivial⟩ ⟨Nat.zero_le _, .nil, Below.rfl'⟩ ?_
 rintro ⟨i0, v0⟩ σ0 hP0;obtain ⟨hi0, hown, hbel⟩ : i0 <= ps.length /\ Own σ0 (nx σ) e1 1 (List.replicate (Dl (ps.take i0)).length ([] : Str)) v0 /\ Below (nx σ) σ σ0 := hP0;refine Ad (Aa (O1 (Bb ok3 rfl rfl) (Ab (Ad ?_))));refine Ai rfl (fun h1 => ?_) (fun h1 => ?_)
 ·have hlt0 : i0 < ps.length := by simpa using h1
  obtain ⟨a0, ha0⟩ := B3 hlt0;have hd0 := Bn ha0;refine Aj (Ad (Am (Ad (Aa (O1 (A3 (enc := ePt) (l := ps) Nh (fun _ => rfl) rfl rfl ha0) ?_)))))
  refine O1 (Ae Jc rfl rfl rfl) (B6 Aa0 Jc rfl (fun _ => rfl) rfl rfl rfl rfl ?_)
  refine Ab (Ad (Aa (O1 (Ac Jq rfl rfl) (O1 (Ae ld9 rfl rfl rfl) (O1 (En (q := []) ok9 rfl rfl) (Ab ?_))))));refine Ai rfl (fun h2 => ?_) (fun h2 => ?_)
  ·have hlim : ((List.replicate (Dl (ps.take i0)).length ([] : Str)).length + [([] : Str)].length) * (16 + 1) <= sizeLim := by
    have := List.length_filter_le Lq (ps.take i0);rw [List.length_replicate]; unfold Dl;rw [List.length_take] at this
    simp [sizeLim]; omega
   obtain ⟨v1, τ1, hap, ho1, hb1, _⟩ := Own.app (by' := 16) (enc := e1) (sz := 1) (fun _ => rfl) hbel.1 hown [([] : Str)] hlim
   have hap : Cj σ0 1 16 v0 1 (e1 []) = some (v1, τ1) := by simpa using hap
   refine Aa (OM rfl (E2 (Br C5 byW rfl rfl rfl) (Gq (len := 1)) rfl rfl (O1 (B5 C5 rfl D0 rfl rfl rfl (new := e1 []) rfl hap) (OA rfl (Ab (Aa (O1 (A1 (q := 1) ok3 rfl rfl (by omega)) ?_)))))))
   refine OM rfl (Ab ?_)
   refine ⟨(i0 + 1, v1), by show ps.length - (i0 + 1) < ps.length - i0; omega, ⟨rfl, rfl, rfl, rfl, rfl, trivial⟩, hlt0, by rw [Ip ha0, if_pos (show Lq a0 = true from h2), List.length_append, List.length_singleton, List.replicate_succ']; exact ho1, hbel.trans hb1⟩
  ·refine Aj (Aa (O1 (A1 (q := 1) ok3 rfl rfl (by omega)) ?_))
   refine OM rfl (Ab ?_)
   refine ⟨(i0 + 1, v0), by show ps.length - (i0 + 1) < ps.length - i0; omega, ⟨rfl, rfl, rfl, rfl, rfl, trivial⟩, hlt0, by rw [Ip ha0, if_neg (by rw [show Lq a0 = false from h2]; simp), List.append_nil]; exact hown, hbel⟩
 ·have hge0 : ps.length <= i0 := by simpa using h1
  rw [List.take_of_length_le hge0] at hown;refine Bf ?_;refine Ad (Ad (Aa (OM rfl (O1 (As (enc := ePt) (l := ps) Qq rfl) (OM rfl (Ab (Am ?_)))))));refine Cg ps.length (fun i2 => [(6, v0), (29, slV ePt 3 ps), (30, iV (.ofNat ps.length)), (31, iV (.ofNat i2))]) (fun i2 σ2 => Own σ2 (nx σ) e1 1 (Ib (ps.take i2) (List.replicate (Dl ps).length ([] : Str))) v0 /\ Below (nx σ) σ σ2) ⟨rfl, rfl, rfl, rfl, trivial⟩ ⟨hown, hbel⟩ ?_
  rintro i2 σ2 hi2 ⟨hown2, hbel2⟩;refine Ad (Aa (O1 (Bb ok3 rfl rfl) (Ab (Ad ?_))));refine Ai rfl (fun h2 => ?_) (fun h2 => ?_)
  ·have hlt2 : i2 < ps.length := by simpa using h2
   obtain ⟨a2, ha2⟩ := B3 hlt2;have hd2 := Bn ha2;refine Aj (Ad (Am (Ad (Aa (O1 (A3 (enc := ePt) (l := ps) Nh (fun _ => rfl) rfl rfl ha2) ?_)))))
   refine O1 (Ae Jc rfl rfl rfl) (B6 Aa0 Jc rfl (fun _ => rfl) rfl rfl rfl rfl ?_)
   refine Ab (Ad (Aa (O1 (Ac Jq rfl rfl) (O1 (Ae ld9 rfl rfl rfl) (O1 (En (q := []) ok9 rfl rfl) (Ab ?_))))));refine Ai rfl (fun h3 => ?_) (fun h3 => ?_)
   ·obtain ⟨j, hj, hjl⟩ := hv a2 (List.mem_of_getElem? ha2) h3
    have hlen : (Ib (ps.take i2) (List.replicate (Dl ps).length ([] : Str))).length = (Dl ps).length := by rw [Uq, List.length_replicate]
    have hjl' : j < (Ib (ps.take i2) (List.replicate (Dl ps).length ([] : Str))).length := by rw [hlen]; exact hjl
    obtain ⟨b, tl, hNb, hbn, hvb, hget, hset⟩ := hown2.setAt hjl' a2.sort
    refine Aa (OM rfl (O1 (Ac Wl rfl rfl) (O1 (Ae ld3 rfl rfl rfl) (O1 (Ac Jq rfl rfl) (O1 (Ae ld9 rfl rfl rfl) (O1 (Hw (i := j) (k := .i64) C5 (by rw [← hvb]; rfl) (by rw [← hj]; rfl) hjl') ?_))))))
    refine O1 (Acr (enc := e1) (u := a2.sort) (i := j) (fun _ => rfl) ld9 rfl rfl rfl hget hjl') ?_
    refine Ab (Aa (O1 (A1 (q := 1) ok3 rfl rfl (by omega)) ?_))
    refine OM rfl (Ab ?_)
    refine ⟨hlt2, ⟨rfl, rfl, rfl, rfl, trivial⟩, by rw [Cx ha2, L8]; show Own _ _ _ _ (if Lq a2 = true then (Ib (ps.take i2) _).set a2.arg.toNat a2.sort else _) _; rw [if_pos (show Lq a2 = true from h3), hj]; exact hset, by rw [An]; exact hbel2.1, fun b' hb' => by rw [Sto.get_set, if_neg (by omega)]; exact hbel2.2 b' hb'⟩
   ·refine Aj (Aa (O1 (A1 (q := 1) ok3 rfl rfl (by omega)) ?_))
    refine OM rfl (Ab ?_)
    refine ⟨hlt2, ⟨rfl, rfl, rfl, rfl, trivial⟩, by rw [Cx ha2, L8]; show Own _ _ _ _ (if Lq a2 = true then _ else Ib (ps.take i2) _) _; rw [if_neg (by rw [show Lq a2 = false from h3]; simp)]; exact hown2, hbel2⟩
  ·have hge2 : ps.length <= i2 := by simpa using h2
   rw [List.take_of_length_le hge2] at hown2;refine Bf ?_;refine Ad (Aa (OM rfl (OA rfl (Ab ?_))));refine Ak ?_;exact ⟨_, rfl, A9 (Ic ps), σ, Aw.below hw hbel2, nl, hown2.fz (fun _ => rfl) (fun a ha => hw.none ha) (Ce Na _), rfl, rfl⟩
theorem f140 (g : Gr) (m : SM Rl) (l : Str) (r : Nat) (σ : Sto) (hm : Bg rV σ r m) (hb : (Eq m l).length < 1000000) (hv : Ur (Eq m l)) : Ah Ew 140 [Fg g r, sV l] σ fun v σ' => v = A9 (Ic (Eq m l)) /\ σ' = σ := by
 unfold Eq at hb hv ⊢;cases hg : m.get l with
 | some rl => rw [hg] at hb hv; exact f140a g m l r σ hm rl hg hb hv
 | none => exact f140b g m l r σ hm hg [] rfl (by simp) (fun p hp => by cases hp)
mutual
def Afy : Ay -> List Str
 | .node l ks => l :: Y3 ks
def Y3 : List Ay -> List Str
 | [] => []
 | t :: r => Afy t ++ Y3 r
end
theorem Abj : ∀ {l : List Ay} {t : Ay}, t ∈ l -> ∀ s ∈ Afy t, s ∈ Y3 l
 | x :: r, t, h, s, hs => by
  unfold Y3
  rcases List.mem_cons.1 h with rfl | h
  ·exact List.mem_append_left _ hs
  ·exact List.mem_append_right _ (Abj h s hs)
def G7 (t : Ay) : Prop := ∀ s ∈ Afy t, s.length <= 281474976710656
theorem G7.node {l : Str} {ks : List Ay} (h : G7 (.node l ks)) : l.length <= 281474976710656 /\ ∀ k ∈ ks, G7 k := by
 unfold G7 Afy at h;exact ⟨h l (List.mem_cons_self ..), fun k hk s hs => h s (List.mem_cons_of_mem _ (Abj hk s hs))⟩
structure Ot (g : Gr) (m : SM Rl) : Prop where
 s : g.sorts.length < 1000000
 p : ∀ l, (Eq m l).length < 1000000
 v : ∀ l, Ur (Eq m l)
def Z2 : Ay -> Str | .node l _ => l
def Kr : Ay -> List Ay | .node _ ks => ks
mutual
def Er (g : Gr) (m : SM Rl) : Ay -> Bool
 | .node l ks => (!decide (Fh g m l = []) && decide (Int.ofNat ks.length = Int.ofNat (Ic (Eq m l)).length)) && !Afz g m ks
def Afz (g : Gr) (m : SM Rl) : List Ay -> Bool
 | [] => false
 | t :: r => !Er g m t || Afz g m r
end
theorem Us (g : Gr) (m : SM Rl) : ∀ l : List Ay, Afz g m l = l.any fun k => !Er g m k
 | [] => by unfold Afz; rfl
 | t :: r => by unfold Afz; rw [List.any_cons, Us g m r]
mutual
def Y4 (g : Gr) (m : SM Rl) : Ay -> Bool
 | .node l ks => Aht g m (Ic (Eq m l)) ks
def Aht (g : Gr) (m : SM Rl) : List Str -> List Ay -> Bool
 | _, [] => true
 | [], _ :: _ => false
 | a :: r, t :: s => !(!decide (Fh g m (Z2 t) = a) || !Y4 g m t) && Aht g m r s
end
theorem Ak9 {g : Gr} {m : SM Rl} {l : Str} {ks : List Ay} (h : Er g m (.node l ks) = true) : ks.length = (Ic (Eq m l)).length /\ ∀ k ∈ ks, Er g m k = true := by
 unfold Er at h;simp only [Bool.and_eq_true, Bool.not_eq_true', Us] at h;refine ⟨Int.ofNat.inj (of_decide_eq_true h.1.2), fun k hk => ?_⟩
 have := List.any_eq_false.1 h.2 k hk
 simpa using this
def V5 (g : Gr) (m : SM Rl) (t : Ay) : Int := if (!Er g m t) = true then 2 else if (!Y4 g m t) = true then 11 else 0
def Jh (g : Gr) (m : SM Rl) : List Ay -> Int
 | [] => 0
 | t :: r => if (!decide (V5 g m t = 0)) = true then V5 g m t else Jh g m r
theorem f141 (g : Gr) (m : SM Rl) (t : Ay) (r : Nat) (σ : Sto) (ih : Ah Ew 103 [Fg g r, A4 t] σ fun v σ' => v = .bool (Er g m t) /\ σ' = σ) : Ah Ew 141 [A4 t, .pv (Ei g r)] σ fun v σ' => v = .bool (!Er g m t) /\ σ' = σ := by
 refine A2 Tryz.func141 rfl rfl fun hw hu0 => ?_
 refine Ad (Aa (Ax Bq rfl (Bp (eT_len t)) rfl (OA rfl (Ab (Ad (Aa (O1 (Ae Fl rfl rfl rfl) ?_)))))));refine O1 (Ae Bq rfl rfl (Be (eT_len t))) (Aq rfl rfl rfl rfl ih (O1 (A8 rfl) (OA rfl (Ab ?_))));refine Ak (Bw hw rfl ?_)
 rfl
theorem f103n (l : Str) (ks : List Ay) (g : Gr) (m : SM Rl) (r : Nat) (σ : Sto) (hm : Bg rV σ r m) (hO : Ot g m) (hlb : G7 (.node l ks)) (hb : ks.length < 1000000) (ih : ∀ k ∈ ks, Ah Ew 103 [Fg g r, A4 k] σ fun v σ' => v = .bool (Er g m k) /\ σ' = σ) : Ah Ew 103 [Fg g r, A4 (.node l ks)] σ fun v σ' => v = .bool (Er g m (.node l ks)) /\ σ' = σ := by
 have hlb := hlb.node;rw [Ci];refine A2 Tryz.func103 rfl rfl fun hw hu0 => ?_
 refine Ad (Aa (Ax (cs := Ei g r) Fl rfl rfl rfl (Ax Bq rfl rfl rfl (OA rfl (Ab ?_)))))
 have hF : Er g m (.node l ks) = ((!decide (Fh g m l = []) && decide (Int.ofNat ks.length = Int.ofNat (Ic (Eq m l)).length)) && !(ks.any fun k => !Er g m k)) := by rw [Er, Us]
 refine Aas [(4, .bool (Er g m (.node l ks)))] σ ?_ ?_
 ·rcases Bool.eq_false_or_eq_true ((!decide (Fh g m l = []))) with hg5 | hg5
  ·rcases Bool.eq_false_or_eq_true ((decide (Int.ofNat ks.length = Int.ofNat (Ic (Eq m l)).length))) with hg16 | hg16
   ·refine Gu (anns := [aR 0 0, aP 0 0, aR 0 0, aE 0 1, aP 1 1, aP 1 1, aP 1 2, aR 1 2, aR 1 2, aR 1 1, aP 1 1, aR 1 1, aE 1 2, aR 2 2, aP 2 2, aP 2 2, aP 2 2, aP 2 2, aR 2 2, aP 2 2, aE 2 3, aP 3 3, aP 3 3, aP 3 3]) A5 (Ar (l := [(51, [Fg g r, sV l], σ, sV (Fh g m l), σ), (140, [Fg g r, sV l], σ, A9 (Ic (Eq m l)), σ), (27, [slV eT 2 ks, .fn (.func 141) [] [.pv (Ei g r)]], σ, .bool (ks.any fun k => !Er g m k), σ)]) ⟨f51 g m l r σ hm hlb.1 hO.s, f140 g m l r σ hm (hO.p l) (hO.v l), f27 (fun k => !Er g m k) ks 141 [.pv (Ei g r)] σ (by omega) (fun k hk => f141 g m k r σ (ih k hk)), trivial⟩) (by kernel_rfl) ?_
    refine DF (Ae Fl rfl rfl rfl) (DF (Ac Dr rfl rfl) (DF (Ae ld9 rfl rfl rfl) (DT (A7 rfl rfl Ba) (DF (En (q := []) ok9 rfl rfl) (DF (Ag rfl) ?_)))))
    refine Dn rfl rfl rfl rfl (by first | rfl | simp only [hg16, hg5] <;> rfl | simp [hg16, hg5]) (Ac Dk rfl rfl) ?_
    refine Dn rfl rfl rfl rfl (by first | rfl | simp only [hg16, hg5] <;> rfl | simp [hg16, hg5]) (Ae H8 rfl rfl rfl) ?_
    refine Dn rfl rfl rfl rfl (by first | rfl | simp only [hg16, hg5] <;> rfl | simp [hg16, hg5]) (As Kj rfl) ?_
    refine Dn rfl rfl rfl rfl (by first | rfl | simp only [hg16, hg5] <;> rfl | simp [hg16, hg5]) (Ae Fl rfl rfl rfl) ?_
    refine Dn rfl rfl rfl rfl (by first | rfl | simp only [hg16, hg5] <;> rfl | simp [hg16, hg5]) (Ac Dr rfl rfl) ?_
    refine Dn rfl rfl rfl rfl (by first | rfl | simp only [hg16, hg5] <;> rfl | simp [hg16, hg5]) (Ae ld9 rfl rfl rfl) ?_
    refine Mz rfl rfl rfl rfl (by first | rfl | simp only [hg16, hg5] <;> rfl | simp [hg16, hg5]) rfl rfl (A7 rfl rfl (Cz (by decide) Ba)) ?_
    refine Dn rfl rfl rfl rfl (by first | rfl | simp only [hg16, hg5] <;> rfl | simp [hg16, hg5]) (As D0 rfl) ?_
    refine Dn rfl rfl rfl rfl (by first | rfl | simp only [hg16, hg5] <;> rfl | simp [hg16, hg5]) (Dq ok3 rfl rfl) ?_
    refine DF (Bx rfl (by first | rfl | simp only [hg16, hg5] <;> rfl | simp [hg16, hg5]) rfl) ?_
    refine DF (Ag rfl) ?_
    refine Dn rfl rfl rfl rfl (by first | rfl | simp only [hg16, hg5] <;> rfl | simp [hg16, hg5]) (Ac Dk rfl rfl) ?_
    refine Dn rfl rfl rfl rfl (by first | rfl | simp only [hg16, hg5] <;> rfl | simp [hg16, hg5]) (Ae H8 rfl rfl rfl) ?_
    refine Dn rfl rfl rfl rfl (by first | rfl | simp only [hg16, hg5] <;> rfl | simp [hg16, hg5]) (E8 rfl rfl) ?_
    refine Mz rfl rfl rfl rfl (by first | rfl | simp only [hg16, hg5] <;> rfl | simp [hg16, hg5]) rfl rfl (A7 rfl rfl (Cz (by decide) (Cz (by decide) Ba))) ?_
    refine Dn rfl rfl rfl rfl (by first | rfl | simp only [hg16, hg5] <;> rfl | simp [hg16, hg5]) (A8 rfl) ?_
    refine DF (Bx rfl (by first | rfl | simp only [hg16, hg5] <;> rfl | simp [hg16, hg5]) rfl) ?_
    refine DF (Bv rfl) (Bl ?_)
    exact ⟨rfl, by simp, ⟨⟨congrArg (fun b => some (AV.bool b)) (by rw [show Er g m (.node l ks) = _ from hF]; first | rfl | (simp only [hg16, hg5]; done) | (simp only [hg16, hg5]; rfl) | (simp [hg16, hg5]; done)), trivial⟩, rfl⟩⟩
   ·refine Gu (anns := [aR 0 0, aP 0 0, aR 0 0, aE 0 1, aP 1 1, aP 1 1, aP 1 2, aR 1 2, aR 1 2, aR 1 1, aP 1 1, aR 1 1, aE 1 2, aR 2 2, aP 2 2, aP 2 2, aP 2 2, aP 2 2, aR 2 2, aP 2 2, aE 2 3, aP 3 3, aP 3 3, aP 3 3]) A5 (Ar (l := [(51, [Fg g r, sV l], σ, sV (Fh g m l), σ), (140, [Fg g r, sV l], σ, A9 (Ic (Eq m l)), σ), (27, [slV eT 2 ks, .fn (.func 141) [] [.pv (Ei g r)]], σ, .bool (ks.any fun k => !Er g m k), σ)]) ⟨f51 g m l r σ hm hlb.1 hO.s, f140 g m l r σ hm (hO.p l) (hO.v l), f27 (fun k => !Er g m k) ks 141 [.pv (Ei g r)] σ (by omega) (fun k hk => f141 g m k r σ (ih k hk)), trivial⟩) (by kernel_rfl) ?_
    refine DF (Ae Fl rfl rfl rfl) (DF (Ac Dr rfl rfl) (DF (Ae ld9 rfl rfl rfl) (DT (A7 rfl rfl Ba) (DF (En (q := []) ok9 rfl rfl) (DF (Ag rfl) ?_)))))
    refine Dn rfl rfl rfl rfl (by first | rfl | simp only [hg16, hg5] <;> rfl | simp [hg16, hg5]) (Ac Dk rfl rfl) ?_
    refine Dn rfl rfl rfl rfl (by first | rfl | simp only [hg16, hg5] <;> rfl | simp [hg16, hg5]) (Ae H8 rfl rfl rfl) ?_
    refine Dn rfl rfl rfl rfl (by first | rfl | simp only [hg16, hg5] <;> rfl | simp [hg16, hg5]) (As Kj rfl) ?_
    refine Dn rfl rfl rfl rfl (by first | rfl | simp only [hg16, hg5] <;> rfl | simp [hg16, hg5]) (Ae Fl rfl rfl rfl) ?_
    refine Dn rfl rfl rfl rfl (by first | rfl | simp only [hg16, hg5] <;> rfl | simp [hg16, hg5]) (Ac Dr rfl rfl) ?_
    refine Dn rfl rfl rfl rfl (by first | rfl | simp only [hg16, hg5] <;> rfl | simp [hg16, hg5]) (Ae ld9 rfl rfl rfl) ?_
    refine Mz rfl rfl rfl rfl (by first | rfl | simp only [hg16, hg5] <;> rfl | simp [hg16, hg5]) rfl rfl (A7 rfl rfl (Cz (by decide) Ba)) ?_
    refine Dn rfl rfl rfl rfl (by first | rfl | simp only [hg16, hg5] <;> rfl | simp [hg16, hg5]) (As D0 rfl) ?_
    refine Dn rfl rfl rfl rfl (by first | rfl | simp only [hg16, hg5] <;> rfl | simp [hg16, hg5]) (Dq ok3 rfl rfl) ?_
    refine DF (Bx rfl (by first | rfl | simp only [hg16, hg5] <;> rfl | simp [hg16, hg5]) rfl) ?_
    refine DF (Ag rfl) ?_
    refine Dx rfl rfl rfl rfl (by first | rfl | simp only [hg16, hg5] <;> rfl | simp [hg16, hg5]) ?_
    refine Dx rfl rfl rfl rfl (by first | rfl | simp only [hg16, hg5] <;> rfl | simp [hg16, hg5]) ?_
    refine Dx rfl rfl rfl rfl (by first | rfl | simp only [hg16, hg5] <;> rfl | simp [hg16, hg5]) ?_
    refine La rfl rfl rfl rfl (by first | rfl | simp only [hg16, hg5] <;> rfl | simp [hg16, hg5]) rfl rfl ?_
    refine Dx rfl rfl rfl rfl (by first | rfl | simp only [hg16, hg5] <;> rfl | simp [hg16, hg5]) ?_
    refine DF (Bt rfl (by first | rfl | simp only [hg16, hg5] <;> rfl | simp [hg16, hg5]) rfl) ?_
    refine DF (Bv rfl) (Bl ?_)
    exact ⟨rfl, by simp, ⟨⟨congrArg (fun b => some (AV.bool b)) (by rw [show Er g m (.node l ks) = _ from hF]; first | rfl | (simp only [hg16, hg5]; done) | (simp only [hg16, hg5]; rfl) | (simp [hg16, hg5]; done)), trivial⟩, rfl⟩⟩
  ·refine Gu (anns := [aR 0 0, aP 0 0, aR 0 0, aE 0 1, aP 1 1, aP 1 1, aP 1 2, aR 1 2, aR 1 2, aR 1 1, aP 1 1, aR 1 1, aE 1 2, aR 2 2, aP 2 2, aP 2 2, aP 2 2, aP 2 2, aR 2 2, aP 2 2, aE 2 3, aP 3 3, aP 3 3, aP 3 3]) A5 (Ar (l := [(51, [Fg g r, sV l], σ, sV (Fh g m l), σ), (140, [Fg g r, sV l], σ, A9 (Ic (Eq m l)), σ), (27, [slV eT 2 ks, .fn (.func 141) [] [.pv (Ei g r)]], σ, .bool (ks.any fun k => !Er g m k), σ)]) ⟨f51 g m l r σ hm hlb.1 hO.s, f140 g m l r σ hm (hO.p l) (hO.v l), f27 (fun k => !Er g m k) ks 141 [.pv (Ei g r)] σ (by omega) (fun k hk => f141 g m k r σ (ih k hk)), trivial⟩) (by kernel_rfl) ?_
   refine DF (Ae Fl rfl rfl rfl) (DF (Ac Dr rfl rfl) (DF (Ae ld9 rfl rfl rfl) (DT (A7 rfl rfl Ba) (DF (En (q := []) ok9 rfl rfl) (DF (Ag rfl) ?_)))))
   refine Dx rfl rfl rfl rfl (by first | rfl | simp only [hg5] <;> rfl | simp [hg5]) ?_
   refine Dx rfl rfl rfl rfl (by first | rfl | simp only [hg5] <;> rfl | simp [hg5]) ?_
   refine Dx rfl rfl rfl rfl (by first | rfl | simp only [hg5] <;> rfl | simp [hg5]) ?_
   refine Dx rfl rfl rfl rfl (by first | rfl | simp only [hg5] <;> rfl | simp [hg5]) ?_
   refine Dx rfl rfl rfl rfl (by first | rfl | simp only [hg5] <;> rfl | simp [hg5]) ?_
   refine Dx rfl rfl rfl rfl (by first | rfl | simp only [hg5] <;> rfl | simp [hg5]) ?_
   refine La rfl rfl rfl rfl (by first | rfl | simp only [hg5] <;> rfl | simp [hg5]) rfl rfl ?_
   refine Dx rfl rfl rfl rfl (by first | rfl | simp only [hg5] <;> rfl | simp [hg5]) ?_
   refine Dx rfl rfl rfl rfl (by first | rfl | simp only [hg5] <;> rfl | simp [hg5]) ?_
   refine DF (Bt rfl (by first | rfl | simp only [hg5] <;> rfl | simp [hg5]) rfl) ?_
   refine DF (Ag rfl) ?_
   refine Dx rfl rfl rfl rfl (by first | rfl | simp only [hg5] <;> rfl | simp [hg5]) ?_
   refine Dx rfl rfl rfl rfl (by first | rfl | simp only [hg5] <;> rfl | simp [hg5]) ?_
   refine Dx rfl rfl rfl rfl (by first | rfl | simp only [hg5] <;> rfl | simp [hg5]) ?_
   refine La rfl rfl rfl rfl (by first | rfl | simp only [hg5] <;> rfl | simp [hg5]) rfl rfl ?_
   refine Dx rfl rfl rfl rfl (by first | rfl | simp only [hg5] <;> rfl | simp [hg5]) ?_
   refine DF (Bt rfl (by first | rfl | simp only [hg5] <;> rfl | simp [hg5]) rfl) ?_
   refine DF (Bv rfl) (Bl ?_)
   exact ⟨rfl, by simp, ⟨⟨congrArg (fun b => some (AV.bool b)) (by rw [show Er g m (.node l ks) = _ from hF]; first | rfl | (simp only [hg5]; done) | (simp only [hg5]; rfl) | (simp [hg5]; done)), trivial⟩, rfl⟩⟩
 refine Ak (Bw hw rfl ?_)
 rfl
theorem f103 (t : Ay) (g : Gr) (m : SM Rl) (r : Nat) (σ : Sto) (hm : Bg rV σ r m) (hO : Ot g m) : G7 t -> By t < 1000000 -> Ah Ew 103 [Fg g r, A4 t] σ fun v σ' => v = .bool (Er g m t) /\ σ' = σ := by
 refine Ay.ind' (P := fun t => G7 t -> By t < 1000000 -> Ah Ew 103 [Fg g r, A4 t] σ fun v σ' => v = .bool (Er g m t) /\ σ' = σ) ?_ t
 intro l ks ih hl hc;unfold By at hc;have := H7 ks
 exact f103n l ks g m r σ hm hO hl (by omega) fun k hk => ih k hk (hl.node.2 k hk) (by have := Gs hk; omega)
theorem f104n (l : Str) (ks : List Ay) (g : Gr) (m : SM Rl) (r : Nat) (σ : Sto) (hm : Bg rV σ r m) (hO : Ot g m) (hlb : G7 (.node l ks)) (hb : ks.length < 1000000) (hlen : ks.length = (Ic (Eq m l)).length) (ih : ∀ k ∈ ks, Ah Ew 104 [Fg g r, A4 k] σ fun v σ' => v = .bool (Y4 g m k) /\ σ' = σ) : Ah Ew 104 [Fg g r, A4 (.node l ks)] σ fun v σ' => v = .bool (Y4 g m (.node l ks)) /\ σ' = σ := by
 have hlb := hlb.node;rw [Ci];refine A2 Tryz.func104 rfl rfl fun hw hu0 => ?_
 refine Ad (Aa (Ax (cs := Ei g r) Fl rfl rfl rfl (Ax Bq rfl rfl rfl (OA rfl (Ab (Ad (Aa ?_)))))));refine O1 (Ae Fl rfl rfl rfl) (O1 (Ac Dr rfl rfl) (O1 (Ae ld9 rfl rfl rfl) (Aq rfl rfl rfl rfl (f140 g m l r _ hm (hO.p l) (hO.v l)) (OA rfl (Ab (Ad (Ad ?_)))))));refine Aa (O1 (Ac Dk rfl rfl) (O1 (Ae H8 rfl rfl rfl) (O1 (As Kj rfl) (OM rfl (Ab (Am ?_))))));refine Cg ks.length (fun i0 => [(2, .pv (Ei g r)), (5, A9 (Ic (Eq m l))), (13, slV eT 2 ks), (14, iV (.ofNat ks.length)), (15, iV (.ofNat i0))]) (fun i0 σ0 => σ0 = σ /\ Aht g m (Ic (Eq m l)) ks = Aht g m ((Ic (Eq m l)).drop i0) (ks.drop i0)) ⟨rfl, rfl, rfl, rfl, rfl, trivial⟩ ⟨rfl, rfl⟩ ?_
 rintro i0 σ0 hi0 ⟨rfl, hf0⟩;refine Ad (Aa (O1 (Bb ok3 rfl rfl) (Ab (Ad ?_))));refine Ai rfl (fun h1 => ?_) (fun h1 => ?_)
 ·have hlt0 : i0 < ks.length := by simpa using h1
  obtain ⟨a0, ha0⟩ := B3 hlt0;have hd0 := Bn ha0
  obtain ⟨la, ka, he, hlt⟩ : ∃ la ka, eT a0 = [sV la, slV eT 2 ka] /\ Z2 a0 = la := by obtain ⟨la, ka⟩ := a0; exact ⟨la, ka, Hs la ka, rfl⟩
  have hla : la.length <= 281474976710656 := by obtain ⟨lx, kx⟩ := a0; cases hlt; exact (hlb.2 _ (List.mem_of_getElem? ha0)).node.1
  obtain ⟨b0, hb0⟩ := B3 (l := Ic (Eq m l)) (i := i0) (by omega)
  have hdb := Bn hb0;refine Aj (Ad (Am (Ad (Aa (OM rfl (O1 (A3 L5 eT_len rfl rfl ha0) (O1 (Ae Bq rfl rfl (Cb (eT_len a0) _)) ?_)))))))
  refine K9 (cs := [sV la, slV eT 2 ka]) Ku Bq rfl rfl (fun _ => rfl) rfl (fun _ => rfl) rfl (by rw [he]; rfl) rfl rfl rfl ?_
  refine Ab ?_
  refine Hg [(34, .bool (!decide (Fh g m la = b0) || !Y4 g m a0))] ?_ ?_
  ·rcases Bool.eq_false_or_eq_true ((!decide (Fh g m la = b0))) with hg9 | hg9
   ·refine Gu (anns := [aR 0 0, aP 0 0, aR 0 0, aE 0 1, aP 0 1, aP 0 1, aP 0 1, aR 0 1, aP 1 1, aP 1 1, aR 1 1, aR 1 1, aE 1 2, aP 2 2, aP 2 2]) A5 (Ar (l := [(51, [Fg g r, sV la], σ0, sV (Fh g m la), σ0), (104, [Fg g r, .agg [sV la, slV eT 2 ka]], σ0, .bool (Y4 g m a0), σ0)]) ⟨f51 g m la r σ0 hm hla hO.s, by rw [← he]; exact ih a0 (List.mem_of_getElem? ha0), trivial⟩) (by kernel_rfl) ?_
    refine DF (Ae Fl rfl rfl rfl) (DF (Ac Dr rfl rfl) (DF (Ae ld9 rfl rfl rfl) (DT (A7 rfl rfl Ba) (DF (Ag rfl) (DF (Ag rfl) (DF (A3 C5 (fun _ => rfl) rfl rfl hb0) ?_))))))
    refine DF (Ae ld9 rfl rfl rfl) (DF (En ok9 rfl rfl) (DF (Ag rfl) ?_))
    refine Dx rfl rfl rfl rfl (by first | rfl | simp only [hg9] <;> rfl | simp [hg9]) ?_
    refine Dx rfl rfl rfl rfl (by first | rfl | simp only [hg9] <;> rfl | simp [hg9]) ?_
    refine La rfl rfl rfl rfl (by first | rfl | simp only [hg9] <;> rfl | simp [hg9]) rfl rfl ?_
    refine Dx rfl rfl rfl rfl (by first | rfl | simp only [hg9] <;> rfl | simp [hg9]) ?_
    refine DF (Bx rfl (by first | rfl | simp only [hg9] <;> rfl | simp [hg9]) rfl) ?_
    refine Bl ?_
    exact ⟨rfl, by simp, ⟨⟨congrArg (fun b => some (AV.bool b)) (by first | rfl | simp only [hg9] <;> rfl | simp [hg9]), trivial⟩, sb, rfl⟩⟩
   ·refine Gu (anns := [aR 0 0, aP 0 0, aR 0 0, aE 0 1, aP 0 1, aP 0 1, aP 0 1, aR 0 1, aP 1 1, aP 1 1, aR 1 1, aR 1 1, aE 1 2, aP 2 2, aP 2 2]) A5 (Ar (l := [(51, [Fg g r, sV la], σ0, sV (Fh g m la), σ0), (104, [Fg g r, .agg [sV la, slV eT 2 ka]], σ0, .bool (Y4 g m a0), σ0)]) ⟨f51 g m la r σ0 hm hla hO.s, by rw [← he]; exact ih a0 (List.mem_of_getElem? ha0), trivial⟩) (by kernel_rfl) ?_
    refine DF (Ae Fl rfl rfl rfl) (DF (Ac Dr rfl rfl) (DF (Ae ld9 rfl rfl rfl) (DT (A7 rfl rfl Ba) (DF (Ag rfl) (DF (Ag rfl) (DF (A3 C5 (fun _ => rfl) rfl rfl hb0) ?_))))))
    refine DF (Ae ld9 rfl rfl rfl) (DF (En ok9 rfl rfl) (DF (Ag rfl) ?_))
    refine Dn rfl rfl rfl rfl (by first | rfl | simp only [hg9] <;> rfl | simp [hg9]) (Ae Fl rfl rfl rfl) ?_
    refine Dn rfl rfl rfl rfl (by first | rfl | simp only [hg9] <;> rfl | simp [hg9]) (Ae Bq rfl rfl rfl) ?_
    refine Mz rfl rfl rfl rfl (by first | rfl | simp only [hg9] <;> rfl | simp [hg9]) rfl rfl (A7 rfl rfl (Cz (by decide) Ba)) ?_
    refine Dn rfl rfl rfl rfl (by first | rfl | simp only [hg9] <;> rfl | simp [hg9]) (A8 rfl) ?_
    refine DF (Bt rfl (by first | rfl | simp only [hg9] <;> rfl | simp [hg9]) rfl) ?_
    refine Bl ?_
    exact ⟨rfl, by simp, ⟨⟨congrArg (fun b => some (AV.bool b)) (by first | rfl | simp only [hg9] <;> rfl | simp [hg9]), trivial⟩, sb, rfl⟩⟩
  refine Ai rfl (fun h2 => ?_) (fun h2 => ?_)
  ·refine Ad (Aa (OA rfl (Ab ?_)));refine Ak (Bw hw rfl ?_);unfold Y4; rw [hf0, hd0, hdb, Aht, hlt, h2]; rfl
  ·refine Aj (Aa (O1 (A1 (q := 1) ok3 rfl rfl (by omega)) ?_))
   refine OM rfl (Ab ?_)
   refine ⟨hlt0, ⟨rfl, rfl, rfl, rfl, rfl, trivial⟩, rfl, by rw [hf0, hd0, hdb, Aht, hlt, h2]; rfl⟩
 ·have hge0 : ks.length <= i0 := by simpa using h1
  refine Bf ?_;refine Ad (Aa (OA rfl (Ab ?_)));refine Ak (Bw hw rfl ?_);unfold Y4; rw [hf0, List.drop_eq_nil_of_le hge0]; unfold Aht; rfl
theorem f104 (t : Ay) (g : Gr) (m : SM Rl) (r : Nat) (σ : Sto) (hm : Bg rV σ r m) (hO : Ot g m) : G7 t -> By t < 1000000 -> Er g m t = true -> Ah Ew 104 [Fg g r, A4 t] σ fun v σ' => v = .bool (Y4 g m t) /\ σ' = σ := by
 refine Ay.ind' (P := fun t => G7 t -> By t < 1000000 -> Er g m t = true -> Ah Ew 104 [Fg g r, A4 t] σ fun v σ' => v = .bool (Y4 g m t) /\ σ' = σ) ?_ t
 intro l ks ih hl hc hf;unfold By at hc;have := H7 ks;obtain ⟨h1, h2⟩ := Ak9 hf
 exact f104n l ks g m r σ hm hO hl (by omega) h1 fun k hk => ih k hk (hl.node.2 k hk) (by have := Gs hk; omega) (h2 k hk)
theorem f63 (t : Ay) (g : Gr) (m : SM Rl) (r : Nat) (σ : Sto) (hm : Bg rV σ r m) (hO : Ot g m) (hl : G7 t) (hc : By t <= 4000) (hd : dpT t 1 <= 100) : Ah Ew 63 [Fg g r, A4 t] σ fun v σ' => v = iV (V5 g m t) /\ σ' = σ := by
 refine Amn Tryz.func63 rfl rfl rfl rfl fun hw hu0 => ?_
 refine Aa (Ax (cs := Ei g r) Fl rfl rfl rfl (Ax Bq rfl (Bp (eT_len t)) rfl (O1 (D4 (n := nx σ + 1) zi33 (Bo σ)) (Ab ?_))));refine ⟨_, _, _, nx σ + 1, 0, rfl, rfl, rfl, Aq2 ?_⟩;have hr := hm.lt hw
 have hm' : Bg rV (σ.bump.new (.cells [iV 0])) r m := hm.of_get (by rw [Sto.get_new, if_neg (by rw [Bo]; omega), Dv])
 refine Ad (Aa (O1 (Ae Bq rfl rfl (Be (eT_len t))) (Aq rfl rfl rfl rfl (f102 t _ hc hd) (Ab (Ad (Am (Ad ?_)))))))
 refine Aa (O1 (Ae Fl rfl rfl rfl) (O1 (Ae Bq rfl rfl (Be (eT_len t))) (Aq rfl rfl rfl rfl (f103 t g m r _ hm' hO hl (by omega)) ?_)))
 refine O1 (A8 rfl) (OA rfl (Ab ?_));refine Ai rfl (fun h1 => ?_) (fun h1 => ?_)
 ·refine Ad (Aa (O1 (A6 (ad := nx σ + 1) (off := 0) (vs := [iV 0]) (vs' := [iV 2]) (cs := [iV 2]) Ae7 rfl rfl rfl (by simp only [Sto.cells]; rw [Sto.get_new, if_pos (Bo σ).symm]; rfl) rfl) ?_))
  refine Ab ?_;have hE : V5 g m t = 2 := if_pos h1;refine Ak ?_
  exact ⟨[iV 2], Cc Ae7 rfl (by simp only [Sto.cells]; rw [Sto.get_set, if_pos rfl]) rfl rfl, _, σ, Aw.below hw ⟨by rw [An, Ap, Bo]; omega, fun b hb => by rw [Sto.get_set, if_neg (by omega), Sto.get_new, if_neg (by rw [Bo]; omega), Dv]⟩, nl, .same rfl, by rw [hE]; rfl, rfl⟩
 ·have hf : Er g m t = true := by simpa using h1
  refine Ad (Aa (O1 (Ae Fl rfl rfl rfl) (O1 (Ae Bq rfl rfl (Be (eT_len t))) (Aq rfl rfl rfl rfl (f104 t g m r _ hm' hO hl (by omega) hf) ?_))))
  refine O1 (A8 rfl) (OA rfl (Ab ?_));refine Ai rfl (fun h2 => ?_) (fun h2 => ?_)
  ·refine Ad (Aa (O1 (A6 (ad := nx σ + 1) (off := 0) (vs := [iV 0]) (vs' := [iV 11]) (cs := [iV 11]) Ae7 rfl rfl rfl (by simp only [Sto.cells]; rw [Sto.get_new, if_pos (Bo σ).symm]; rfl) rfl) ?_))
   refine Ab ?_;have hE : V5 g m t = 11 := (if_neg (fun hh => Bool.noConfusion (h1.symm.trans hh))).trans (if_pos h2)
   refine Ak ?_
   exact ⟨[iV 11], Cc Ae7 rfl (by simp only [Sto.cells]; rw [Sto.get_set, if_pos rfl]) rfl rfl, _, σ, Aw.below hw ⟨by rw [An, Ap, Bo]; omega, fun b hb => by rw [Sto.get_set, if_neg (by omega), Sto.get_new, if_neg (by rw [Bo]; omega), Dv]⟩, nl, .same rfl, by rw [hE]; rfl, rfl⟩
  ·refine Aj (Ad (Aa (O1 (A6 (ad := nx σ + 1) (off := 0) (vs := [iV 0]) (vs' := [iV 0]) (cs := [iV 0]) Ae7 rfl rfl rfl (by simp only [Sto.cells]; rw [Sto.get_new, if_pos (Bo σ).symm]; rfl) rfl) ?_)))
   refine Ab ?_;have hE : V5 g m t = 0 := (if_neg (fun hh => Bool.noConfusion (h1.symm.trans hh))).trans (if_neg (fun hh => Bool.noConfusion (h2.symm.trans hh)))
   refine Ak ?_
   exact ⟨[iV 0], Cc Ae7 rfl (by simp only [Sto.cells]; rw [Sto.get_set, if_pos rfl]) rfl rfl, _, σ, Aw.below hw ⟨by rw [An, Ap, Bo]; omega, fun b hb => by rw [Sto.get_set, if_neg (by omega), Sto.get_new, if_neg (by rw [Bo]; omega), Dv]⟩, nl, .same rfl, by rw [hE]; rfl, rfl⟩
theorem f50 (ts : List Ay) (g : Gr) (m : SM Rl) (r : Nat) (σ : Sto) (hm : Bg rV σ r m) (hO : Ot g m) (hb : ts.length < 1000000) (hT : ∀ t ∈ ts, G7 t /\ By t <= 4000 /\ dpT t 1 <= 100) : Ah Ew 50 [Fg g r, slV eT 2 ts] σ fun v σ' => v = iV (Jh g m ts) /\ σ' = σ := by
 refine A2 Tryz.func50 rfl rfl fun hw hu0 => ?_
 refine Ad (Aa (Ax (cs := Ei g r) Fl rfl rfl rfl (OA rfl (Ab (Ad (Ad (Aa ?_)))))));refine OM rfl (O1 (As Kj rfl) (OM rfl (Ab (Am ?_))));refine Cg ts.length (fun i0 => [(2, .pv (Ei g r)), (8, slV eT 2 ts), (9, iV (.ofNat ts.length)), (10, iV (.ofNat i0))]) (fun i0 σ0 => σ0 = σ /\ Jh g m ts = Jh g m (ts.drop i0)) ⟨rfl, rfl, rfl, rfl, trivial⟩ ⟨rfl, rfl⟩ ?_
 rintro i0 σ0 hi0 ⟨rfl, hf0⟩;refine Ad (Aa (O1 (Bb ok3 rfl rfl) (Ab (Ad ?_))));refine Ai rfl (fun h1 => ?_) (fun h1 => ?_)
 ·have hlt0 : i0 < ts.length := by simpa using h1
  obtain ⟨a0, ha0⟩ := B3 hlt0;have hd0 := Bn ha0;refine Aj (Ad (Am (Ad (Aa (O1 (A3 L5 eT_len rfl rfl ha0) (O1 (Ae Bq rfl rfl (Cb (eT_len a0) _)) (B6 Ku Bq rfl (fun _ => rfl) rfl (Bp (eT_len a0)) rfl rfl ?_)))))))
  refine Ab (Ad (Aa (O1 (Ae Fl rfl rfl rfl) (O1 (Ae Bq rfl rfl (Be (eT_len a0))) (Aq rfl rfl rfl rfl (f63 a0 g m r _ hm hO (hT a0 (List.mem_of_getElem? ha0)).1 (hT a0 (List.mem_of_getElem? ha0)).2.1 (hT a0 (List.mem_of_getElem? ha0)).2.2) (OA rfl (Ab ?_)))))));refine Ad (Aa (OM rfl (O1 (C9 (q := 0) Jp rfl rfl) (Ab ?_))));refine Ai rfl (fun h2 => ?_) (fun h2 => ?_)
  ·refine Ad (Aa (OM rfl (OA rfl (Ab ?_))));refine Ak (Bw hw rfl ?_);rw [hf0, hd0, Jh, if_pos h2]; rfl
  ·refine Aj (Aa (O1 (A1 (q := 1) ok3 rfl rfl (by omega)) ?_))
   refine OM rfl (Ab ?_)
   refine ⟨hlt0, ⟨rfl, rfl, rfl, rfl, trivial⟩, rfl, by rw [hf0, hd0, Jh, if_neg (fun hh => Bool.noConfusion (h2.symm.trans hh))]⟩
 ·have hge0 : ts.length <= i0 := by simpa using h1
  refine Bf ?_;refine Ad (Aa (OA rfl (Ab ?_)));refine Ak (Bw hw rfl ?_);rw [hf0, List.drop_eq_nil_of_le hge0]; rfl
theorem Ah.view {f : Nat} {args args' : List AV} {σ : Sto} {u : AV} (hu : ∀ (C C' : Ctx) (N N' : Nat) (w : World) (x : Value), R C N w u x -> R C' N' w u x) (hz : FzL σ ⟨.e, nx σ⟩ args args')
  (h : Ah Ew f args' ⟨.e, nx σ⟩ (fun v τ => v = u /\ τ = ⟨.e, nx σ⟩)) : Ah Ew f args σ (fun v τ => v = u /\ τ = σ) := by
 intro C w vs hs hg ha
 have hf : Aw σ ⟨.e, nx σ⟩ := ⟨nl, fun a O h => by cases h⟩
 obtain ⟨h1, h2⟩ := h (C.keep ⟨.e, nx σ⟩) w vs (hs.frz hf) hg.frz (FzL.RL hs hz ha);refine ⟨h1, h2.mono fun e w' he => ?_⟩
 cases e with
 | returned x =>
  obtain ⟨v, τ', C', ⟨rfl, rfl⟩, k1, k2, k3⟩ := he
  have hall : ∀ b, b < w.heap.size -> w'.heap[b]? = w.heap[b]? := fun b hb => by
   by_cases hr : (C.keep ⟨.e, nx σ⟩).own b
   ·rcases hr with hr | ⟨a, o, hl⟩
    ·exact k2.res.2 b hr
    ·simp [Ctx.keep, Sto.get, Tr.get] at hl
   ·exact (k2.keep b hb hr).2
  obtain ⟨q1, q2⟩ := hs.same k2.size hall k2.os;exact ⟨v, σ, C, ⟨rfl, rfl⟩, q1, q2, hu _ _ _ _ _ _ k3⟩
 | panicked _ => exact he.elim
 | outgrown => exact he.elim
theorem R_iV {n : Int} (C C' : Ctx) (N N' : Nat) (w : World) (x : Value) (h : R C N w (iV n) x) : R C' N' w (iV n) x := by unfold iV R at h ⊢; exact h
theorem Adl {N : Nat} (s : Sb) : AV.unds N (eS s) = true := by show (true && AV.unds N (eT s.tree)) = true; rw [Jx]; rfl
theorem f64o {N : Nat} (l : List Sb) (s : Str) (v : AV) (σ : Sto) (h : Own σ N eS 3 l v) (hb : l.length < 4611686018427387904) :
  Ah Ew 64 [v, .fn (.func 100) [] [.pv [sV s]]] σ fun u τ => u = iV (Bk (fun a => decide (a.label = s)) l 0) /\ τ = σ := by
 refine Ah.view R_iV (.cons (h.fz eS_len (fun a ha => rfl) (Ce Adl _)) (.cons (.same rfl) .nil)) ?_
 exact f64 (fun a => decide (a.label = s)) l 100 [.pv [sV s]] _ hb (fun a _ => f100 a s _)
theorem f54o {N : Nat} (l : List Sb) (s : Str) (v : AV) (σ : Sto) (hO : Own σ N eS 3 l v) (hb : l.length < 4611686018427387904) : Ah Ew 54 [v, sV s] σ fun v σ' => v = Qr (Cp l s) /\ σ' = σ := by
 refine A2 Tryz.func54 rfl rfl fun hw hu0 => ?_
 have hO1 : Own (σ.new (.cells [.str [], .nil (.slice none 0 0)])) N eS 3 l v := hO.mono (by rw [Ap]; omega) fun a tl _ _ h2 _ => by rw [Sto.get_new, if_neg (by omega)]
 refine Ad (Aa (Ax ld9 rfl rfl rfl (O1 (Dt Ku) (OA rfl (Ab (Ad (Aa ?_)))))));refine OM rfl (O1 (E8 rfl rfl) (Aq rfl rfl rfl rfl (f64o l s v _ hO1 hb) (OA rfl (Ab (Ad (Ad (Aa ?_)))))));refine OM rfl (O1 (Bb (q := 0) ok3 rfl rfl) (Ab ?_));refine Ai rfl (fun h1 => ?_) (fun h1 => ?_)
 ·refine Ad (Aa (O1 (Cl Akp rfl rfl) (O1 (A6 (vs := [.str [], .nil (.slice none 0 0)]) (vs' := [.str [], .nil (.slice none 0 0)]) Bq rfl rfl rfl Cd rfl) (OA rfl (Ab ?_)))));refine Ak ?_
  refine ⟨_, Cc (vs := [.str [], .nil (.slice none 0 0)]) Bq rfl (by simp [Sto.cells, Sto.get_set]) rfl (Fe rfl rfl), Qr (Cp l s), σ, Aw.below hw ((Below.rfl'.new nl _).trans ⟨by rw [An]; exact nl, fun b hb => by rw [Sto.get_set, if_neg (by omega)]⟩), nl, ?_, rfl, rfl⟩
  rw [Rj (by simpa using h1)]
  exact .tup (.cons (.agg (.cons (.same rfl) (.cons C7 .nil))) (.cons (.same rfl) .nil))
 ·obtain ⟨n, a, hn, ha, hfs⟩ := Rk (by simpa using h1)
  rw [Nat.zero_add] at hn;rw [hn];have hnl := (List.getElem?_eq_some_iff.1 ha).1
  obtain ⟨b, tl, hvb, hget⟩ : ∃ b tl, v = .sr b 0 3 l.length none /\ (σ.new (.cells [.str [], .nil (.slice none 0 0)])).get b = some (.cells (l.flatMap eS ++ tl)) := by
   rcases hO1 with ⟨rfl, _⟩ | ⟨b, tl, _, _, h3, h4⟩
   ·simp at hnl
   ·exact ⟨b, tl, h3, h4⟩
  have hdrop : (l.flatMap eS ++ tl).drop (n * 3 + 1) = eT a.tree ++ ((l.drop (n + 1)).flatMap eS ++ tl) := by
   have h0 : n * 3 <= (l.flatMap eS).length := by rw [Ez eS_len]; omega
   rw [← List.drop_drop, List.drop_append_of_le_length h0, Acn eS_len ha]
   show (eT a.tree ++ _) ++ tl = _
   rw [List.append_assoc]
  refine Aj (Ad (Aa (OM rfl (OM rfl (O1 (Hw (i := n) (k := .i64) Akq (by rw [← hvb]; rfl) rfl hnl) ?_)))))
  refine O1 (Ac Ac2 rfl rfl) (O1 (Ae (v := A4 a.tree) (u := .pr b (n * 3 + 1)) (cs := eT a.tree ++ ((l.drop (n + 1)).flatMap eS ++ tl)) Bq rfl (by simp only [B2, Sto.cells, hget, hdrop]) (Cb (eT_len a.tree) _)) ?_)
  refine O1 (A6 (vs := [.str [], .nil (.slice none 0 0)]) (vs' := eT a.tree) Bq rfl rfl (Bp (eT_len _)) Cd (Ey (eT_len _))) (OA rfl (Ab ?_));refine Ak ?_
  refine ⟨_, Cc (vs := eT a.tree) (v := A4 a.tree) Bq rfl (by simp [Sto.cells, Sto.get_set]) (Be (eT_len _)) (Fe rfl rfl), Qr (Cp l s), σ, Aw.below hw ((Below.rfl'.new nl _).trans ⟨by rw [An]; exact nl, fun b hb => by rw [Sto.get_set, if_neg (by omega)]⟩), nl, ?_, rfl, rfl⟩
  rw [hfs]; exact .same (Aa4 (some a.tree))
mutual
def mtT (g : Gr) (m : SM Rl) : Ay -> Ay -> List Sb -> Bool × List Sb
 | .node l ks, t, out =>
  if (decide (Int.ofNat ks.length = 0) && Lr g m l) = true then (match Cp out l with | some was => (eqT was t, out) | none => (true, out ++ [⟨l, t⟩]))
  else if (!decide (l = Z2 t) || !decide (Int.ofNat ks.length = Int.ofNat (Kr t).length)) = true then (false, out) else mtL g m ks (Kr t) out
def mtL (g : Gr) (m : SM Rl) : List Ay -> List Ay -> List Sb -> Bool × List Sb
 | [], _, out => (true, out)
 | _ :: _, [], out => (false, out)
 | k :: r, t :: s, out => if (!(mtT g m k t out).1) = true then (false, (mtT g m k t out).2) else mtL g m r s (mtT g m k t out).2
end
def Anx (A : Nat) (s : Sb) (σ : Sto) : Sto := match σ.get A with
 | some (.cells [vO]) => (match Cj σ 3 56 vO 1 (eS s) with | some (v1, τ1) => τ1.set A (.cells [v1]) | none => σ)
 | _ => σ
mutual
def mtX (g : Gr) (m : SM Rl) (A : Nat) : Ay -> Ay -> List Sb -> Sto -> Sto
 | .node l ks, t, out, σ =>
  if (decide (Int.ofNat ks.length = 0) && Lr g m l) = true then (match Cp out l with | some _ => σ | none => Anx A ⟨l, t⟩ σ)
  else if (!decide (l = Z2 t) || !decide (Int.ofNat ks.length = Int.ofNat (Kr t).length)) = true then σ else mxL g m A ks (Kr t) out σ
def mxL (g : Gr) (m : SM Rl) (A : Nat) : List Ay -> List Ay -> List Sb -> Sto -> Sto
 | [], _, _, σ => σ
 | _ :: _, [], _, σ => σ
 | k :: r, t :: s, out, σ => if (!(mtT g m k t out).1) = true then mtX g m A k t out σ else mxL g m A r s (mtT g m k t out).2 (mtX g m A k t out σ)
end
structure MSt (S : Sto) (A : Nat) (cap : List AV) (τ : Sto) (out : List Sb) (vO : AV) : Prop where
 n : A + 2 <= nx τ
 lo : ∀ b, b < A -> τ.get b = S.get b
 c : τ.get A = some (.cells [vO])
 o : Own τ (A + 2) eS 3 out vO
 f : τ.get (A + 1) = some (.cells [.fn (.func 52) [] cap])
theorem MSt.add {S : Sto} {A : Nat} {cap : List AV} {τ : Sto} {out : List Sb} {vO : AV} (h : MSt S A cap τ out vO) (s : Sb) (hl : out.length + 1 <= 1000000) :
  ∃ v1 τ1, Cj τ 3 56 vO 1 (eS s) = some (v1, τ1) /\ τ1.get A = some (.cells [vO]) /\ v1.cellsN 1 = some [v1] /\ Anx A s τ = τ1.set A (.cells [v1]) /\ MSt S A cap (Anx A s τ) (out ++ [s]) v1 /\ nx τ <= nx τ1 := by
 have hlim : (out.length + [s].length) * (56 + 1) <= sizeLim := by simp [sizeLim]; omega
 have hn := h.n
 obtain ⟨v1, τ1, hap, ho1, hb1, _⟩ := Own.app (by' := 56) (enc := eS) (sz := 3) eS_len hn h.o [s] hlim
 have hap : Cj τ 3 56 vO 1 (eS s) = some (v1, τ1) := by simpa using hap
 have hx : Anx A s τ = τ1.set A (.cells [v1]) := by unfold Anx; rw [h.c]; simp only [hap]
 refine ⟨v1, τ1, hap, (hb1.2 A (by omega)).trans h.c, Kq ho1, hx, ?_, hb1.1⟩
 rw [hx]
 exact ⟨by rw [An]; have := hb1.1; omega, fun b hb => by rw [Sto.get_set, if_neg (by omega), hb1.2 b (by omega)]; exact h.lo b hb, by rw [Sto.get_set, if_pos rfl],
  ho1.mono (by rw [An]; exact nl) fun a tl _ h1 _ _ => by rw [Sto.get_set, if_neg (by omega)], by rw [Sto.get_set, if_neg (by omega), hb1.2 _ (by omega)]; exact h.f⟩
mutual
theorem Wp (g : Gr) (m : SM Rl) : ∀ (p t : Ay) (out : List Sb), (mtT g m p t out).2.length <= out.length + By p
 | .node l ks, t, out => by
  rw [mtT];unfold By
  split
  ·split
   ·show out.length <= _; omega
   ·simp only [List.length_append, List.length_singleton]; omega
  ·split
   ·show out.length <= _; omega
   ·have := Ajl g m ks (Kr t) out; omega
theorem Ajl (g : Gr) (m : SM Rl) : ∀ (ks ts : List Ay) (out : List Sb), (mtL g m ks ts out).2.length <= out.length + D5 ks
 | [], _, out => by rw [mtL]; simp [D5]
 | _ :: _, [], out => by rw [mtL]; simp
 | k :: r, t :: s, out => by
  rw [mtL];have h1 := Wp g m k t out;unfold D5
  split
  ·show (mtT g m k t out).2.length <= _; omega
  ·have := Ajl g m r s (mtT g m k t out).2; omega
end
theorem Anz {t k : Ay} (h : k ∈ Kr t) : By k <= By t := by
 obtain ⟨l, ks⟩ := t;have := Gs (show k ∈ ks from h)
 unfold By; unfold By at this; omega
mutual
theorem Adm (g : Gr) (m : SM Rl) (n : Nat) : ∀ (p t : Ay) (out : List Sb), By t <= n -> (∀ s ∈ out, By s.tree <= n) -> ∀ s ∈ (mtT g m p t out).2, By s.tree <= n
 | .node l ks, t, out, ht, ho => by
  rw [mtT]
  split
  ·split
   ·exact ho
   ·intro s hs
    rcases List.mem_append.1 hs with hs | hs
    ·exact ho s hs
    ·rw [List.mem_singleton.1 hs]; exact ht
  ·split
   ·exact ho
   ·exact Ajm g m n ks (Kr t) out (fun k hk => Nat.le_trans (Anz hk) ht) ho
theorem Ajm (g : Gr) (m : SM Rl) (n : Nat) : ∀ (ks ts : List Ay) (out : List Sb), (∀ t ∈ ts, By t <= n) -> (∀ s ∈ out, By s.tree <= n) -> ∀ s ∈ (mtL g m ks ts out).2, By s.tree <= n
 | [], _, out, _, ho => by rw [mtL]; exact ho
 | _ :: _, [], out, _, ho => by rw [mtL]; exact ho
 | k :: r, t :: s, out, ht, ho => by
  rw [mtL];have h1 := Adm g m n k t out (ht t (List.mem_cons_self ..)) ho
  split
  ·exact h1
  ·exact Ajm g m n r s _ (fun x hx => ht x (List.mem_cons_of_mem _ hx)) h1
end
mutual
theorem Adn {g : Gr} {m : SM Rl} {S : Sto} {A : Nat} {cap : List AV} : ∀ (p t : Ay) (out : List Sb) (τ : Sto) (vO : AV), MSt S A cap τ out vO -> out.length + By p <= 1000000 -> ∃ v1, MSt S A cap (mtX g m A p t out τ) (mtT g m p t out).2 v1 /\ nx τ <= nx (mtX g m A p t out τ)
 | .node l ks, t, out, τ, vO, h, hb => by
  unfold By at hb;rw [mtT, mtX]
  split
  ·cases hf : Cp out l with
   | some was => exact ⟨vO, h, nl⟩
   | none =>
    obtain ⟨v1, τ1, _, _, _, hx, h1, h2⟩ := h.add ⟨l, t⟩ (by omega)
    exact ⟨v1, h1, by rw [hx, An]; exact h2⟩
  ·split
   ·exact ⟨vO, h, nl⟩
   ·exact An0 ks (Kr t) out τ vO h (by omega)
theorem An0 {g : Gr} {m : SM Rl} {S : Sto} {A : Nat} {cap : List AV} : ∀ (ks ts : List Ay) (out : List Sb) (τ : Sto) (vO : AV), MSt S A cap τ out vO -> out.length + D5 ks <= 1000000 -> ∃ v1, MSt S A cap (mxL g m A ks ts out τ) (mtL g m ks ts out).2 v1 /\ nx τ <= nx (mxL g m A ks ts out τ)
 | [], _, out, τ, vO, h, _ => by rw [mtL, mxL]; exact ⟨vO, h, nl⟩
 | _ :: _, [], out, τ, vO, h, _ => by rw [mtL, mxL]; exact ⟨vO, h, nl⟩
 | k :: r, t :: s, out, τ, vO, h, hb => by
  unfold D5 at hb;rw [mtL, mxL]
  obtain ⟨v1, h1, h3⟩ := Adn (g := g) (m := m) k t out τ vO h (by omega)
  have h2 := Wp g m k t out
  split
  ·exact ⟨v1, h1, h3⟩
  ·obtain ⟨v2, h4, h5⟩ := An0 r s _ _ v1 h1 (by omega)
   exact ⟨v2, h4, Nat.le_trans h3 h5⟩
end
theorem Af0 (o : Option Ay) : ∃ was ok, Qr o = .tup [A4 was, .bool ok] /\ ((ok = true /\ o = some was) ∨ (ok = false /\ o = none)) := by
 cases o with
 | none => exact ⟨.node [] [], false, rfl, .inr ⟨rfl, rfl⟩⟩
 | some t => exact ⟨t, true, rfl, .inl ⟨rfl, rfl⟩⟩
theorem f54p {N : Nat} {was : Ay} {ok : Bool} (l : List Sb) (s : Str) (v : AV) (σ : Sto) (h : Qr (Cp l s) = .tup [A4 was, .bool ok]) (hO : Own σ N eS 3 l v) (hb : l.length < 4611686018427387904) : Ah Ew 54 [v, sV s] σ fun v σ' => v = .tup [A4 was, .bool ok] /\ σ' = σ := by
 rw [← h]; exact f54o l s v σ hO hb
theorem Ut {l : List Sb} {s : Str} {t : Ay} {n : Nat} (h : Cp l s = some t) (hl : ∀ x ∈ l, By x.tree <= n) : By t <= n := by
 induction l with
 | nil => cases h
 | cons a r ih =>
  unfold Cp at h
  split at h
  ·cases h; exact hl a (List.mem_cons_self ..)
  ·exact ih h fun x hx => hl x (List.mem_cons_of_mem _ hx)
theorem Apn (l lt : Str) (kt : List Ay) : eS ⟨l, .node lt kt⟩ = [sV l, sV lt, slV eT 2 kt] := by unfold eS; rw [Hs]
theorem f52n (l : Str) (ks : List Ay) (lt : Str) (kt : List Ay) (out : List Sb) (vO : AV) (g : Gr) (m : SM Rl) (r : Nat) (S : Sto) (A : Nat) (σ : Sto) (hm : Bg rV S r m) (hrA : r < A) (hO : Ot g m) (hS : MSt S A [.pv (Ei g r), .pr A 0, .pr (A + 1) 0] σ out vO) (hlb : l.length <= 281474976710656) (hlen : out.length + By (.node l ks) <= 1000000) (hct : By (.node lt kt) <= 1000000) (hou : ∀ s ∈ out, By s.tree <= 1000000) (ih : ∀ k ∈ ks, ∀ t o vo τ, MSt S A [.pv (Ei g r), .pr A 0, .pr (A + 1) 0] τ o vo -> o.length + By k <= 1000000 -> By t <= 1000000 -> (∀ s ∈ o, By s.tree <= 1000000) -> Ah Ew 52 [A4 k, A4 t, .pv (Ei g r), .pr A 0, .pr (A + 1) 0] τ fun v σ' => v = .bool (mtT g m k t o).1 /\ σ' = mtX g m A k t o τ) : Ah Ew 52 [A4 (.node l ks), A4 (.node lt kt), .pv (Ei g r), .pr A 0, .pr (A + 1) 0] σ fun v σ' => v = .bool (mtT g m (.node l ks) (.node lt kt) out).1 /\ σ' = mtX g m A (.node l ks) (.node lt kt) out σ := by
 have hm' : Bg rV σ r m := hm.of_get (hS.lo r hrA)
 have hln : out.length + (1 + D5 ks) <= 1000000 := by unfold By at hlen; exact hlen
 have hlk := H7 ks
 have hlt' : 1 + D5 kt <= 1000000 := by unfold By at hct; exact hct
 rw [Ci, Ci];refine A2 Tryz.func52 rfl rfl fun hw hu0 => ?_
 refine Ad (Aa (Ax Bq rfl rfl rfl (Ax Bq rfl rfl rfl (OA rfl (Ab (Ad (Ad ?_)))))));refine Aa (O1 (Ac Dk rfl rfl) (O1 (Ae H8 rfl rfl rfl) (O1 (As Kj rfl) (O1 (Dq (q := 0) ok3 rfl rfl) (OM rfl ?_)))));refine Cv 4 _ ?_ rfl rfl rfl rfl rfl (Av rfl) (fun hg => ?_) (fun hg => ?_) ?_
 rotate_left
 ·refine On hg (Ae Fl rfl rfl rfl) (On hg (Ac Dr rfl rfl) (On hg (Ae ld9 rfl rfl rfl) (B0 rfl rfl rfl (by rw [hg]; rfl) rfl rfl rfl rfl (f53 g m l r _ hm' hlb hO.s) ?_)))
  refine Ab ?_;refine ⟨rfl, ?_, ?_⟩
  ·exact sb
  ·exact rfl
 ·refine Of hg (Of hg (Of hg (Of hg (Ab ?_))));exact ⟨rfl, sb⟩
 refine Ab ?_;refine Ai rfl (fun h1 => ?_) (fun h1 => ?_)
 ·obtain ⟨was, ok, hfv, hcase⟩ := Af0 (Cp out l)
  refine Ad (Ad (Aa (O1 (Ae (u := .pr A 0) (cs := [vO]) Zy rfl (by simp only [B2, Sto.cells, hS.c]; rfl) rfl) ?_)))
  refine O1 (Ac Dr rfl rfl) (O1 (Ae ld9 rfl rfl rfl) (Aq rfl rfl rfl rfl (f54p out l vO _ hfv hS.o (by omega)) ?_))
  refine OM rfl (O1 (Ao rfl rfl) (O1 (Ao rfl rfl) (B6 Ku Bq rfl (fun _ => rfl) rfl (Bp (eT_len was)) rfl rfl ?_)))
  refine OA rfl (Ab (Ad (Aa (OM rfl (Ab ?_)))));refine Ai rfl (fun h2 => ?_) (fun h2 => ?_)
  ·have hfs : Cp out l = some was := by
    rcases hcase with ⟨_, h⟩ | ⟨h, _⟩
    ·exact h
    ·rw [h] at h2; cases h2
   have hwide : L4 was = true := Oq was (by have := Ut hfs hou; omega)
   refine Ad (Aa (O1 (Ae Bq rfl rfl (Be (eT_len was))) (O1 (Ae Bq rfl rfl rfl) (Aq rfl rfl rfl (by rw [Ci]; rfl) (f55 was (.node lt kt) _ hwide) ?_))))
   refine OA rfl (Ab ?_)
   have hE1 : (mtT g m (.node l ks) (.node lt kt) out).1 = eqT was (.node lt kt) := by rw [mtT, if_pos h1]; simp only [hfs]
   have hE2 : mtX g m A (.node l ks) (.node lt kt) out σ = σ := by rw [mtX, if_pos h1]; simp only [hfs]
   have hnx9 : nx σ <= nx σ := nl;refine Ec fun hw9 => ?_
   refine Ak ?_;exact ⟨_, rfl, _, σ, Aw.of_same hw9 nl (fun _ _ => rfl), hnx9, .same rfl, congrArg AV.bool hE1.symm, hE2.symm⟩
  ·have hfn : Cp out l = none := by
    rcases hcase with ⟨h, _⟩ | ⟨_, h⟩
    ·rw [h] at h2; cases h2
    ·exact h
   obtain ⟨v1, τ1, hap, h8t, hcN, hax, hS9, hnx1⟩ := hS.add ⟨l, .node lt kt⟩ (by omega)
   refine Aj (Ad ?_)
   refine Gv 1 (anns := [aR 0 1, aP 0 1, aR 0 1, aR 0 0, aE 0 1, aP 1 1, aP 1 1, aE 1 2, aE 2 3]) A5 (Ar (l := [(56, [.agg [sV lt, slV eT 2 kt]], σ, .agg [sV lt, slV eT 2 kt], σ)]) ⟨by rw [← Ci]; exact f56 (.node lt kt) σ hct, trivial⟩) (by kernel_rfl) (by kernel_rfl) ?_
   refine DF (Ae (u := .pr A 0) (cs := [vO]) Zy rfl (by simp only [B2, Sto.cells, hS.c]; rfl) rfl) ?_
   refine DF (Ac Dr rfl rfl) (DF (Ae ld9 rfl rfl rfl) (DF (Ae Bq rfl rfl rfl) (DT (A7 rfl rfl Ba) (DF (Cl bd43 rfl rfl) (DF (Br Akq byW rfl rfl rfl) (DT (B5 Akq rfl sl32 rfl rfl rfl (new := eS ⟨l, .node lt kt⟩) (by rw [Apn]; rfl) hap) ?_))))))
   refine DT (A6 (ad := A) (off := 0) (vs := [vO]) (vs' := [v1]) (cs := [v1]) Zy rfl rfl hcN (by simp only [Sto.cells, h8t]) rfl) ?_
   refine Bl ?_
   refine ⟨(by intro e he; simp at he; rcases he with rfl | rfl <;> exact .refl), ?_⟩
   refine Ad (Aa (OA rfl (Ab ?_)))
   have hE1 : (mtT g m (.node l ks) (.node lt kt) out).1 = true := by rw [mtT, if_pos h1]; simp only [hfn]
   have hE2 : mtX g m A (.node l ks) (.node lt kt) out σ = τ1.set A (.cells [v1]) := by rw [mtX, if_pos h1]; simp only [hfn]; exact hax
   have hnx9 : nx σ <= nx (τ1.set A (.cells [v1])) := by rw [An]; exact hnx1
   refine Ec fun hw9 => ?_
   refine Ak ?_;exact ⟨_, rfl, _, τ1.set A (.cells [v1]), Aw.of_same hw9 nl (fun _ _ => rfl), hnx9, .same rfl, congrArg AV.bool hE1.symm, hE2.symm⟩
 ·refine Aj (Ad (Ad (Aa (O1 (Ac Dr rfl rfl) (O1 (Ae ld9 rfl rfl rfl) (O1 (Ac Dr rfl rfl) (O1 (Ae ld9 rfl rfl rfl) ?_)))))));refine O1 (En ok9 rfl rfl) (OM rfl ?_);refine Co 7 _ ?_ rfl rfl rfl rfl rfl (Av rfl) (fun hg => ?_) (fun hg => ?_) ?_
  rotate_left
  ·refine On hg (Ac Dk rfl rfl) (On hg (Ae H8 rfl rfl rfl) (On hg (As Kj rfl) (On hg (Ac Dk rfl rfl) (On hg (Ae H8 rfl rfl rfl) (On hg (As Kj rfl) (On hg (C9 ok3 rfl rfl) (Ab ?_)))))));refine ⟨rfl, ?_, ?_⟩
   ·exact sb
   ·exact rfl
  ·refine Of hg (Of hg (Of hg (Of hg (Of hg (Of hg (Of hg (Ab ?_)))))));exact ⟨rfl, sb⟩
  refine Ab ?_;refine Ai rfl (fun h2 => ?_) (fun h2 => ?_)
  ·skip
   refine Ad (Aa (OA rfl (Ab ?_)))
   have hE1 : (mtT g m (.node l ks) (.node lt kt) out).1 = false := by rw [mtT, if_neg (fun hh => Bool.noConfusion (h1.symm.trans hh))]; exact congrArg Prod.fst (if_pos h2)
   have hE2 : mtX g m A (.node l ks) (.node lt kt) out σ = σ := by rw [mtX, if_neg (fun hh => Bool.noConfusion (h1.symm.trans hh))]; exact if_pos h2
   have hnx9 : nx σ <= nx σ := nl;refine Ec fun hw9 => ?_
   refine Ak ?_;exact ⟨_, rfl, _, σ, Aw.of_same hw9 nl (fun _ _ => rfl), hnx9, .same rfl, congrArg AV.bool hE1.symm, hE2.symm⟩
  ·have hg2 : ¬ (!decide (l = Z2 (.node lt kt)) || !decide (Int.ofNat ks.length = Int.ofNat (Kr (.node lt kt)).length)) = true := fun hh => Bool.noConfusion (h2.symm.trans hh)
   have hkl : ks.length = kt.length := by
    simp only [Bool.or_eq_false_iff, Bool.not_eq_false', decide_eq_true_eq] at h2;exact Int.ofNat.inj h2.2
   refine Aj (Ad (Ad (Aa (O1 (Ac Dk rfl rfl) (O1 (Ae H8 rfl rfl rfl) (O1 (As Kj rfl) (OM rfl ?_)))))));refine Ab (Am ?_)
   refine Cg ks.length (fun i0 => [(4, .pr (A + 1) 0), (6, .pv [sV lt, slV eT 2 kt]), (56, slV eT 2 ks), (57, iV (.ofNat ks.length)), (58, iV (.ofNat i0))]) (fun i0 σ0 => ∃ o vo, nx σ <= nx σ0 /\ MSt S A [.pv (Ei g r), .pr A 0, .pr (A + 1) 0] σ0 o vo /\ o.length + D5 (ks.drop i0) <= 1000000 /\ (∀ s ∈ o, By s.tree <= 1000000) /\ mtL g m ks kt out = mtL g m (ks.drop i0) (kt.drop i0) o /\ mxL g m A ks kt out σ = mxL g m A (ks.drop i0) (kt.drop i0) o σ0) ⟨rfl, rfl, rfl, rfl, rfl, trivial⟩ ⟨out, vO, nl, hS, by rw [List.drop_zero]; omega, hou, rfl, rfl⟩ ?_
   rintro i0 σ0 hi0 ⟨o, vo, hnx0, hS0, hol, ho0, hf0, hx0⟩;refine Ad (Aa (O1 (Bb ok3 rfl rfl) (Ab (Ad ?_))));refine Ai rfl (fun h3 => ?_) (fun h3 => ?_)
   ·have hlt0 : i0 < ks.length := by simpa using h3
    obtain ⟨a0, ha0⟩ := B3 hlt0;have hd0 := Bn ha0
    obtain ⟨b0, hb0⟩ := B3 (l := kt) (i := i0) (by omega)
    have hdb := Bn hb0
    have hcb : By b0 <= 1000000 := by have := Gs (List.mem_of_getElem? hb0); omega
    rw [hd0, D5] at hol;refine Aj (Ad (Am (Ad (Aa (OM rfl (O1 (A3 L5 eT_len rfl rfl ha0) (O1 (Ae Bq rfl rfl (Cb (eT_len a0) _)) ?_)))))));refine K9 Ku Bq rfl rfl (fun _ => rfl) rfl (fun _ => rfl) rfl (Bp (eT_len a0)) rfl rfl rfl ?_
    refine Ab (Ad ?_)
    refine Cq (anns := [aR 0 0, aR 0 0, aP 0 0, aR 0 0, aP 0 0, aP 0 0, aR 0 0, aE 0 1, aP 1 1]) A5 (Ar (l := [(52, [A4 a0, A4 b0, .pv (Ei g r), .pr A 0, .pr (A + 1) 0], σ0, .bool (mtT g m a0 b0 o).1, mtX g m A a0 b0 o σ0)]) ⟨ih a0 (List.mem_of_getElem? ha0) b0 o vo σ0 hS0 (by omega) hcb ho0, trivial⟩) (by kernel_rfl) (by kernel_rfl) ?_
    refine DF (Ae (u := .pr (A + 1) 0) (cs := [.fn (.func 52) [] [.pv (Ei g r), .pr A 0, .pr (A + 1) 0]]) ld38 rfl (by simp only [B2, Sto.cells, hS0.f]; rfl) rfl) ?_
    refine DF (Ae Bq rfl rfl (Be (eT_len a0))) (DF (Ac Dk rfl rfl) (DF (Ae H8 rfl rfl rfl) (DF (Ag rfl) (DF (A3 L5 eT_len rfl rfl hb0) (DF (Ae Bq rfl rfl (Cb (eT_len b0) _)) (DT (A7 rfl rfl Ba) (DF (A8 rfl) ?_)))))));refine Bl ?_;refine Ai rfl (fun h4 => ?_) (fun h4 => ?_)
    ·refine Ad (Aa (OA rfl (Ab ?_)))
     have hE1 : (mtT g m (.node l ks) (.node lt kt) out).1 = false := by rw [mtT, if_neg (fun hh => Bool.noConfusion (h1.symm.trans hh)), if_neg hg2]; show (mtL g m ks kt out).1 = _; rw [hf0, hd0, hdb, mtL, if_pos h4]
     have hE2 : mtX g m A (.node l ks) (.node lt kt) out σ = mtX g m A a0 b0 o σ0 := by rw [mtX, if_neg (fun hh => Bool.noConfusion (h1.symm.trans hh)), if_neg hg2]; show mxL g m A ks kt out σ = _; rw [hx0, hd0, hdb, mxL, if_pos h4]
     have hnx9 : nx σ <= nx (mtX g m A a0 b0 o σ0) := by obtain ⟨_, _, hn9⟩ := Adn (g := g) (m := m) a0 b0 o σ0 vo hS0 (by omega); exact Nat.le_trans hnx0 hn9
     refine Ec fun hw9 => ?_
     refine Ak ?_;exact ⟨_, rfl, _, mtX g m A a0 b0 o σ0, Aw.of_same hw9 nl (fun _ _ => rfl), hnx9, .same rfl, congrArg AV.bool hE1.symm, hE2.symm⟩
    ·have hgo : ¬ (!(mtT g m a0 b0 o).1) = true := by rw [show (!(mtT g m a0 b0 o).1) = false from h4]; simp
     obtain ⟨v9, hS9, hn9⟩ := Adn (g := g) (m := m) a0 b0 o σ0 vo hS0 (by omega)
     have hl9 := Wp g m a0 b0 o;have hc9 := Adm g m 1000000 a0 b0 o hcb ho0
     refine Aj (Aa (O1 (A1 (q := 1) ok3 rfl rfl (by omega)) ?_))
     refine OM rfl (Ab ?_)
     refine ⟨hlt0, ⟨rfl, rfl, rfl, rfl, rfl, trivial⟩, (mtT g m a0 b0 o).2, v9, Nat.le_trans hnx0 hn9, hS9, by omega, hc9, by rw [hf0, hd0, hdb, mtL, if_neg hgo], by rw [hx0, hd0, hdb, mxL, if_neg hgo]⟩
   ·have hge0 : ks.length <= i0 := by simpa using h3
    refine Bf ?_;refine Ad (Aa (OA rfl (Ab ?_)))
    have hE1 : (mtT g m (.node l ks) (.node lt kt) out).1 = true := by rw [mtT, if_neg (fun hh => Bool.noConfusion (h1.symm.trans hh)), if_neg hg2]; show (mtL g m ks kt out).1 = _; rw [hf0, List.drop_eq_nil_of_le hge0, mtL]
    have hE2 : mtX g m A (.node l ks) (.node lt kt) out σ = σ0 := by rw [mtX, if_neg (fun hh => Bool.noConfusion (h1.symm.trans hh)), if_neg hg2]; show mxL g m A ks kt out σ = _; rw [hx0, List.drop_eq_nil_of_le hge0, mxL]
    have hnx9 : nx σ <= nx σ0 := hnx0;refine Ec fun hw9 => ?_
    refine Ak ?_;exact ⟨_, rfl, _, σ0, Aw.of_same hw9 nl (fun _ _ => rfl), hnx9, .same rfl, congrArg AV.bool hE1.symm, hE2.symm⟩
theorem Vo {g : Gr} : ∀ {l : List Rl} {m : SM Bool}, Ty g l m = false -> ∀ r ∈ l, H3 g r = true
 | [], _, _, r, hr => by cases hr
 | a :: l, m, h, r, hr => by
  simp only [Ty, Bool.or_eq_false_iff, Bool.not_eq_false'] at h
  rcases List.mem_cons.1 hr with rfl | hr
  ·exact h.1.1
  ·exact Vo h.2 r hr
theorem Y5 {g : Gr} (h : Nc g = 0) : g.sorts.length <= 32 /\ g.rules.length <= 600 /\ ∀ r ∈ g.rules, r.parts.length <= 200 /\ H3 g r = true := by
 unfold Nc at h
 split at h
 ·cases h
 ·rename_i h1
  split at h
  ·cases h
  ·split at h
   ·cases h
   ·rename_i h2 h3
    simp only [Bool.or_eq_true, decide_eq_true_eq, List.any_eq_true, not_or, not_exists, not_and, Int.ofNat_eq_natCast] at h1
    refine ⟨by omega, by omega, fun r hr => ⟨?_, Vo (by simpa using h3) r hr⟩⟩
    have := h1.2 r hr;omega
theorem Y6 {d : Db} : (ofF d).1 = zG ∨ Nc (ofF d).1 = 0 := by
 unfold ofF
 split
 ·exact .inl rfl
 ·split
  ·exact .inl rfl
  ·split
   ·exact .inl rfl
   ·split
    ·exact .inl rfl
    ·rename_i hc; exact .inr (by simpa using hc)
theorem Rt : ∀ {l : List Rl} {m : SM Rl} {s : Str} {r : Rl}, (Up l m).get s = some r -> r ∈ l ∨ m.get s = some r
 | [], _, _, _, h => .inr h
 | a :: l, m, s, r, h => by
  rcases Rt (l := l) (m := m.put a.label a) h with h | h
  ·exact .inl (List.mem_cons_of_mem _ h)
  ·rw [SM.get_put] at h
   split at h
   ·cases h; exact .inl (List.mem_cons_self ..)
   ·exact .inr h
abbrev gO (d : Db) : Gr := (ofF d).1
abbrev mO (d : Db) : SM Rl := Up (ofF d).1.rules []
theorem Aqc (d : Db) : Ot (gO d) (mO d) /\ (gO d).rules.length < 2000000 := by
 have key : ∀ r ∈ (gO d).rules, r.parts.length <= 200 /\ Ur r.parts := fun r hr => by
  rcases Y6 (d := d) with h | h
  ·rw [show gO d = zG from h] at hr; cases hr
  ·have := (Y5 h).2.2 r hr; exact ⟨this.1, Ahs this.2⟩
 refine ⟨⟨?_, fun l => ?_, fun l => ?_⟩, ?_⟩
 ·rcases Y6 (d := d) with h | h
  ·rw [show gO d = zG from h]; show 0 < 1000000; omega
  ·have := (Y5 h).1; show (ofF d).1.sorts.length < _; omega
 ·unfold Eq;cases hg : (mO d).get l with
  | none => show 0 < 1000000; omega
  | some r =>
   rcases Rt hg with h | h
   ·have := (key r h).1; show r.parts.length < _; omega
   ·cases h
 ·unfold Eq;cases hg : (mO d).get l with
  | none => exact fun p hp => by cases hp
  | some r =>
   rcases Rt hg with h | h
   ·exact (key r h).2
   ·cases h
 ·rcases Y6 (d := d) with h | h
  ·rw [show gO d = zG from h]; show 0 < 2000000; omega
  ·have := (Y5 h).2.1; show (ofF d).1.rules.length < _; omega
theorem f52 {g : Gr} {m : SM Rl} {r : Nat} {S : Sto} {A : Nat} (hm : Bg rV S r m) (hrA : r < A) (hO : Ot g m) (p : Ay) : G7 p -> ∀ (t : Ay) (out : List Sb) (vO : AV) (σ : Sto), MSt S A [.pv (Ei g r), .pr A 0, .pr (A + 1) 0] σ out vO -> out.length + By p <= 1000000 -> By t <= 1000000 -> (∀ s ∈ out, By s.tree <= 1000000) ->
  Ah Ew 52 [A4 p, A4 t, .pv (Ei g r), .pr A 0, .pr (A + 1) 0] σ fun v σ' => v = .bool (mtT g m p t out).1 /\ σ' = mtX g m A p t out σ := by
 refine Ay.ind' (P := fun p => G7 p -> ∀ (t : Ay) (out : List Sb) (vO : AV) (σ : Sto), MSt S A [.pv (Ei g r), .pr A 0, .pr (A + 1) 0] σ out vO -> out.length + By p <= 1000000 -> By t <= 1000000 -> (∀ s ∈ out, By s.tree <= 1000000) ->
  Ah Ew 52 [A4 p, A4 t, .pv (Ei g r), .pr A 0, .pr (A + 1) 0] σ fun v σ' => v = .bool (mtT g m p t out).1 /\ σ' = mtX g m A p t out σ) ?_ p
 intro l ks ih hlb t out vO σ hS h1 h2 h3;obtain ⟨lt, kt⟩ := t;exact f52n l ks lt kt out vO g m r S A σ hm hrA hO hS hlb.node.1 h1 h2 h3 fun k hk t o vo τ q1 q2 q3 q4 => ih k hk (hlb.node.2 k hk) t o vo τ q1 q2 q3 q4
def Cn (d : Db) (p t : Ay) : List Sb × Int :=
 if (!decide ((ofF d).2 = 0)) = true then ([], (ofF d).2)
 else if (!decide (Jh (gO d) (mO d) [p, t] = 0)) = true then ([], Jh (gO d) (mO d) [p, t])
 else if (!decide (Fh (gO d) (mO d) (Z2 p) = Fh (gO d) (mO d) (Z2 t))) = true then ([], 11)
 else if (!(mtT (gO d) (mO d) p t []).1) = true then ([], 200) else ((mtT (gO d) (mO d) p t []).2, 0)
def Ks (d : Db) (t : Ay) : Str × Int :=
 if (!decide ((ofF d).2 = 0)) = true then ([], (ofF d).2)
 else if (!decide (V5 (gO d) (mO d) t = 0)) = true then ([], V5 (gO d) (mO d) t)
 else (Fh (gO d) (mO d) (Z2 t), 0)
structure DbS (d : Db) : Prop where
 b : DbB d
 n : d.vars.length + d.frames.length < 1000000
structure TrS (t : Ay) : Prop where
 l : G7 t
 c : By t <= 4000
 d : dpT t 1 <= 100
theorem Ala {f : Nat} {a a' : List AV} {s s' : Sto} {v v' : AV} {r : List (Nat × List AV × Sto × AV × Sto)} (h : a' = a -> v' = v) : Gf ((f, a, s, v, s') :: (f, a', s, v', s') :: r) f a' s = some (v', s') := by
 by_cases e : a' = a
 ·rw [h e, e]; simp only [Gf, and_self, if_true]
 ·simp only [Gf]; rw [if_neg (fun hh => e hh.2.1)]; simp
theorem f50t {l lt : Str} {ks kt : List Ay} {n : Int} (g : Gr) (m : SM Rl) (r : Nat) (σ : Sto) (hm : Bg rV σ r m) (hO : Ot g m) (hp : TrS (.node l ks)) (ht : TrS (.node lt kt)) (hn : Jh g m [.node l ks, .node lt kt] = n) :
  Ah Ew 50 [Fg g r, .sv [sV l, slV eT 2 ks, sV lt, slV eT 2 kt] 2 2 none] σ fun v σ' => v = iV n /\ σ' = σ := by
 have := f50 [.node l ks, .node lt kt] g m r σ hm hO (by simp) (fun t h => by
  rcases List.mem_cons.1 h with rfl | h
  ·exact ⟨hp.l, hp.c, hp.d⟩
  ·rw [List.mem_singleton.1 h]; exact ⟨ht.l, ht.c, ht.d⟩)
 rw [hn] at this
 rw [show slV eT 2 [.node l ks, .node lt kt] = .sv [sV l, slV eT 2 ks, sV lt, slV eT 2 kt] 2 2 none by show AV.sv (eT (.node l ks) ++ (eT (.node lt kt) ++ [])) 2 2 none = _; rw [Hs, Hs]; rfl] at this
 exact this
theorem f12n (d : Db) (l lt : Str) (ks kt : List Ay) (σ : Sto) (hD : DbS d) (hp : TrS (.node l ks)) (ht : TrS (.node lt kt)) : Ah Ew 12 [dbV d, A4 (.node l ks), A4 (.node lt kt)] σ fun v σ' => v = .tup [slV eS 3 (Cn d (.node l ks) (.node lt kt)).1, iV (Cn d (.node l ks) (.node lt kt)).2] /\ σ' = σ := by
 obtain ⟨hOk, hrl⟩ := Aqc d;rw [Ci, Ci];refine A2 Tryz.func12 rfl rfl fun hw hu0 => ?_
 refine Ad (Aa (Ax Ki rfl rfl rfl (Ax Bq rfl rfl rfl (Ax Bq rfl rfl rfl (OA rfl (OA rfl (Ab ?_)))))));refine Ad (Aa (O1 (Ae Ki rfl rfl rfl) (Cu rfl rfl rfl rfl (f49 d σ hD.b hD.n hrl) ?_)));rintro _ σ1 ⟨r, rfl, hr0, hm1, hB1⟩;refine Aqw fun hw1 => ?_
 refine OM rfl (O1 (Ao rfl rfl) (O1 (Ao rfl rfl) (B6 (cs := Ei (gO d) r) zi92 Fl rfl (fun _ => rfl) rfl rfl rfl rfl ?_)))
 refine OA rfl (Ab (Ad (Ad (Aa (OM rfl (O1 (C9 (q := 0) Jp rfl rfl) (Ab ?_)))))));refine Ai rfl (fun h1 => ?_) (fun h1 => ?_)
 ·refine Ad (Aa (OM rfl (OA rfl (OA rfl (Ab ?_)))));have hE : Cn d (.node l ks) (.node lt kt) = ([], (ofF d).2) := (if_pos h1);refine Ak ?_
  exact ⟨_, rfl, .tup [slV eS 3 (Cn d (.node l ks) (.node lt kt)).1, iV (Cn d (.node l ks) (.node lt kt)).2], σ, Aw.below hw hB1, nl, by rw [hE]; exact .tup (.cons C7 (.cons (.same rfl) .nil)), rfl, rfl⟩
 ·refine Aj (Ad (Ad (Aa (O1 (Ae Fl rfl rfl rfl) (O1 (Ae Bq rfl rfl rfl) (O1 (Ae Bq rfl rfl rfl) (E2 (Br L5 byW rfl rfl rfl) (Gq (len := 2)) rfl rfl ?_)))))));refine Aq rfl rfl rfl rfl (f50t (gO d) (mO d) r σ1 hm1 hOk hp ht rfl) (OA rfl (Ab (Ad (Aa (OM rfl (O1 (C9 (q := 0) Jp rfl rfl) (Ab ?_)))))));refine Ai rfl (fun h2 => ?_) (fun h2 => ?_)
  ·refine Ad (Aa (OM rfl (OA rfl (OA rfl (Ab ?_)))));have hE : Cn d (.node l ks) (.node lt kt) = ([], Jh (gO d) (mO d) [.node l ks, .node lt kt]) := ((if_neg (fun hh => Bool.noConfusion (h1.symm.trans hh))).trans (if_pos h2))
   refine Ak ?_
   exact ⟨_, rfl, .tup [slV eS 3 (Cn d (.node l ks) (.node lt kt)).1, iV (Cn d (.node l ks) (.node lt kt)).2], σ, Aw.below hw hB1, nl, by rw [hE]; exact .tup (.cons C7 (.cons (.same rfl) .nil)), rfl, rfl⟩
  ·refine Aj (Ad (Ad ?_))
   refine Gu (anns := [aR 0 0, aP 0 0, aR 0 0, aE 0 1, aR 0 1, aP 0 1, aR 0 1, aE 1 2, aP 2 2]) A5 (Ar (l := [(51, [Fg (gO d) r, sV l], σ1, sV (Fh (gO d) (mO d) l), σ1), (51, [Fg (gO d) r, sV lt], σ1, sV (Fh (gO d) (mO d) lt), σ1)]) ⟨f51 (gO d) (mO d) l r σ1 hm1 hp.l.node.1 hOk.s, f51 (gO d) (mO d) lt r σ1 hm1 ht.l.node.1 hOk.s, trivial⟩) (by kernel_rfl) ?_
   refine DF (Ae Fl rfl rfl rfl) (DF (Ac Dr rfl rfl) (DF (Ae ld9 rfl rfl rfl) (DT (A7 rfl rfl Ba) (DF (Ae Fl rfl rfl rfl) (DF (Ac Dr rfl rfl) (DF (Ae ld9 rfl rfl rfl) (DT (A7 rfl rfl (Ala fun h => by simp only [List.cons.injEq, and_true, true_and] at h; rw [Aqv h])) ?_)))))))
   refine DF (En ok9 rfl rfl) (Bl ?_)
   refine ⟨rfl, by simp, ?_⟩
   refine Ai rfl (fun h3 => ?_) (fun h3 => ?_)
   ·refine Ad (Aa (OA rfl (OA rfl (Ab ?_))));have hE : Cn d (.node l ks) (.node lt kt) = ([], 11) := ((if_neg (fun hh => Bool.noConfusion (h1.symm.trans hh))).trans ((if_neg (fun hh => Bool.noConfusion (h2.symm.trans hh))).trans (if_pos h3)))
    refine Ak ?_
    exact ⟨_, rfl, .tup [slV eS 3 (Cn d (.node l ks) (.node lt kt)).1, iV (Cn d (.node l ks) (.node lt kt)).2], σ, Aw.below hw hB1, nl, by rw [hE]; exact .tup (.cons C7 (.cons (.same rfl) .nil)), rfl, rfl⟩
   ·obtain ⟨A, hA⟩ : ∃ A, nx σ1 = A := ⟨_, rfl⟩
    have hrA : r < A := by rw [← hA]; exact hm1.lt hw1
    refine Aj (Ad (Aa (O1 (D4 (n := A) zi32 hA) (Ab (Ad (Aa (O1 (D4 (n := A + 1) zi38 (nx1 hA)) ?_)))))))
    refine Ab (Ad (Aa (O1 (E8 rfl rfl) (O1 (A6 (ad := A + 1) (off := 0) (vs := [.nil .nilFunc]) (vs' := [.fn (.func 52) [] [.pv (Ei (gO d) r), .pr A 0, .pr (A + 1) 0]]) (cs := [.fn (.func 52) [] [.pv (Ei (gO d) r), .pr A 0, .pr (A + 1) 0]]) ld38 rfl rfl rfl (by simp only [Sto.cells]; rw [Sto.get_new, if_pos (nx1 hA).symm]) rfl) ?_))))
    refine Ab ?_
    have hn2 : nx (((σ1.new (.cells [.nil (.slice none 0 0)])).new (.cells [.nil .nilFunc])).set (A + 1) (.cells [.fn (.func 52) [] [.pv (Ei (gO d) r), .pr A 0, .pr (A + 1) 0]])) = A + 2 := by rw [An, Ap, Ap, hA]
    have hlo2 : ∀ b, b < A -> (((σ1.new (.cells [.nil (.slice none 0 0)])).new (.cells [.nil .nilFunc])).set (A + 1) (.cells [.fn (.func 52) [] [.pv (Ei (gO d) r), .pr A 0, .pr (A + 1) 0]])).get b = σ1.get b := fun b hb => by rw [Sto.get_set, if_neg (by omega), Sto.get_new, if_neg (by rw [Ap, hA]; omega), Sto.get_new, if_neg (by rw [hA]; omega)]
    have hS2 : MSt σ1 A [.pv (Ei (gO d) r), .pr A 0, .pr (A + 1) 0] (((σ1.new (.cells [.nil (.slice none 0 0)])).new (.cells [.nil .nilFunc])).set (A + 1) (.cells [.fn (.func 52) [] [.pv (Ei (gO d) r), .pr A 0, .pr (A + 1) 0]])) [] (.nil (.slice none 0 0)) := ⟨by rw [hn2]; exact nl, hlo2, by rw [Sto.get_set, if_neg (by omega), Sto.get_new, if_neg (by rw [Ap, hA]; omega), Sto.get_new, if_pos hA.symm], .nil, by rw [Sto.get_set, if_pos rfl]⟩
    obtain ⟨v9, hS9, hn9⟩ := Adn (g := gO d) (m := mO d) (.node l ks) (.node lt kt) [] (((σ1.new (.cells [.nil (.slice none 0 0)])).new (.cells [.nil .nilFunc])).set (A + 1) (.cells [.fn (.func 52) [] [.pv (Ei (gO d) r), .pr A 0, .pr (A + 1) 0]])) _ hS2 (by have := hp.c; simp; omega)
    have hAσ : nx σ <= A := by rw [← hA]; exact hB1.1
    have hB9 : Below (nx σ) σ (mtX (gO d) (mO d) A (.node l ks) (.node lt kt) [] (((σ1.new (.cells [.nil (.slice none 0 0)])).new (.cells [.nil .nilFunc])).set (A + 1) (.cells [.fn (.func 52) [] [.pv (Ei (gO d) r), .pr A 0, .pr (A + 1) 0]]))) := ⟨by have := hS9.n; omega, fun b hb => (hS9.lo b (by omega)).trans (hB1.2 b hb)⟩
    have h52 : Ah Ew 52 ([.agg [sV l, slV eT 2 ks], .agg [sV lt, slV eT 2 kt]] ++ [.pv (Ei (gO d) r), .pr A 0, .pr (A + 1) 0]) (((σ1.new (.cells [.nil (.slice none 0 0)])).new (.cells [.nil .nilFunc])).set (A + 1) (.cells [.fn (.func 52) [] [.pv (Ei (gO d) r), .pr A 0, .pr (A + 1) 0]])) fun v σ' => v = .bool (mtT (gO d) (mO d) (.node l ks) (.node lt kt) []).1 /\ σ' = mtX (gO d) (mO d) A (.node l ks) (.node lt kt) [] (((σ1.new (.cells [.nil (.slice none 0 0)])).new (.cells [.nil .nilFunc])).set (A + 1) (.cells [.fn (.func 52) [] [.pv (Ei (gO d) r), .pr A 0, .pr (A + 1) 0]])) := by
     have := f52 hm1 hrA hOk (.node l ks) hp.l (.node lt kt) [] _ (((σ1.new (.cells [.nil (.slice none 0 0)])).new (.cells [.nil .nilFunc])).set (A + 1) (.cells [.fn (.func 52) [] [.pv (Ei (gO d) r), .pr A 0, .pr (A + 1) 0]])) hS2 (by have := hp.c; simp; omega) (by have := ht.c; omega) (fun s hs => by cases hs)
     rw [Ci, Ci] at this;exact this
    refine Ad (Ad (Aa (O1 (Ae (u := .pr (A + 1) 0) (cs := [.fn (.func 52) [] [.pv (Ei (gO d) r), .pr A 0, .pr (A + 1) 0]]) ld38 rfl (by simp only [B2, Sto.cells, hS2.f]; rfl) rfl) ?_)))
    refine O1 (Ae Bq rfl rfl rfl) (O1 (Ae Bq rfl rfl rfl) (Aq rfl rfl rfl rfl h52 (O1 (A8 rfl) (Ab ?_))));refine Ai rfl (fun h4 => ?_) (fun h4 => ?_)
    ·refine Ad (Aa (OA rfl (OA rfl (Ab ?_))));have hE : Cn d (.node l ks) (.node lt kt) = ([], 200) := ((if_neg (fun hh => Bool.noConfusion (h1.symm.trans hh))).trans ((if_neg (fun hh => Bool.noConfusion (h2.symm.trans hh))).trans ((if_neg (fun hh => Bool.noConfusion (h3.symm.trans hh))).trans (if_pos h4))))
     refine Ak ?_
     exact ⟨_, rfl, .tup [slV eS 3 (Cn d (.node l ks) (.node lt kt)).1, iV (Cn d (.node l ks) (.node lt kt)).2], σ, Aw.below hw hB9, nl, by rw [hE]; exact .tup (.cons C7 (.cons (.same rfl) .nil)), rfl, rfl⟩
    ·skip
     refine Aj (Ad (Aa (O1 (Ae (u := .pr A 0) (cs := [v9]) Zy rfl (by simp only [B2, Sto.cells, hS9.c]; rfl) rfl) ?_)))
     refine OA rfl (OA rfl (Ab ?_));have hE : Cn d (.node l ks) (.node lt kt) = ((mtT (gO d) (mO d) (.node l ks) (.node lt kt) []).2, 0) := ((if_neg (fun hh => Bool.noConfusion (h1.symm.trans hh))).trans ((if_neg (fun hh => Bool.noConfusion (h2.symm.trans hh))).trans ((if_neg (fun hh => Bool.noConfusion (h3.symm.trans hh))).trans (if_neg (fun hh => Bool.noConfusion (h4.symm.trans hh))))))
     refine Ak ?_
     exact ⟨_, rfl, .tup [slV eS 3 (Cn d (.node l ks) (.node lt kt)).1, iV (Cn d (.node l ks) (.node lt kt)).2], σ, Aw.below hw hB9, nl, by rw [hE]; exact .tup (.cons (hS9.o.fz eS_len (fun a ha => hw.none (by omega)) (Ce Adl _)) (.cons (.same rfl) .nil)), rfl, rfl⟩
theorem f12 (d : Db) (p t : Ay) (σ : Sto) (hD : DbS d) (hp : TrS p) (ht : TrS t) : Ah Ew 12 [dbV d, A4 p, A4 t] σ fun v σ' => v = .tup [slV eS 3 (Cn d p t).1, iV (Cn d p t).2] /\ σ' = σ := by
 obtain ⟨l, ks⟩ := p;obtain ⟨lt, kt⟩ := t;exact f12n d l lt ks kt σ hD hp ht
theorem f63t {l : Str} {ks : List Ay} {n : Int} (g : Gr) (m : SM Rl) (r : Nat) (σ : Sto) (hm : Bg rV σ r m) (hO : Ot g m) (hp : TrS (.node l ks)) (hn : V5 g m (.node l ks) = n) : Ah Ew 63 [Fg g r, .agg [sV l, slV eT 2 ks]] σ fun v σ' => v = iV n /\ σ' = σ := by
 rw [← hn, ← Ci]; exact f63 (.node l ks) g m r σ hm hO hp.l hp.c hp.d
theorem f15n (d : Db) (l : Str) (ks : List Ay) (σ : Sto) (hD : DbS d) (hp : TrS (.node l ks)) : Ah Ew 15 [dbV d, A4 (.node l ks)] σ fun v σ' => v = .tup [sV (Ks d (.node l ks)).1, iV (Ks d (.node l ks)).2] /\ σ' = σ := by
 obtain ⟨hOk, hrl⟩ := Aqc d;rw [Ci];refine A2 Tryz.func15 rfl rfl fun hw hu0 => ?_
 refine Ad (Aa (Ax Ki rfl rfl rfl (Ax Bq rfl rfl rfl (OA rfl (OA rfl (Ab (Ad ?_)))))));refine Aa (O1 (Ae Ki rfl rfl rfl) (Cu rfl rfl rfl rfl (f49 d σ hD.b hD.n hrl) ?_));rintro _ σ1 ⟨r, rfl, hr0, hm1, hB1⟩;refine OM rfl (O1 (Ao rfl rfl) (O1 (Ao rfl rfl) (B6 (cs := Ei (gO d) r) zi92 Fl rfl (fun _ => rfl) rfl rfl rfl rfl ?_)))
 refine OA rfl (Ab (Ad (Ad (Aa (OM rfl (O1 (C9 (q := 0) Jp rfl rfl) (Ab ?_)))))));refine Ai rfl (fun h1 => ?_) (fun h1 => ?_)
 ·refine Ad (Aa (OM rfl (OA rfl (OA rfl (Ab ?_)))));have hE : Ks d (.node l ks) = ([], (ofF d).2) := (if_pos h1);refine Ak ?_
  exact ⟨_, rfl, .tup [sV (Ks d (.node l ks)).1, iV (Ks d (.node l ks)).2], σ, Aw.below hw hB1, nl, by rw [hE]; exact .same rfl, rfl, rfl⟩
 ·refine Aj (Ad (Ad (Aa (O1 (Ae Fl rfl rfl rfl) (O1 (Ae Bq rfl rfl rfl) (Aq rfl rfl rfl rfl (f63t (gO d) (mO d) r σ1 hm1 hOk hp rfl) (OA rfl ?_)))))));refine Ab (Ad (Aa (OM rfl (O1 (C9 (q := 0) Jp rfl rfl) (Ab ?_)))));refine Ai rfl (fun h2 => ?_) (fun h2 => ?_)
  ·refine Ad (Aa (OM rfl (OA rfl (OA rfl (Ab ?_)))));have hE : Ks d (.node l ks) = ([], V5 (gO d) (mO d) (.node l ks)) := ((if_neg (fun hh => Bool.noConfusion (h1.symm.trans hh))).trans (if_pos h2))
   refine Ak ?_
   exact ⟨_, rfl, .tup [sV (Ks d (.node l ks)).1, iV (Ks d (.node l ks)).2], σ, Aw.below hw hB1, nl, by rw [hE]; exact .same rfl, rfl, rfl⟩
  ·refine Aj (Ad (Aa (O1 (Ae Fl rfl rfl rfl) (O1 (Ac Dr rfl rfl) (O1 (Ae ld9 rfl rfl rfl) (Aq rfl rfl rfl rfl (f51 (gO d) (mO d) l r σ1 hm1 hp.l.node.1 hOk.s) (OA rfl ?_)))))));refine OA rfl (Ab ?_);have hE : Ks d (.node l ks) = (Fh (gO d) (mO d) l, 0) := ((if_neg (fun hh => Bool.noConfusion (h1.symm.trans hh))).trans (if_neg (fun hh => Bool.noConfusion (h2.symm.trans hh))))
   refine Ak ?_
   exact ⟨_, rfl, .tup [sV (Ks d (.node l ks)).1, iV (Ks d (.node l ks)).2], σ, Aw.below hw hB1, nl, by rw [hE]; exact .same rfl, rfl, rfl⟩
theorem f15 (d : Db) (t : Ay) (σ : Sto) (hD : DbS d) (ht : TrS t) : Ah Ew 15 [dbV d, A4 t] σ fun v σ' => v = .tup [sV (Ks d t).1, iV (Ks d t).2] /\ σ' = σ := by
 obtain ⟨l, ks⟩ := t;exact f15n d l ks σ hD ht
def L9 (l : List Sb) (s : Str) (ks : List Ay) : Option Ay := if decide (Int.ofNat ks.length = 0) = true then Cp l s else none
mutual
def apT (l : List Sb) : Ay -> Ay
 | .node s ks => match L9 l s ks with
  | some t => t
  | none => .node s (apL l ks)
def apL (l : List Sb) : List Ay -> List Ay
 | [] => []
 | t :: r => apT l t :: apL l r
end
theorem Ado (l : List Sb) : ∀ ks : List Ay, apL l ks = ks.map (apT l)
 | [] => by rw [apL]; rfl
 | t :: r => by rw [apL, Ado l r]; rfl
theorem Ahu {l : List Sb} {ks : List Ay} {i : Nat} {a : Ay} (h : ks[i]? = some a) : (apL l ks)[i]? = some (apT l a) := by
 rw [Ado, List.getElem?_map, h]; rfl
theorem T1 (l : List Sb) (ks : List Ay) : (apL l ks).length = ks.length := by rw [Ado, List.length_map]
mutual
theorem Uu : ∀ (t : Ay) (lv k : Nat), dpT t (lv + k) = dpT t lv + k
 | .node _ ks, lv, k => by
  unfold dpT;have := Abk ks (lv + 1) lv k
  rw [show lv + k + 1 = lv + 1 + k by omega]; exact this
theorem Abk : ∀ (l : List Ay) (lv d k : Nat), dpL l (lv + k) (d + k) = dpL l lv d + k
 | [], _, _, _ => by unfold dpL; rfl
 | t :: r, lv, d, k => by
  unfold dpL
  rw [Uu t lv k, show max (d + k) (dpT t lv + k) = max d (dpT t lv) + k by omega]
  exact Abk r lv _ k
end
theorem Arh (t : Ay) (lv : Nat) : dpT t lv = lv + dpT t 1 - 1 := by
 have h1 := Uu t 0 lv;have h2 := Uu t 0 1;rw [Nat.zero_add] at h1 h2;omega
def szP (t : Ay) : Nat × Nat := (By t, dpT t 1)
def G8 (l : List Sb) : SM (Nat × Nat) := l.foldr (fun s m => m.put s.label (szP s.tree)) []
theorem Ahv (l : List Sb) (s : Str) : (G8 l).get s = (Cp l s).map szP := by
 induction l with
 | nil => rfl
 | cons a r ih =>
  show ((G8 r).put a.label (szP a.tree)).get s = _
  rw [SM.get_put];unfold Cp
  by_cases h : a.label = s
  ·rw [if_pos h, if_pos h.symm]; rfl
  ·rw [if_neg h, if_neg (Ne.symm h)]; exact ih
def szV (p : Nat × Nat) : AV := .agg [iV (.ofNat p.1), iV (.ofNat p.2)]
theorem An1 {ρ : Al} {σ : Sto} {Rr : Rec} {r : Nat} {x y : Operand} {m : SM (Nat × Nat)} {s : Str} (hx : A0 Ew ρ x = some (.mp r)) (hm : Bg szV σ r m) (hy : A0 Ew ρ y = some (sV s)) :
  Bu Ew Rr (.lookup 102 x y true) ρ σ (.tup [szV ((m.get s).getD (0, 0)), .bool (m.get s).isSome]) σ := by
 have := Pc (Rr := Rr) st9 Ams hx hm hy;cases hg : m.get s with
 | none => rw [hg] at this; exact this
 | some p => rw [hg] at this; exact this
theorem f60n (l : List Sb) (s : Str) (ks : List Ay) (lv : Nat) (a b r : Nat) (σ : Sto) (ha : σ.get a = some (.cells [.mp r])) (hb : σ.get b = some (.cells [.fn (.func 60) [] [.pr a 0, .pr b 0]])) (hm : Bg szV σ r (G8 l)) (hl : ∀ x ∈ l, By x.tree <= 4000) (hlv : lv + By (.node s ks) <= 20000) (hks : ks.length <= 1000000) (hc : By (apT l (.node s ks)) <= 4000) (ih : ∀ k ∈ ks, By (apT l k) <= 4000 -> Ah Ew 60 [A4 k, iV (.ofNat (lv + 1)), .pr a 0, .pr b 0] σ fun v σ' => v = .tup [iV (.ofNat (By (apT l k))), iV (.ofNat (dpT (apT l k) (lv + 1)))] /\ σ' = σ) : Ah Ew 60 [A4 (.node s ks), iV (.ofNat lv), .pr a 0, .pr b 0] σ fun v σ' => v = .tup [iV (.ofNat (By (apT l (.node s ks)))), iV (.ofNat (dpT (apT l (.node s ks)) lv))] /\ σ' = σ := by
 have hsz := Ahv l s
 have hlvk : lv + 1 <= 20000 := by unfold By at hlv; omega
 have hp : ((G8 l).get s).getD (0, 0) = ((Cp l s).map szP).getD (0, 0) := by rw [hsz]
 have hp2 : (((G8 l).get s).getD (0, 0)).2 <= 4001 := by
  rw [hp];cases hf : Cp l s with
  | none => exact Nat.zero_le _
  | some t =>
   have h1 := (Rs t 1).2;have h2 : By t <= 4000 := Ut hf hl
   show dpT t 1 <= _; omega
 rw [Ci];refine A2 Tryz.func60 rfl rfl fun hw hu0 => ?_
 refine Ad (Aa (Ax Bq rfl rfl rfl (OA rfl (OA rfl (Ab (Ad (Ad ?_)))))))
 refine Aa (O1 (Ae (u := .pr a 0) (cs := [.mp r]) Amr rfl (by simp only [B2, Sto.cells, ha]; rfl) rfl) ?_)
 refine O1 (Ac Dr rfl rfl) (O1 (Ae ld9 rfl rfl rfl) (O1 (An1 rfl hm rfl) (OM rfl (O1 (Ao rfl rfl) (O1 (Ao rfl rfl) (B6 (cs := [iV (.ofNat (((G8 l).get s).getD (0, 0)).1), iV (.ofNat (((G8 l).get s).getD (0, 0)).2)]) zi108 ld108 rfl (fun _ => rfl) rfl rfl rfl rfl ?_))))))
 refine OA rfl (Ab (Ad (Aa (OM rfl (OM rfl ?_)))));refine Cv 4 _ ?_ rfl rfl rfl rfl rfl (Av rfl) (fun hg => ?_) (fun hg => ?_) ?_
 rotate_left
 ·refine On hg (Ac Dk rfl rfl) (On hg (Ae H8 rfl rfl rfl) (On hg (As Kj rfl) (On hg (Dq (q := 0) ok3 rfl rfl) (Ab ?_))));refine ⟨rfl, ?_, ?_⟩
  ·exact sb
  ·exact rfl
 ·refine Of hg (Of hg (Of hg (Of hg (Ab ?_))));exact ⟨rfl, sb⟩
 refine Ab ?_;refine Ai rfl (fun h1 => ?_) (fun h1 => ?_)
 ·obtain ⟨t, hft⟩ : ∃ t, Cp l s = some t := by
   simp only [Bool.and_eq_true] at h1;rw [hsz, Option.isSome_map] at h1;exact Option.isSome_iff_exists.1 h1.1
  have hlf : L9 l s ks = some t := by unfold L9; rw [if_pos (by simp only [Bool.and_eq_true] at h1; exact h1.2)]; exact hft
  have hap : apT l (.node s ks) = t := by rw [apT, hlf]
  have hpt : ((G8 l).get s).getD (0, 0) = szP t := by rw [hp, hft]; rfl
  have hp1 : 1 <= (((G8 l).get s).getD (0, 0)).2 := by rw [hpt]; exact (Rs t 1).1
  refine Ad ?_
  refine Ht (anns := [aP 0 0, aR 0 0, aP 0 0, aP 0 0, aR 0 0, aP 0 0, aP 0 0, aP 0 0, aP 0 0]) A5 (by kernel_rfl) (by kernel_rfl) ?_
  refine DF (I1 Amu rfl rfl (by decide) (n := 0) rfl) ?_
  refine DF (Ae ld3 rfl rfl rfl) (DF (Ag rfl) (DF (I1 Amu rfl rfl (by decide) (n := 1) rfl) ?_))
  refine DF (Ae ld3 rfl rfl rfl) (DF (A1 ok3 rfl rfl (by omega)) ?_)
  refine DF (Aco (q := 1) ok3 rfl rfl (by omega) (by omega)) ?_
  refine DF (Bv rfl) (DF (Bv rfl) (Bl ?_));refine ⟨rfl, rfl, ?_⟩;refine Ak (Bw hw rfl ?_);rw [hap, hpt, Arh t lv]; rfl
 ·have hlf : L9 l s ks = none := by
   unfold L9
   split
   ·rename_i h0
    rw [h0, Bool.and_true, hsz, Option.isSome_map] at h1;cases hf : Cp l s with
    | none => rfl
    | some t => rw [hf] at h1; cases h1
   ·rfl
  have hap : apT l (.node s ks) = .node s (apL l ks) := by rw [apT, hlf]
  have hcn : 1 + D5 (apL l ks) <= 4000 := by rw [hap] at hc; unfold By at hc; exact hc
  refine Aj (Ad (Aa (OM rfl (OA rfl (OA rfl (Ab (Ad ?_)))))));refine Ad (Aa (O1 (Ac Dk rfl rfl) (O1 (Ae H8 rfl rfl rfl) (O1 (As Kj rfl) (OM rfl (Ab (Am ?_)))))))
  refine Cg ks.length (fun i0 => [(1, iV (.ofNat lv)), (3, .pr b 0), (6, iV (.ofNat (1 + D5 ((apL l ks).take i0)))), (7, iV (.ofNat (dpL ((apL l ks).take i0) (lv + 1) lv))), (37, slV eT 2 ks), (38, iV (.ofNat ks.length)), (39, iV (.ofNat i0))]) (fun i0 σ0 => σ0 = σ) ⟨rfl, rfl, congrArg (fun x => some (iV x)) (show Int.ofNat 1 = Int.ofNat (1 + D5 ((apL l ks).take 0)) by simp [D5]), congrArg (fun x => some (iV x)) (show Int.ofNat lv = Int.ofNat (dpL ((apL l ks).take 0) (lv + 1) lv) by simp [dpL]), rfl, rfl, rfl, trivial⟩ rfl ?_
  rintro i0 σ0 hi0 rfl;refine Ad (Aa (O1 (Bb ok3 rfl rfl) (Ab (Ad ?_))));refine Ai rfl (fun h2 => ?_) (fun h2 => ?_)
  ·have hlt0 : i0 < ks.length := by simpa using h2
   obtain ⟨a0, ha0⟩ := B3 hlt0;have hd0 := Bn ha0;have hA0 := Ahu (l := l) ha0;have hct := Abd hA0;have hda := Rs (apT l a0) (lv + 1)
   have e4 : Int.ofNat (1 + D5 ((apL l ks).take i0) + By (apT l a0)) = Int.ofNat (1 + D5 ((apL l ks).take (i0 + 1))) := by rw [Cx hA0, Oo]; simp only [D5, Int.ofNat_eq_natCast]; omega
   have e5 : max (Int.ofNat (dpL ((apL l ks).take i0) (lv + 1) lv)) (Int.ofNat (dpT (apT l a0) (lv + 1))) = Int.ofNat (dpL ((apL l ks).take (i0 + 1)) (lv + 1) lv) := by rw [Cx hA0, Adk]; simp only [dpL, Int.ofNat_eq_natCast]; omega
   refine Aj (Ad (Am (Ad (Aa (O1 (A3 L5 eT_len rfl rfl ha0) (O1 (Ae Bq rfl rfl (Cb (eT_len a0) _)) (B6 Ku Bq rfl (fun _ => rfl) rfl (Bp (eT_len a0)) rfl rfl ?_)))))))
   refine Ab (Ad (Aa (O1 (Ae (u := .pr b 0) (cs := [.fn (.func 60) [] [.pr a 0, .pr b 0]]) Amt rfl (by simp only [B2, Sto.cells, hb]; rfl) rfl) ?_)))
   refine O1 (Ae Bq rfl rfl (Be (eT_len a0))) (OM rfl (O1 (A1 (q := 1) ok3 rfl rfl (by omega)) ?_))
   refine Aq rfl rfl rfl rfl (ih a0 (List.mem_of_getElem? ha0) (by omega)) ?_
   refine OM rfl (O1 (Ao rfl rfl) (O1 (Ao rfl rfl) (OA rfl (OA rfl (Ab (Ad (Ad ?_)))))))
   refine Aa (OM rfl (OM rfl (O1 (A1 ok3 rfl rfl (by omega)) ?_)))
   refine OA rfl (Ab (Ad (Aa (OM rfl (O1 (Cm (q := 4000) ok3 rfl rfl) (Ab ?_))))));refine Ai rfl (fun h3 => ?_) (fun h3 => ?_)
   ·exact absurd h3 (by simp only [Int.ofNat_eq_natCast, decide_eq_true_eq]; omega)
   ·skip
    refine Aj (Aa (OM rfl (OM rfl (O1 (Ama ok3 rfl rfl) (OA rfl (Ab (Aa ?_)))))))
    refine O1 (A1 (q := 1) ok3 rfl rfl (by omega)) ?_
    refine OM rfl (Ab ?_);refine ⟨hlt0, ⟨rfl, rfl, congrArg (fun x => some (iV x)) e4, congrArg (fun x => some (iV x)) e5, rfl, rfl, rfl, trivial⟩, rfl⟩
  ·have hge0 : ks.length <= i0 := by simpa using h2
   refine Bf ?_;refine Ad (Aa (OM rfl (OM rfl (OA rfl (OA rfl (Ab ?_))))));refine Ak (Bw hw rfl ?_)
   rw [hap]; unfold By dpT; rw [List.take_of_length_le (by rw [T1]; exact hge0)]; rfl
theorem f60 (l : List Sb) (a b r : Nat) (σ : Sto) (ha : σ.get a = some (.cells [.mp r])) (hb : σ.get b = some (.cells [.fn (.func 60) [] [.pr a 0, .pr b 0]])) (hm : Bg szV σ r (G8 l)) (hl : ∀ x ∈ l, By x.tree <= 4000) (t : Ay) : ∀ lv, lv + By t <= 20000 -> By (apT l t) <= 4000 ->
  Ah Ew 60 [A4 t, iV (.ofNat lv), .pr a 0, .pr b 0] σ fun v σ' => v = .tup [iV (.ofNat (By (apT l t))), iV (.ofNat (dpT (apT l t) lv))] /\ σ' = σ := by
 refine Ay.ind' (P := fun t => ∀ lv, lv + By t <= 20000 -> By (apT l t) <= 4000 -> Ah Ew 60 [A4 t, iV (.ofNat lv), .pr a 0, .pr b 0] σ fun v σ' => v = .tup [iV (.ofNat (By (apT l t))), iV (.ofNat (dpT (apT l t) lv))] /\ σ' = σ) ?_ t
 intro s ks ih lv h1 h2;have hlk := H7 ks
 refine f60n l s ks lv a b r σ ha hb hm hl h1 (by unfold By at h1; omega) h2 fun k hk h3 => ih k hk (lv + 1) ?_ h3
 have := Gs hk;unfold By at h1;omega
end Go.AM
