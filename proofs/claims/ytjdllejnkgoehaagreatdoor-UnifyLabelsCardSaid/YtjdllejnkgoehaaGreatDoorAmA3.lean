/- build, buildSlice, makeSlice, store: sound. -/
import Derived.Laws.Append
import Derived.Test.YtjdllejnkgoehaaGreatDoorAmA2
namespace Go.AM
open Go

section
variable {P : Program} {C C' : Ctx} {N N' : Nat} {w w' : World} {σ σ' : Sto}

theorem infos_places : ∀ {fs : List Field}, infosOk P fs = true → ∃ places, fs.mapM (fun f => (P.info? f.type).map fun i => (f.offset, i.size)) = some places ∧
    ∀ (i : Nat) (f : Field), fs[i]? = some f → ∃ fi, P.info? f.type = some fi ∧ places[i]? = some (f.offset, fi.size)
  | [], _ => ⟨[], by simp, fun i f h => by simp at h⟩
  | f :: r, h => by
    simp only [infosOk] at h
    split at h
    · rename_i fi hfi
      obtain ⟨pl, h1, h2⟩ := infos_places h
      refine ⟨(f.offset, fi.size) :: pl, by simp [List.mapM_cons, hfi, h1], fun i g hg => ?_⟩
      cases i with
      | zero => simp at hg; subst hg; exact ⟨fi, hfi, rfl⟩
      | succ i => obtain ⟨gi, k1, k2⟩ := h2 i g (by simpa using hg); exact ⟨gi, k1, by simpa using k2⟩
    · cases h

theorem placesF_sound {E : Env} {tm : Tr AV} {a : Act} (hE : E.P = P) (hg : Glob C N w E) (ht : TR C N w tm a.tmps) {fs : List Field} {place : Nat → Option (Nat × Nat)}
    (hp : ∀ (i : Nat) (f : Field), fs[i]? = some f → ∃ fi, P.info? f.type = some fi ∧ place i = some (f.offset, fi.size)) :
    ∀ {parts : List (Nat × Operand)} {ps : List (Nat × Nat × AV)}, placesF P E tm fs parts = some ps → Parts C N w place ps (parts.map fun (i, x) => (i, a.eval x))
  | [], ps, h => by simp only [placesF, Option.some.injEq] at h; subst h; simp only [List.map_nil]; unfold Parts; trivial
  | (i, x) :: r, ps, h => by
    simp only [placesF] at h
    split at h
    · rename_i f l hf hl
      split at h
      · rename_i ti hti
        cases h
        obtain ⟨fi, d, g1, _, _, g4, _⟩ := tiOf_spec hti
        obtain ⟨fi', k1, k2⟩ := hp i f hf
        rw [g1] at k1; cases k1
        simp only [List.map_cons]
        unfold Parts
        exact ⟨⟨by rw [k2, g4], opd_sound hg ht x⟩, placesF_sound hE hg ht hp hl⟩
      · cases h
    · cases h

theorem placesE_sound {E : Env} {tm : Tr AV} {a : Act} (hg : Glob C N w E) (ht : TR C N w tm a.tmps) (size : Nat) :
    ∀ (parts : List (Nat × Operand)), Parts C N w (fun i => some (i * size, size)) (placesE E tm size parts) (parts.map fun (i, x) => (i, a.eval x))
  | [] => by simp only [placesE, List.map_nil]; unfold Parts; trivial
  | (i, x) :: r => by
    simp only [placesE, List.map_cons]
    unfold Parts
    exact ⟨⟨rfl, opd_sound hg ht x⟩, placesE_sound hg ht size r⟩

theorem buildStruct_sound {t : TypeId} {ti : TI} (hti : tiOf P t = some ti) {fs : Array Field} (hd : ti.desc = .struct fs) {z : List AV} (hz : ti.zero = some z) (hi : infosOk P fs.toList = true)
    {ps : List (Nat × Nat × AV)} {parts : Array (Nat × Value)} {place : Nat → Option (Nat × Nat)}
    (hplace : ∀ places, fs.toList.mapM (fun f => (P.info? f.type).map fun i => (f.offset, i.size)) = some places → place = (places.toArray[·]?))
    (hp : Parts C N w place ps parts.toList) {v : AV} (h : sBuild z ps σ = some (v, σ')) : σ' = σ ∧ PureR P C N w (Instr.build t parts) v := by
  obtain ⟨i, d, g1, g2, g3, g4, _, g6, g7⟩ := tiOf_spec hti
  rw [g6] at hz
  obtain ⟨Z, q1, q2, q3, _, _⟩ := zeroA_spec (C := C) (w := w) (N := N) hz
  obtain ⟨pl, h1, _⟩ := infos_places hi
  have hu := g2.trans (by rw [← g3, hd])
  unfold sBuild at h
  split at h
  · rename_i cs hcs
    cases h
    obtain ⟨cs', k1, k2, k3, _⟩ := fill_sound hp q2 q3 hcs
    refine ⟨rfl, .agg cs', ?_, by unfold R; exact ⟨_, rfl, k2, k3⟩⟩
    rw [hplace pl h1] at k1
    refine run_build w t parts cs' ?_
    unfold Program.built
    simp only [g1, hu, q1, h1]
    exact k1
  · cases h

theorem buildArr_sound {t e : TypeId} {n : Nat} {ti te : TI} (hti : tiOf P t = some ti) (hd : ti.desc = .array n e) (hte : tiOf P e = some te) {z : List AV} (hz : ti.zero = some z)
    {ps : List (Nat × Nat × AV)} {parts : Array (Nat × Value)}
    (hp : Parts C N w (fun i => some (i * te.size, te.size)) ps parts.toList) {v : AV} (h : sBuild z ps σ = some (v, σ')) : σ' = σ ∧ PureR P C N w (Instr.build t parts) v := by
  obtain ⟨i, d, g1, g2, g3, g4, _, g6, g7⟩ := tiOf_spec hti
  obtain ⟨ei, _, e1, _, _, e4, _⟩ := tiOf_spec hte
  rw [g6] at hz
  obtain ⟨Z, q1, q2, q3, _, _⟩ := zeroA_spec (C := C) (w := w) (N := N) hz
  have hu := g2.trans (by rw [← g3, hd])
  unfold sBuild at h
  split at h
  · rename_i cs hcs
    cases h
    obtain ⟨cs', k1, k2, k3, _⟩ := fill_sound hp q2 q3 hcs
    refine ⟨rfl, .agg cs', ?_, by unfold R; exact ⟨_, rfl, k2, k3⟩⟩
    unfold Instr.build
    simp only [Sem.run_bind, run_zeroValue' g1 q1, Result.andThen_ok, run_underlying' hu, run_sizeOf' e1]
    rw [e4] at k1
    simp only [k1, Sem.run_pure]
  · cases h

/- copies of a zero value, as 'buildSlice', 'makeSlice' and 'append' make them -/
theorem run_zeros {e : TypeId} {ei : TypeInfo} {Z : Value} (h : P.info? e = some ei) (hz : ei.zero = some Z) (hsz : Z.cells.size = ei.size) (n : Nat) :
    ∃ zc, (∀ {α : Type} (K : Array Value → Sem α), (if n * ei.size = 0 then do let zero ← pure #[]; K zero else do let l ← zeroValue e; let zero ← pure l.cells; K zero).run P w = (K zc).run P w) ∧
      (Array.range (n * ei.size)).map (zc[· % zc.size]!) = (Array.range (n * Z.cells.size)).map (Z.cells[· % Z.cells.size]!) := by
  by_cases h0 : n * ei.size = 0
  · refine ⟨#[], fun K => by rw [if_pos h0]; simp, ?_⟩
    rw [hsz, h0]; simp
  · refine ⟨Z.cells, fun K => by rw [if_neg h0]; simp [run_zeroValue' h hz], by rw [hsz]⟩

theorem sBuildSlice_sound (hs : Sim P C w σ) {t e : TypeId} {len : Nat} {ti te : TI} (hti : tiOf P t = some ti) (hd : ti.desc = .slice e) (hte : tiOf P e = some te) {z : List AV} (hz : te.zero = some z) (hzl : z.length = te.size)
    (hlim : len * te.size ≤ 16777216) {byref : Bool} {ps : List (Nat × Nat × AV)} {parts : Array (Nat × Value)}
    (hp : Parts C (nx σ) w (fun i => some (i * te.size, te.size)) ps parts.toList) {v : AV} (h : sBuildSlice z te.size len byref ps σ = some (v, σ')) :
    RunsV P C w σ (Instr.buildSlice t len parts) v σ' ∧ (byref = false → σ' = σ) := by
  obtain ⟨i, d, g1, g2, g3, g4, _, _, _⟩ := tiOf_spec hti
  obtain ⟨ei, ed, e1, e2, e3, e4, _, e6, e7⟩ := tiOf_spec hte
  rw [e6] at hz
  obtain ⟨Z, q1, q2, q3, _, _⟩ := zeroA_spec (C := C) (w := w) (N := nx σ) hz
  have hu := g2.trans (by rw [← g3, hd])
  have hZ : Z.cells.size = ei.size := by have := q2.length; simp at this; omega
  obtain ⟨zc, r1, r2⟩ := run_zeros (P := P) (w := w) e1 q1 hZ len
  unfold sBuildSlice at h
  split at h
  · rename_i cs hcs
    obtain ⟨cs', k1, k2, k3, k4⟩ := fill_sound hp (q2.rep len) (rep_oneCell q3 len) hcs
    have hrun : (Instr.buildSlice t len parts).run P w = .ok (.slice (some ⟨w.heap.size, 0, none⟩) len len) { w with heap := w.heap.push (.cells cs' e) } := by
      unfold Instr.buildSlice
      simp only [Sem.run_bind, Result.andThen_ok, run_underlying' hu, run_sizeOf' e1]
      rw [Sem.run_ite, if_neg (by rw [← e4]; omega)]
      rw [r1]
      simp only [r2]
      rw [e4] at k1
      simp only [k1]
      simp [newRow]
    have p := pu_push w (.cells cs' e (0, 0))
    have hsz' : cs'.size = len * te.size := by rw [k4]; simp [hZ, e4]
    cases byref with
    | true =>
      simp only [Option.some.injEq, Prod.mk.injEq] at h
      obtain ⟨rfl, rfl⟩ := h
      obtain ⟨s1, s2⟩ := newCells hs p k2 k3 (fun i v hi => by rwa [Array.getElem?_toList] at hi)
      refine ⟨⟨_, _, _, _, hrun, rfl, s1, by rw [nx_new]; exact s2, ?_⟩, fun hh => by cases hh⟩
      rw [nx_new]
      refine R.newSlice (Nat.lt_succ_self _) (Ctx.add_loc ..) (Nat.le_refl _) (fun q hq => by cases hq; rfl) ?_
      rw [csize_cells p.here, hsz']; omega
    | false =>
      simp only [Option.some.injEq, Prod.mk.injEq] at h
      obtain ⟨rfl, rfl⟩ := h
      obtain ⟨s1, s2⟩ := hs.push p
      refine ⟨⟨_, _, _, _, hrun, rfl, s1, s2, ?_⟩, fun _ => rfl⟩
      have hl := k2.length
      unfold R
      refine ⟨⟨w.heap.size, 0, none⟩, len, rfl, Nat.le_refl _, fun q hq => by cases hq; rfl, by simp at hl; omega, fun _ => rfl, fun _ ho => ?_, ?_⟩
      · have := hs.own_lt ho; simp at this
      · exact RC.of_cells p.here (k2.ext s2) k3 fun i v hi => by simpa using hi
  · cases h

end
end Go.AM

/- makeSlice, store, clear, conversions: sound. -/
namespace Go.AM
open Go

section
variable {P : Program} {C C' : Ctx} {N N' : Nat} {w w' : World} {σ σ' : Sto}

theorem Sto.cells_get {a : Nat} {vs : List AV} (h : σ.cells a = some vs) : σ.get a = some (.cells vs) := by
  unfold Sto.cells at h
  split at h
  · rename_i vs' hg; cases h; exact hg
  · cases h

/- cells of an owned block are written -/
theorem writeCells (hs : Sim P C w σ) {a off : Nat} {vs vs' l : List AV} {xs : List Value} (hg : σ.get a = some (.cells vs)) (hset : setAt vs off l = some vs') (hl : RL C (nx σ) w l xs) (h1 : ∀ x ∈ xs, x.oneCell = true) :
    ∃ c o w', C.loc a = some (c, o) ∧ (storeCells ⟨c, o + off, none⟩ xs).run P w = .ok () w' ∧ Sim P C w' (σ.set a (.cells vs')) ∧ Ext C (nx σ) w C (nx σ) w' := by
  obtain ⟨c, o, cs, T, k1, k2, k3⟩ := hs.obj a _ hg
  obtain ⟨s1, s2, s3⟩ := setAt_spec hset
  have hlen := hl.length
  have hroom : xs ≠ [] → o + off + xs.length ≤ cs.size := fun hne => by
    have hv : vs ≠ [] := fun h0 => by
      apply hne
      have : l.length = 0 := by rw [h0] at s2; simp only [List.length_nil] at s2; omega
      exact List.eq_nil_of_length_eq_zero (by omega)
    have := k3.room hv
    rw [csize_cells k2] at this; omega
  have hw : ∃ w', (storeCells ⟨c, o + off, none⟩ xs).run P w = .ok () w' ∧ Wr w w' c (.cells (putL cs (o + off) xs) T (0, 0)) := by
    by_cases hx : xs = []
    · subst hx; exact ⟨w, by simp [storeCells], rfl, k2, fun _ _ => rfl, rfl, rfl⟩
    · exact run_storeCells xs w c (o + off) 0 cs T k2 h1 (hroom hx)
  obtain ⟨w', r1, r2⟩ := hw
  refine ⟨c, o, w', k1, r1, ?_⟩
  refine hs.upd k1 r2 (by rw [csize_cells r2.here, csize_cells k2, putL_size]) hg (.cells vs') rfl (fun _ _ _ h => by cases h) fun e => ?_
  refine ⟨c, o, _, T, k1, r2.here, ?_⟩
  rw [nx_set]
  refine RC.of_get fun i x hi => ?_
  rw [s3 i] at hi
  rw [cell_cells r2.here]
  by_cases hx : xs = []
  · subst hx
    simp at hlen
    rw [if_neg (by simp [hlen])] at hi
    obtain ⟨v, q1, q2, q3⟩ := k3.get i x hi
    rw [cell_cells k2] at q1
    exact ⟨v, q1, q2, R.ext e _ _ q3⟩
  · have hr := hroom hx
    rw [putL_get xs cs (o + off) hr]
    by_cases hc : off ≤ i ∧ i < off + l.length
    · rw [if_pos hc] at hi
      rw [if_pos (by omega)]
      obtain ⟨v, q1, q2⟩ := hl.get _ x hi
      exact ⟨v, by rw [← q1]; congr 1; omega, h1 v (List.mem_of_getElem? q1), R.ext e _ _ q2⟩
    · rw [if_neg hc] at hi
      rw [if_neg (by omega)]
      obtain ⟨v, q1, q2, q3⟩ := k3.get i x hi
      rw [cell_cells k2] at q1
      exact ⟨v, q1, q2, R.ext e _ _ q3⟩

theorem sStore_sound (hs : Sim P C w σ) {t : TypeId} {ti : TI} (hti : tiOf P t = some ti) {x v : AV} {X V : Value} (hx : R C (nx σ) w x X) (hv : R C (nx σ) w v V) {u : AV} (h : sStore ti.size x v σ = some (u, σ')) :
    u = undefA ∧ ∃ w', (Instr.storeAt t X V).run P w = .ok () w' ∧ Sim P C w' σ' ∧ Ext C (nx σ) w C (nx σ') w' := by
  obtain ⟨i, d, g1, g2, g3, g4, _⟩ := tiOf_spec hti
  unfold sStore at h
  split at h
  · rename_i a off l hl
    split at h
    · rename_i vs hvs
      split at h
      · rename_i vs' hset
        cases h
        obtain ⟨q1, q2, q3, q4⟩ := cellsN_sound hl hv
        obtain ⟨c, o, w', r1, r2, r3, r4⟩ := writeCells hs (Sto.cells_get hvs) hset q1 q4
        refine ⟨rfl, w', ?_, r3, by rw [nx_set]; exact r4⟩
        unfold R at hx
        obtain ⟨ad, rfl, _, hl⟩ := hx
        rw [hl c o r1]
        unfold Instr.storeAt storeVar
        simp only [Instr.sureAddr, Sem.run_bind, Sem.run_pure, Result.andThen_ok, run_sizeOf' g1, Sem.run_ite]
        rw [if_neg (by rw [q2, g4]; simp)]
        first | exact r2 | (simp only [Sem.run_bind, Sem.run_pure, Result.andThen_ok]; exact r2)
      · cases h
    · cases h
  · cases h

theorem zeroCells_eq (z : Array Value) (n : Nat) : Builtin.zeroCells z n = (Array.range (n * z.size)).map (z[· % z.size]!) := rfl

theorem sClear_sound (hs : Sim P C w σ) {t e ty : TypeId} {ti te : TI} (hti : tiOf P t = some ti) (hd : ti.desc = .slice e) (hte : tiOf P e = some te) {z : List AV} (hz : te.zero = some z) (hzl : z.length = te.size)
    {x : AV} {X : Value} (hx : R C (nx σ) w x X) {u : AV} (h : sClear z te.size x σ = some (u, σ')) :
    u = undefA ∧ ∃ w', (Builtin.clear_ #[t] ty #[X]).run P w = .ok (.tuple #[]) w' ∧ Sim P C w' σ' ∧ Ext C (nx σ) w C (nx σ') w' := by
  obtain ⟨i, d, g1, g2, g3, g4, _, _, _⟩ := tiOf_spec hti
  obtain ⟨ei, ed, e1, e2, e3, e4, _, e6, e7⟩ := tiOf_spec hte
  rw [e6] at hz
  obtain ⟨Z, q1, q2, q3, _, _⟩ := zeroA_spec (C := C) (w := w) (N := nx σ) hz
  have hu := g2.trans (by rw [← g3, hd])
  have hZ : z.length = Z.cells.size := by have := q2.length; simpa using this
  unfold sClear at h
  split at h
  · rename_i a off sz len cap
    split at h
    · rename_i vs hsz hvs
      split at h
      · rename_i vs' hset
        cases h
        refine ⟨rfl, ?_⟩
        obtain ⟨c, o, w', r1, r2, r3, r4⟩ := writeCells (P := P) hs (Sto.cells_get hvs) hset (q2.rep len) (rep_oneCell q3 len)
        refine ⟨w', ?_, r3, by rw [nx_set]; exact r4⟩
        unfold R at hx
        obtain ⟨ad, k, rfl, _, hk, _, hl⟩ := hx
        unfold Builtin.clear_
        cases len with
        | zero =>
          have : w' = w := by
            have : ((Array.range (0 * Z.cells.size)).map (Z.cells[· % Z.cells.size]!)).toList = [] := by simp
            rw [this] at r2; simp [storeCells] at r2; exact r2.symm
          subst this
          simp [run_underlying' hu]
        | succ n =>
          rw [(hl c o r1).1 (by omega)]
          simp only [Array.toList_map, Array.toList_range] at r2
          simp [run_underlying' hu, run_zeroValue' e1 q1, zeroCells_eq, r2]
      · cases h
    · cases h
  · cases h
    unfold R at hx
    obtain ⟨rfl, _⟩ := hx
    refine ⟨rfl, w, ?_, hs, Ext.refl _ _ _⟩
    unfold Builtin.clear_; simp [run_underlying' hu]
  · cases h
    unfold R at hx
    obtain ⟨ad, k, rfl, _⟩ := hx
    refine ⟨rfl, w, ?_, hs, Ext.refl _ _ _⟩
    unfold Builtin.clear_; simp [run_underlying' hu]
  · cases h

theorem lim_bytes {c b : Nat} (h : c * (b + 1) ≤ sizeLim) : c ≤ sizeLim ∧ c * b ≤ sizeLim := by
  have h1 : c * 1 ≤ c * (b + 1) := Nat.mul_le_mul_left _ (by omega)
  have h2 : c * b ≤ c * (b + 1) := Nat.mul_le_mul_left _ (by omega)
  constructor <;> omega

theorem wrap_small {n : Nat} (h : n ≤ sizeLim) : IntKind.i64.wrap (Int.ofNat n) = Int.ofNat n :=
  wrap_of_inKind .i64 _ (by simp only [inKind]; rw [Nat.ble_eq]; unfold sizeLim at h; omega)

theorem sMakeSlice_sound (hs : Sim P C w σ) {t e : TypeId} {ti te : TI} (hti : tiOf P t = some ti) (hd : ti.desc = .slice e) (hte : tiOf P e = some te) {z : List AV} (hz : te.zero = some z) (hzl : z.length = te.size)
    {l c : AV} {L K : Value} (hl : R C (nx σ) w l L) (hc : R C (nx σ) w c K) {v : AV} (h : sMakeSlice z te.size te.bytes l c σ = some (v, σ')) : RunsV P C w σ (Instr.makeSlice t L K) v σ' := by
  obtain ⟨i, d, g1, g2, g3, g4, _, _, _⟩ := tiOf_spec hti
  obtain ⟨ei, ed, e1, e2, e3, e4, e5, e6, e7⟩ := tiOf_spec hte
  rw [e6] at hz
  obtain ⟨Z, q1, q2, q3, _, _⟩ := zeroA_spec (C := C) (w := w) (N := nx σ) hz
  have hu := g2.trans (by rw [← g3, hd])
  have hZ : Z.cells.size = ei.size := by have := q2.length; simp at this; omega
  unfold sMakeSlice at h
  split at h
  · rename_i n m
    cases hb : (Nat.ble n m && Nat.ble (m * (te.bytes + 1)) sizeLim)
    · simp [hb] at h
    · simp only [hb, cond_true, Option.some.injEq, Prod.mk.injEq] at h
      obtain ⟨rfl, rfl⟩ := h
      simp only [Bool.and_eq_true, Nat.ble_eq] at hb
      obtain ⟨hb1, hb2⟩ := hb
      obtain ⟨hb3, hb4⟩ := lim_bytes hb2
      unfold R at hl hc
      subst hl hc
      obtain ⟨zc, r1, r2⟩ := run_zeros (P := P) (w := w) e1 q1 hZ m
      have p := pu_push w (.cells ((Array.range (m * Z.cells.size)).map (Z.cells[· % Z.cells.size]!)) e (0, 0))
      obtain ⟨s1, s2⟩ := newCells hs p (q2.rep m) (rep_oneCell q3 m) (fun i v hi => by rwa [Array.getElem?_toList] at hi)
      refine ⟨.slice (some ⟨w.heap.size, 0, none⟩) n m, _, _, _, ?_, rfl, s1, by rw [nx_new]; exact s2, ?_⟩
      · unfold Instr.makeSlice
        simp only [Sem.run_bind, Result.andThen_ok, run_underlying' hu, asInt, asIntOf, Sem.run_pure, run_typeInfo' e1, wrap_small hb3, wrap_small (Nat.le_trans hb1 hb3)]
        have hm : ¬ ((ei.bytes : Int) * (m : Int) > 2 ^ 48) := by
          rw [e5] at hb4
          have h1 : ei.bytes * m ≤ sizeLim := by rw [Nat.mul_comm]; exact hb4
          have h2 := Int.ofNat_le.2 h1
          rw [Int.natCast_mul] at h2
          have h3 : ((sizeLim : Nat) : Int) < 2 ^ 48 := by decide
          generalize (ei.bytes : Int) * (m : Int) = q at *
          generalize (2 : Int) ^ 48 = r at *
          omega
        rw [Sem.run_ite, if_neg]
        · simp only [Sem.run_bind, run_askRoom, Result.andThen_ok, run_sizeOf' e1, Int.toNat_natCast, Int.ofNat_eq_natCast, r1]
          rw [r2]
          simp [newRow]
        · simp only [Int.ofNat_eq_natCast, Bool.or_eq_true, decide_eq_true_eq, not_or]
          refine ⟨⟨⟨by omega, hm⟩, by omega⟩, by omega⟩
      · rw [nx_new]
        refine R.newSlice (Nat.lt_succ_self _) (Ctx.add_loc ..) hb1 (fun q hq => by cases hq; rfl) ?_
        rw [csize_cells p.here]
        simp [hZ, e4]
  · cases h

end
end Go.AM

/- Conversions, lengths, parts of arrays: sound. -/
namespace Go.AM
open Go

section
variable {P : Program} {C C' : Ctx} {N N' : Nat} {w w' : World} {σ σ' : Sto}

theorem RL.take : ∀ (n : Nat) {l : List AV} {vs : List Value}, RL C N w l vs → RL C N w (l.take n) (vs.take n)
  | 0, _, _, _ => by simp only [List.take_zero]; unfold RL; trivial
  | n + 1, [], [], _ => by simp only [List.take_nil]; unfold RL; trivial
  | n + 1, x :: r, v :: s, h => by
    unfold RL at h
    simp only [List.take_succ_cons]; unfold RL
    exact ⟨h.1, RL.take n h.2⟩
  | _ + 1, [], _ :: _, h => by unfold RL at h; exact h.elim
  | _ + 1, _ :: _, [], h => by unfold RL at h; exact h.elim

theorem part_sound {t : TypeId} {tf : TI} (htf : tiOf P t = some tf) {cs : List AV} {a : Array Value} (q1 : RL C N w cs a.toList) (q2 : ∀ x ∈ a.toList, x.oneCell = true) {off : Nat} {v : AV} (h : loadFrom tf (cs.drop off) = some v) :
    PureR P C N w (part t a off) v := by
  obtain ⟨fi, fd, g1, g2, g3, g4, _, _, g5⟩ := tiOf_spec htf
  unfold loadFrom at h
  unfold part PureR
  simp only [Sem.run_bind, run_isAgg' g2, Result.andThen_ok]
  rw [← g5]
  have hd := q1.drop off
  cases ha : tf.isAgg
  · simp only [ha] at h
    simp only [Bool.false_eq_true, if_false]
    split at h
    · rename_i u r he
      cases h
      have : (cs.drop off)[0]? = some v := by rw [he]; rfl
      obtain ⟨x, k1, k2⟩ := hd.get 0 v this
      have : a[off]? = some x := by simpa using k1
      exact ⟨x, by simp [this], k2⟩
    · cases h
  · simp only [ha] at h
    split at h
    · rename_i l hl
      cases h
      refine ⟨.agg (a.extract off (off + fi.size)), by simp [run_sizeOf' g1], ?_⟩
      obtain ⟨t1, t2⟩ := takeN_eq hl
      unfold R
      refine ⟨_, rfl, ?_, ?_⟩
      · have e : (a.extract off (off + fi.size)).toList = (a.toList.drop off).take tf.size := by
          rw [g4]; simp [List.drop_take]
        rw [e, t1]
        exact hd.take _
      · intro y hy
        refine q2 y ?_
        simp at hy
        have hm : y ∈ (a.toList.drop off).take fi.size := by simpa [List.drop_take] using hy
        exact List.mem_of_mem_drop (List.mem_of_mem_take hm)
    · cases h

theorem sIndexArr_sound {t e : TypeId} {len : Nat} {ti te : TI} (hti : tiOf P t = some ti) (hd : ti.desc = .array len e) (hte : tiOf P e = some te) {x i : AV} {X I : Value} (hx : R C N w x X) (hi : R C N w i I) {v : AV}
    (h : sIndexArr te len x i σ = some (v, σ')) : σ' = σ ∧ PureR P C N w (Instr.index t X I) v := by
  obtain ⟨_, d, _, h2, h3, _⟩ := tiOf_spec hti
  obtain ⟨ei, _, g1, _, _, g4, _⟩ := tiOf_spec hte
  have hu := h2.trans (by rw [← h3, hd])
  unfold sIndexArr at h
  split at h
  · rename_i cs k n
    cases hb : Nat.blt n len
    · simp [hb] at h
    · simp only [hb, cond_true] at h
      split at h
      · rename_i u hu'
        cases h
        have hlt : n < len := Nat.le_of_ble_eq_true hb
        unfold R at hx hi
        subst hi
        obtain ⟨a, rfl, q1, q2⟩ := hx
        obtain ⟨z, k1, k2⟩ := part_sound (P := P) hte q1 q2 hu'
        refine ⟨rfl, z, ?_, k2⟩
        unfold Instr.index
        simp only [asIntOf, Sem.run_bind, Sem.run_pure, Result.andThen_ok, run_underlying' hu]
        rw [if_pos ⟨by simp, by simpa using hlt⟩]
        rw [g4] at k1
        simp [run_sizeOf' g1, k1]
      · cases h
  · cases h

/- ===== the first cells of a slice or a string ===== -/
theorem loadCells_zero (a : Addr) : (loadCells a 0).run P w = .ok #[] w := rfl

theorem byteAVs_get : ∀ (l : List Nat) (i : Nat), (byteAVs l)[i]? = (l[i]?).map fun b => .int .u8 (.ofNat b)
  | [], i => by simp [byteAVs]
  | b :: r, 0 => by simp [byteAVs]
  | b :: r, i + 1 => by simp [byteAVs, byteAVs_get r i]

theorem byteAVs_length (l : List Nat) : (byteAVs l).length = l.length := by induction l with | nil => rfl | cons b r ih => simp [byteAVs, ih]

theorem RL.bytes (s : ByteArray) : RL C N w (byteAVs (bytesOf s)) ((s.data.map fun b => Value.int .u8 b.toNat).toList) := by
  refine RL.of_get (by rw [byteAVs_length]; simp [bytesOf]) fun i x hi => ?_
  rw [byteAVs_get] at hi
  unfold bytesOf at hi
  simp only [List.getElem?_map, Option.map_map, Option.map_eq_some_iff] at hi
  obtain ⟨b, h1, h2⟩ := hi
  refine ⟨.int .u8 b.toNat, by simp only [Array.toList_map, List.getElem?_map, h1]; rfl, ?_⟩
  rw [← h2]; unfold R; rfl

theorem bytes_oneCell (s : ByteArray) : ∀ x ∈ (s.data.map fun b => Value.int .u8 b.toNat).toList, x.oneCell = true := by
  intro x hx
  simp only [Array.toList_map, List.mem_map] at hx
  obtain ⟨b, _, rfl⟩ := hx; rfl

theorem run_loadCellsFrom' : ∀ (cs : List AV) (c o i : Nat) (acc : Array Value), RC C N w c cs (o + i) →
    ∃ l, (∀ k, (loadCellsFrom ⟨c, o, none⟩ i cs.length acc).run P { w with drawn := k } = .ok (acc ++ l.toArray) { w with drawn := k }) ∧ RL C N w cs l ∧ ∀ x ∈ l, x.oneCell = true
  | [], c, o, i, acc, _ => ⟨[], by simp [loadCellsFrom], by unfold RL; trivial, by simp⟩
  | x :: r, c, o, i, acc, h => by
    unfold RC at h
    obtain ⟨⟨v, h1, h2, h3⟩, h4⟩ := h
    obtain ⟨l, k1, k2, k3⟩ := run_loadCellsFrom' r c o (i + 1) (acc.push v) h4
    refine ⟨v :: l, fun k => ?_, by unfold RL; exact ⟨h3, k2⟩, by simpa [h2] using k3⟩
    have h1' : World.cell? { w with drawn := k } ⟨c, o + i, none⟩ = some v := h1
    simp only [List.length_cons, loadCellsFrom, Sem.run_bind, run_load, add_off, h1', Result.andThen_ok, k1]
    simp

theorem run_loadCells' {cs : List AV} {c o : Nat} (h : RC C N w c cs o) :
    ∃ a, (∀ k, (loadCells ⟨c, o, none⟩ cs.length).run P { w with drawn := k } = .ok a { w with drawn := k }) ∧ RL C N w cs a.toList ∧ ∀ x ∈ a.toList, x.oneCell = true := by
  obtain ⟨l, h1, h2, h3⟩ := run_loadCellsFrom' (P := P) cs c o 0 #[] h
  exact ⟨l.toArray, by simpa [loadCells] using h1, by simpa using h2, by simpa using h3⟩

theorem firstCells_sound (hs : Sim P C w σ) {x : AV} {X : Value} (hx : R C (nx σ) w x X) {sz n m : Nat} (hl : lenA x = some m) (hn : n ≤ m) {cs : List AV} (h : srcCells σ sz x n = some cs) :
    (∀ w', (Builtin.lenOf X).run P w' = .ok m w') ∧ ∃ a, (∀ k, (Builtin.firstCells sz n X).run P { w with drawn := k } = .ok a { w with drawn := k }) ∧ RL C (nx σ) w cs a.toList ∧ (∀ y ∈ a.toList, y.oneCell = true) ∧ cs.length = n * sz := by
  unfold srcCells at h
  split at h
  · rename_i b off sz' len cap
    simp only [lenA, Option.some.injEq] at hl; subst hl
    split at h
    · rename_i vs hvs
      unfold R at hx
      obtain ⟨ad, k, rfl, _, hk, _, hloc⟩ := hx
      refine ⟨fun _ => rfl, ?_⟩
      have hlen := (takeN_eq h).2
      rcases Nat.eq_zero_or_pos n with h0 | h0
      · subst h0
        rw [Nat.zero_mul] at h hlen ⊢
        simp [takeN] at h; subst h
        refine ⟨#[], fun _ => by unfold Builtin.firstCells; rw [Nat.zero_mul]; rfl, by unfold RL; trivial, by simp, rfl⟩
      · obtain ⟨c, o, cs', T, k1, k2, k3⟩ := hs.obj b _ (Sto.cells_get hvs)
        have e := (hloc c o k1).1 (by omega)
        obtain ⟨a, r1, r2, r3⟩ := run_loadCells' (P := P) ((k3.drop off).take _ h)
        refine ⟨a, ?_, r2, r3, hlen⟩
        unfold Builtin.firstCells
        rw [e, ← hlen]; exact r1
    · cases h
  · rename_i cs' sz' len cap
    simp only [lenA, Option.some.injEq] at hl; subst hl
    unfold R at hx
    obtain ⟨ad, k, rfl, hk, _, hcl, hsp, hown, hrc⟩ := hx
    refine ⟨fun _ => rfl, ?_⟩
    have hlen := (takeN_eq h).2
    rcases Nat.eq_zero_or_pos n with h0 | h0
    · subst h0
      rw [Nat.zero_mul] at h hlen ⊢
      simp [takeN] at h; subst h
      refine ⟨#[], fun _ => by unfold Builtin.firstCells; rw [Nat.zero_mul]; rfl, by unfold RL; trivial, by simp, rfl⟩
    · have e := hsp (by omega)
      obtain ⟨b, o, sp⟩ := ad
      simp only at e; subst e
      obtain ⟨a, r1, r2, r3⟩ := run_loadCells' (P := P) (hrc.take _ h)
      refine ⟨a, ?_, r2, r3, hlen⟩
      unfold Builtin.firstCells
      rw [← hlen]; exact r1
  · simp only [lenA, Option.some.injEq] at hl; subst hl
    split at h
    · cases h
      unfold R at hx
      obtain ⟨rfl, _⟩ := hx
      exact ⟨fun _ => rfl, #[], fun _ => rfl, by unfold RL; trivial, by simp, by simp⟩
    · cases h
  · rename_i l
    simp only [lenA, Option.some.injEq] at hl; subst hl
    unfold R at hx
    obtain ⟨s, rfl, rfl⟩ := hx
    split at h
    · refine ⟨fun _ => by unfold Builtin.lenOf; rw [bytesOf_length]; rfl, ?_⟩
      obtain ⟨t1, t2⟩ := takeN_eq h
      have e : ((s.extract 0 n).data.map fun b => Value.int .u8 b.toNat).toList = ((s.data.map fun b => Value.int .u8 b.toNat).toList).take n := by
        simp [ByteArray.data_extract, List.map_take]
      refine ⟨_, fun _ => rfl, by rw [e, t1]; exact (RL.bytes s).take n, bytes_oneCell _, by omega⟩
    · cases h
  · cases h

/- ===== conversions ===== -/
theorem avBytes_spec : ∀ {cs : List AV} {l : List Nat} {vs : List Value}, avBytes cs = some l → RL C N w cs vs → ∃ bs : List UInt8, vs = bs.map (fun b => Value.int .u8 b.toNat) ∧ bs.map UInt8.toNat = l
  | [], l, vs, h, hr => by
    simp only [avBytes, Option.some.injEq] at h; subst h
    cases vs with
    | nil => exact ⟨[], rfl, rfl⟩
    | cons v s => unfold RL at hr; exact hr.elim
  | x :: r, l, vs, h, hr => by
    unfold avBytes at h
    split at h
    · rename_i heq; cases heq
    · rename_i n r' heq
      cases heq
      split at h
      · rename_i l' hl'
        cases hb : Nat.blt n 256
        · simp [hb] at h
        · simp only [hb, cond_true, Option.some.injEq] at h; subst h
          have hlt : n < 256 := Nat.le_of_ble_eq_true hb
          cases vs with
          | nil => unfold RL at hr; exact hr.elim
          | cons v s =>
            unfold RL at hr
            obtain ⟨bs, k1, k2⟩ := avBytes_spec hl' hr.2
            have hv := hr.1
            unfold R at hv
            refine ⟨UInt8.ofNat n :: bs, ?_, ?_⟩
            · rw [hv, k1]; simp [Nat.mod_eq_of_lt hlt]
            · simp [k2, Nat.mod_eq_of_lt hlt]
      · cases h
    · cases h

end
end Go.AM

/- Conversions and 'append', run. -/
namespace Go.AM
open Go

section
variable {P : Program} {C C' : Ctx} {N N' : Nat} {w w' : World} {σ σ' : Sto}

theorem sConvInt_sound {s d : TypeId} {ts : TypeDesc} {k : IntKind} (hs : P.underlying s = some ts) (hd : P.underlying d = some (.int k)) {x : AV} {X : Value} (hx : R C N w x X) {v : AV} (h : sConvInt k x σ = some (v, σ')) :
    σ' = σ ∧ PureR P C N w (convert s d X) v := by
  unfold sConvInt at h
  split at h
  · cases h
    unfold R at hx; subst hx
    refine ⟨rfl, _, ?_, by rw [mkInt_eq]; unfold R; rfl⟩
    unfold convert
    simp only [Sem.run_bind, run_underlying' hs, run_underlying' hd, Result.andThen_ok, Conv.intToInt, Sem.run_pure]
  · cases h

theorem sConvStr_sound {s d : TypeId} {ts : TypeDesc} (hs : P.underlying s = some ts) (hd : P.underlying d = some .string) {x : AV} {X : Value} (hx : R C N w x X) {v : AV} (h : sConvStr x σ = some (v, σ')) :
    σ' = σ ∧ PureR P C N w (convert s d X) v := by
  unfold sConvStr at h
  split at h
  · cases h
    refine ⟨rfl, X, ?_, hx⟩
    unfold R at hx
    obtain ⟨b, rfl, _⟩ := hx
    unfold convert
    simp only [Sem.run_bind, run_underlying' hs, run_underlying' hd, Result.andThen_ok, Sem.run_pure]
  · cases h

theorem lenA_nil {X : Value} {n : Nat} (h : lenA (.nil X) = some n) : X = .slice none 0 0 ∧ n = 0 := by
  unfold lenA at h
  split at h
  · rename_i heq; cases heq
  · rename_i heq; cases heq
  · rename_i heq; cases heq; cases h; exact ⟨rfl, rfl⟩
  · rename_i heq; cases heq
  · cases h

theorem forIn_push (f : Value → ByteArray → Sem (ForInStep ByteArray)) (hf : ∀ (b : UInt8) (acc : ByteArray), f (.int .u8 b.toNat) acc = pure (ForInStep.yield (acc.push b))) : ∀ (bs : List UInt8) (acc : ByteArray),
    (forIn (bs.map fun b => Value.int .u8 b.toNat) acc f : Sem ByteArray).run P w = .ok ⟨acc.data ++ bs.toArray⟩ w
  | [], acc => by simp
  | b :: r, acc => by
    simp only [List.map_cons, List.forIn_cons, hf, Sem.run_bind, Sem.run_pure, Result.andThen_ok]
    rw [forIn_push f hf r]
    congr 1
    congr 1
    simp [ByteArray.push]

theorem sConvOfBytes_sound (hs : Sim P C w σ) {s d e : TypeId} (hsu : P.underlying s = some (.slice e)) (hd : P.underlying d = some .string) (he : P.underlying e = some (.int .u8)) {x : AV} {X : Value} (hx : R C (nx σ) w x X) {v : AV}
    (h : sConvOfBytes x σ = some (v, σ')) : σ' = σ ∧ PureR P C (nx σ) w (convert s d X) v := by
  unfold sConvOfBytes at h
  split at h
  · rename_i n hns hn
    split at h
    · rename_i cs hcs
      split at h
      · rename_i l hl
        cases h
        refine ⟨rfl, ?_⟩
        obtain ⟨_, a, q1, q2, _, _⟩ := firstCells_sound (P := P) hs hx hn (Nat.le_refl _) hcs
        obtain ⟨bs, k1, k2⟩ := avBytes_spec hl q2
        have q1 := q1 w.drawn
        have hconv : ∀ base len cap, X = .slice base len cap → PureR P C (nx σ) w (Conv.bytesToString X) (.str l) → PureR P C (nx σ) w (convert s d X) (.str l) := by
          rintro base len cap rfl ⟨z, z1, z2⟩
          refine ⟨z, ?_, z2⟩
          unfold convert
          simp only [Sem.run_bind, run_underlying' hsu, run_underlying' hd, Result.andThen_ok, run_underlying' he]
          exact z1
        have main : ∀ base k, X = .slice base n k → PureR P C (nx σ) w (Conv.bytesToString X) (.str l) := by
          intro base k hX
          subst hX
          cases base with
          | none =>
            have : a = #[] := by
              have : (Builtin.firstCells 1 n (.slice none n k)).run P w = .ok #[] w := rfl
              rw [this] at q1; cases q1; rfl
            subst this
            have hb : bs = [] := by simpa using k1.symm
            subst hb
            simp at k2; subst k2
            exact ⟨.string .empty, rfl, by unfold R; exact ⟨_, rfl, rfl⟩⟩
          | some ad =>
            refine ⟨.string ⟨bs.toArray⟩, ?_, by unfold R; exact ⟨_, rfl, by simpa [bytesOf] using k2⟩⟩
            unfold Builtin.firstCells at q1
            rw [Nat.mul_one] at q1
            unfold Conv.bytesToString
            simp only [Sem.run_bind, q1, Result.andThen_ok]
            rw [← Array.forIn_toList, k1]
            rw [forIn_push _ (fun b acc => by simp) bs]
            simp
        unfold R at hx
        split at hx <;> first | (simp [lenA] at hn; done) | (simp [noStr] at hns; done) | skip
        · rename_i y
          obtain ⟨rfl, hnil⟩ := hx
          obtain ⟨rfl, rfl⟩ := lenA_nil hn
          exact hconv _ _ _ rfl (main _ _ rfl)
        · obtain ⟨ad, k, rfl, _⟩ := hx
          simp only [lenA, Option.some.injEq] at hn; subst hn
          exact hconv _ _ _ rfl (main _ _ rfl)
        · obtain ⟨ad, k, rfl, _⟩ := hx
          simp only [lenA, Option.some.injEq] at hn; subst hn
          exact hconv _ _ _ rfl (main _ _ rfl)
      · cases h
    · cases h
  · cases h

theorem grownCap_le (w : World) (need old : Nat) (e : TypeId) : need ≤ grownCap w need old e := by
  unfold grownCap Question.cut; simp

theorem sConvToBytes_sound (hs : Sim P C w σ) {s d e : TypeId} (hsu : P.underlying s = some .string) (hd : P.underlying d = some (.slice e)) (he : P.underlying e = some (.int .u8)) {x : AV} {X : Value} (hx : R C (nx σ) w x X) {v : AV}
    (h : sConvToBytes x σ = some (v, σ')) : σ' = σ ∧ RunsV P C w σ (convert s d X) v σ' := by
  unfold sConvToBytes at h
  split at h
  · rename_i l
    unfold R at hx
    obtain ⟨b, rfl, hb⟩ := hx
    have key : v = .sv (byteAVs l) 1 l.length none ∧ σ' = σ := by
      split at h
      · cases h; exact ⟨rfl, rfl⟩
      · cases h; exact ⟨rfl, rfl⟩
    obtain ⟨rfl, rfl⟩ := key
    refine ⟨rfl, ?_⟩
    have hsz : l.length = b.size := by rw [← hb, bytesOf_length]
    let cs : Array Value := (b.data.map fun b => Value.int .u8 b.toNat) ++ Array.replicate (grownCap w b.size 0 e - b.size) (.int .u8 0)
    let w' : World := ({ w with heap := w.heap.push (.cells cs e (0, 0)), drawn := w.drawn + 1 } : World).freeze ⟨w.heap.size, cs.size, none⟩ 1
    have hrun : (convert s d (.string b)).run P w = .ok (.slice (some ⟨w.heap.size, 0, none⟩) b.size (grownCap w b.size 0 e)) w' := by
      unfold convert
      simp only [Sem.run_bind, run_underlying' hsu, run_underlying' hd, Result.andThen_ok, run_underlying' he]
      unfold Conv.stringToBytes
      simp [-World.alloc_eq, -World.drew_eq, Question.forced, newRow, markStringish, World.shape?, grownCap, w', cs]
    have hp : ∃ fz, Pu w w' (.cells cs e fz) := by
      refine ⟨(cs.size, cs.size + 1), by simp [w', World.freeze], ?_, fun x hx => ?_, by simp [w', World.freeze]⟩
      · simp [w', World.freeze, Array.getElem_modify]
      · simp only [w', World.freeze]
        rw [if_neg (by decide)]
        simp only [Array.getElem?_modify]
        rw [if_neg (by omega)]
        rw [Array.getElem?_push_lt hx]; exact (Array.getElem?_eq_getElem hx).symm
    obtain ⟨fz, p⟩ := hp
    obtain ⟨s1, s2⟩ := hs.push p
    refine ⟨_, _, w', C, hrun, rfl, s1, s2, ?_⟩
    unfold R
    refine ⟨_, _, by rw [hsz], by rw [hsz]; exact grownCap_le _ _ _ _, fun q hq => (by cases hq), by rw [byteAVs_length, Nat.mul_one], fun _ => rfl, fun _ ho => ?_, ?_⟩
    · have := hs.own_lt ho; simp at this
    · refine RC.of_cells p.here (vs := (b.data.map fun b => Value.int .u8 b.toNat).toList) (by rw [← hb]; exact RL.bytes b) (bytes_oneCell b) fun i v hi => ?_
      have hlt := (List.getElem?_eq_some_iff.1 hi).1
      rw [Nat.zero_add]
      rw [Array.getElem?_append_left (by simpa using hlt)]
      rwa [Array.getElem?_toList] at hi
  · cases h

end
end Go.AM

/- 'append' and 'copy': sound. -/
namespace Go.AM
open Go

section
variable {P : Program} {C C' : Ctx} {N N' : Nat} {w w' : World} {σ σ' : Sto}

/- what is appended: the first n elements of x, or n zeros -/
def Given (P : Program) (w : World) (e : TypeId) (ei : TypeInfo) (Z : Value) (t2 : TypeId) (x : Value) (n : Nat) (new : Array Value) : Prop :=
  (∃ d2, P.underlying t2 = some d2 ∧ (∀ k, d2 ≠ .int k) ∧ (∀ k, (Builtin.lenOf x).run P { w with drawn := k } = .ok n { w with drawn := k }) ∧ ∀ k, (Builtin.firstCells ei.size n x).run P { w with drawn := k } = .ok new { w with drawn := k }) ∨
  (∃ k, P.underlying t2 = some (.int k) ∧ x = .int .i64 (.ofNat n) ∧ n * (ei.bytes + 1) ≤ sizeLim ∧ new = Builtin.zeroCells Z.cells n)

theorem matches_int {d : TypeDesc} (h : ∀ k, d ≠ .int k) : (match d with | .int _ => true | _ => false) = false := by
  cases d <;> first | rfl | exact absurd rfl (h _)

theorem run_append_fit {t t2 ty e : TypeId} {ei : TypeInfo} {Z : Value} (ht : P.underlying t = some (.slice e)) (he : P.info? e = some ei) (hz : ei.zero = some Z) (hZ : Z.cells.size = ei.size) {base : Option Addr} {sLen sCap n : Nat} {x : Value} {new : Array Value}
    (hg : Given P w e ei Z t2 x n new) (hfit : sLen + n ≤ sCap) {w' : World}
    (hst : ∀ a, base = some a → (storeCells (a.add (sLen * ei.size)) new.toList).run P w = .ok () w') (hno : base = none → w' = w) :
    (Builtin.append_ #[t, t2] ty #[.slice base sLen sCap, x]).run P w = .ok (.slice base (sLen + n) sCap) w' := by
  rcases hg with ⟨d2, h1, h2, h3, h4⟩ | ⟨k, h1, rfl, h3, rfl⟩
  · have hl := h3 w.drawn
    have hf := h4 w.drawn
    have hm := matches_int h2
    cases base with
    | none =>
      rw [hno rfl]
      simp [Builtin.append_, run_underlying' ht, run_underlying' h1, hm, run_sizeOf' he, hl, hfit, hf]
    | some a =>
      have := hst a rfl
      simp [Builtin.append_, run_underlying' ht, run_underlying' h1, hm, run_sizeOf' he, hl, hfit, hf, this]
  · obtain ⟨h5, h6⟩ := lim_bytes h3
    have hw := wrap_small h5
    have hb : ¬ (281474976710656 < (n : Int) * (ei.bytes : Int)) := by
      have h2 := Int.ofNat_le.2 h6
      rw [Int.natCast_mul] at h2
      have h7 : ((sizeLim : Nat) : Int) ≤ 281474976710656 := by decide
      generalize (n : Int) * (ei.bytes : Int) = q at *
      omega
    have hn0 : ¬ ((n : Int) < 0) := by omega
    simp only [Int.ofNat_eq_natCast] at hw
    by_cases h0 : n * ei.size = 0
    · have hz0 : Builtin.zeroCells Z.cells n = #[] := by rw [zeroCells_eq, hZ, h0]; simp
      rw [hz0] at hst
      cases base with
      | none =>
        rw [hno rfl]
        simp [Builtin.append_, run_underlying' ht, run_underlying' h1, run_sizeOf' he, run_typeInfo' he, asInt, asIntOf, hw, hn0, hb, hfit, h0]
      | some a =>
        have := hst a rfl
        simp [Builtin.append_, run_underlying' ht, run_underlying' h1, run_sizeOf' he, run_typeInfo' he, asInt, asIntOf, hw, hn0, hb, hfit, h0, this]
    · cases base with
      | none =>
        rw [hno rfl]
        simp [Builtin.append_, run_underlying' ht, run_underlying' h1, run_sizeOf' he, run_typeInfo' he, asInt, asIntOf, hw, hn0, hb, hfit, h0, run_zeroValue' he hz]
      | some a =>
        have := hst a rfl
        simp [Builtin.append_, run_underlying' ht, run_underlying' h1, run_sizeOf' he, run_typeInfo' he, asInt, asIntOf, hw, hn0, hb, hfit, h0, run_zeroValue' he hz, this]

theorem run_append_make {t t2 ty e : TypeId} {ei : TypeInfo} {Z : Value} (ht : P.underlying t = some (.slice e)) (he : P.info? e = some ei) (hz : ei.zero = some Z) (hZ : Z.cells.size = ei.size) {base : Option Addr} {sLen sCap n : Nat} {x : Value} {old new : Array Value}
    (hg : Given P w e ei Z t2 x n new) (hgrow : sCap < sLen + n) (hlim : (sLen + n) * (ei.bytes + 1) ≤ sizeLim)
    (hold : ∀ k, (Builtin.firstCells ei.size sLen (.slice base sLen sCap)).run P { w with drawn := k } = .ok old { w with drawn := k }) :
    ∃ rest, (Builtin.append_ #[t, t2] ty #[.slice base sLen sCap, x]).run P w = .ok (.slice (some ⟨w.heap.size, 0, none⟩) (sLen + n) (grownCap w (sLen + n) sCap e))
      { w with heap := w.heap.push (.cells (old ++ new ++ rest) e), drawn := w.drawn + 1 } ∧ rest.size = (grownCap w (sLen + n) sCap e - (sLen + n)) * ei.size := by
  refine ⟨Builtin.zeroCells Z.cells (grownCap w (sLen + n) sCap e - (sLen + n)), ?_, by rw [zeroCells_eq, hZ]; simp⟩
  obtain ⟨l1, l2⟩ := lim_bytes hlim
  have hn : ¬ (sLen + n ≤ sCap) := by omega
  have h63' : ¬ (9223372036854775807 < ((sLen : Int) + (n : Int))) := by unfold sizeLim at l1; omega
  have hfit : Builtin.nextslicecap (sLen + n) sCap * ei.bytes ≤ 281474976710656 := growslice_fits hgrow (by unfold sizeLim at l2; omega)
  have h48' : ¬ (281474976710656 < Builtin.nextslicecap (sLen + n) sCap * ei.bytes) := by omega
  have ho : ∀ k, (Builtin.firstCells ei.size sLen (.slice base sLen sCap)).run P { w with drawn := k } = .ok old { w with drawn := k } := hold
  rcases hg with ⟨d2, h1, h2, h3, h4⟩ | ⟨k, h1, rfl, h3, rfl⟩
  · have hl := h3 w.drawn
    have hf := h4 (w.drawn + 1)
    have ho' := ho (w.drawn + 1)
    have hm := matches_int h2
    simp [-World.drew_eq, Builtin.append_, run_underlying' ht, run_underlying' h1, hm, run_sizeOf' he, run_typeInfo' he, hl, hn, h63', h48', Question.forced, hf, ho', newRow, grownCap, run_zeroValue' he hz]
    rfl
  · obtain ⟨h5, h6⟩ := lim_bytes h3
    have hw := wrap_small h5
    have hb : ¬ (281474976710656 < (n : Int) * (ei.bytes : Int)) := by
      have h2 := Int.ofNat_le.2 h6
      rw [Int.natCast_mul] at h2
      have h7 : ((sizeLim : Nat) : Int) ≤ 281474976710656 := by decide
      generalize (n : Int) * (ei.bytes : Int) = q at *
      omega
    have hn0 : ¬ ((n : Int) < 0) := by omega
    have ho' := ho (w.drawn + 1)
    simp only [Int.ofNat_eq_natCast] at hw
    by_cases h0 : n * ei.size = 0
    · have hz0 : Builtin.zeroCells Z.cells n = #[] := by rw [zeroCells_eq, hZ, h0]; simp
      rw [hz0]
      simp [-World.drew_eq, Builtin.append_, run_underlying' ht, run_underlying' h1, run_sizeOf' he, run_typeInfo' he, asInt, asIntOf, hw, hn0, hb, hn, h63', h48', Question.forced, ho', newRow, grownCap, run_zeroValue' he hz, h0]
      rfl
    · simp [-World.drew_eq, Builtin.append_, run_underlying' ht, run_underlying' h1, run_sizeOf' he, run_typeInfo' he, asInt, asIntOf, hw, hn0, hb, hn, h63', h48', Question.forced, ho', newRow, grownCap, run_zeroValue' he hz, h0]
      rfl

end
end Go.AM

/- 'append' and 'copy': sound. -/
namespace Go.AM
open Go

section
variable {P : Program} {C C' : Ctx} {N N' : Nat} {w w' : World} {σ σ' : Sto}

theorem Sto.get_cells {a : Nat} {vs : List AV} (h : σ.get a = some (.cells vs)) : σ.cells a = some vs := by
  unfold Sto.cells; rw [h]

/- the old cells of the slice that is grown -/
theorem grow_sound (hs : Sim P C w σ) {t t2 ty e : TypeId} {ei : TypeInfo} {Z : Value} {sz bytes : Nat} (ht : P.underlying t = some (.slice e)) (he : P.info? e = some ei) (hsz : sz = ei.size) (hby : bytes = ei.bytes) (hz : ei.zero = some Z) (hZ : Z.cells.size = ei.size)
    {base : Option Addr} {sLen sCap n : Nat} {y : Value} {old new : Array Value} {oldA newA : List AV} (hg : Given P w e ei Z t2 y n new)
    (hold : ∀ k, (Builtin.firstCells ei.size sLen (.slice base sLen sCap)).run P { w with drawn := k } = .ok old { w with drawn := k })
    (ho : RL C (nx σ) w oldA old.toList) (ho1 : ∀ x ∈ old.toList, x.oneCell = true) (hol : oldA.length = sLen * sz)
    (hn : RL C (nx σ) w newA new.toList) (hn1 : ∀ x ∈ new.toList, x.oneCell = true) (hnl : newA.length = n * sz)
    (hgrow : sCap < sLen + n) {v : AV} (h : growA sz bytes n newA oldA sLen σ = some (v, σ')) :
    RunsV P C w σ (Builtin.append_ #[t, t2] ty #[.slice base sLen sCap, y]) v σ' := by
  unfold growA at h
  cases hb : Nat.ble ((sLen + n) * (bytes + 1)) sizeLim
  · simp [hb] at h
  · simp only [hb, cond_true, forceN_eq, Option.some.injEq, Prod.mk.injEq] at h
    obtain ⟨rfl, rfl⟩ := h
    have hlim : (sLen + n) * (ei.bytes + 1) ≤ sizeLim := by rw [← hby]; exact Nat.le_of_ble_eq_true hb
    obtain ⟨rest, r1, r2⟩ := run_append_make (ty := ty) ht he hz hZ hg hgrow hlim hold
    have p := pu_drew w (.cells (old ++ new ++ rest) e (0, 0))
    obtain ⟨s1, s2⟩ := newCells hs p (ho.append hn) (fun x hx => (List.mem_append.1 hx).elim (ho1 x) (hn1 x)) (fun i v hi => by
      have hlt := (List.getElem?_eq_some_iff.1 hi).1
      rw [Array.getElem?_append_left (by simpa using hlt)]
      rw [← Array.getElem?_toList, Array.toList_append]; exact hi)
    refine ⟨_, _, _, _, r1, rfl, s1, by rw [nx_new]; exact s2, ?_⟩
    rw [nx_new]
    refine R.newSlice (Nat.lt_succ_self _) (Ctx.add_loc ..) (grownCap_le _ _ _ _) (fun q hq => by cases hq) ?_
    rw [csize_cells p.here]
    have h1 := ho.length
    have h2 := hn.length
    have h3 := grownCap_le w (sLen + n) sCap e
    simp only [Array.length_toList] at h1 h2
    simp only [Array.size_append, r2]
    rw [← h1, ← h2, hol, hnl, ← hsz, Nat.zero_add, ← Nat.add_mul, ← Nat.add_mul]
    exact Nat.mul_le_mul_right _ (by omega)

theorem RL.nil_iff {vs : List Value} : RL C N w [] vs → vs = [] := by
  cases vs with
  | nil => intro; rfl
  | cons v r => intro h; unfold RL at h; exact h.elim

theorem drop_take_app {vs old : List AV} {a b : Nat} (h : takeN b (vs.drop a) = some old) : ∀ (i : Nat) (x : AV), old[i]? = some x → vs[a + i]? = some x := by
  intro i x hi
  rw [(takeN_eq h).1, List.getElem?_take] at hi
  split at hi
  · rwa [List.getElem?_drop] at hi
  · cases hi

theorem appendA_sound (hs : Sim P C w σ) {t t2 ty e : TypeId} {ei : TypeInfo} {Z : Value} {sz bytes : Nat} (ht : P.underlying t = some (.slice e)) (he : P.info? e = some ei) (hsz : sz = ei.size) (hby : bytes = ei.bytes) (hz : ei.zero = some Z) (hZ : Z.cells.size = ei.size)
    {d : AV} {D y : Value} {n : Nat} {new : Array Value} {newA : List AV} (hd : R C (nx σ) w d D) (hg : Given P w e ei Z t2 y n new)
    (hn : RL C (nx σ) w newA new.toList) (hn1 : ∀ x ∈ new.toList, x.oneCell = true) (hnl : newA.length = n * sz) {v : AV} (h : appendA σ sz bytes d n newA = some (v, σ')) :
    RunsV P C w σ (Builtin.append_ #[t, t2] ty #[D, y]) v σ' := by
  cases n with
  | zero =>
    have hnew : new.toList = [] := RL.nil_iff (C := C) (N := nx σ) (w := w) (by rwa [show newA = [] from List.eq_nil_of_length_eq_zero (by omega)] at hn)
    have same : ∀ base len k, D = .slice base len k → len ≤ k → RunsV P C w σ (Builtin.append_ #[t, t2] ty #[D, y]) d σ := by
      rintro base len k rfl hk
      refine ⟨_, _, w, C, run_append_fit (ty := ty) (w' := w) ht he hz hZ hg (by omega) (fun a _ => by rw [hnew]; simp [storeCells]) (fun _ => rfl), rfl, hs, Ext.refl _ _ _, hd⟩
    simp only [appendA] at h
    split at h
    · cases h; unfold R at hd; obtain ⟨rfl, _⟩ := hd; exact same _ _ _ rfl (Nat.le_refl _)
    · cases h
      have hd' := hd
      unfold R at hd'; obtain ⟨ad, k, rfl, hk, _⟩ := hd'; exact same _ _ _ rfl hk
    · cases h
      have hd' := hd
      unfold R at hd'; obtain ⟨ad, k, rfl, _, hk, _⟩ := hd'; exact same _ _ _ rfl hk
    · cases h
  | succ n' =>
    simp only [appendA] at h
    split at h
    · unfold R at hd; obtain ⟨rfl, _⟩ := hd
      exact grow_sound (old := #[]) hs ht he hsz hby hz hZ hg (fun k => rfl) (by unfold RL; trivial) (by simp) (by simp) hn hn1 hnl (by omega) h
    · rename_i cs sz' len q
      cases hb : (Nat.beq sz' sz && !Nat.ble (len + (n' + 1)) q)
      · simp [hb] at h
      · simp only [hb, cond_true] at h
        simp only [Bool.and_eq_true, Bool.not_eq_true'] at hb
        have hsz' := Nat.eq_of_beq_eq_true hb.1
        have hq : ¬ (len + (n' + 1) ≤ q) := fun hle => by have := Nat.ble_eq_true_of_le hle; rw [this] at hb; cases hb.2
        have hd' := hd
        unfold R at hd'
        obtain ⟨ad, k, rfl, hk, hcap, hcl, _⟩ := hd'
        have hkq := hcap q rfl
        have hsrc : srcCells σ ei.size (.sv cs sz' len (some q)) len = some cs := by
          have : takeN (len * ei.size) cs = some cs := by
            have key : ∀ (l : List AV), takeN l.length l = some l := by
              intro l; induction l with
              | nil => rfl
              | cons x r ih => simp [takeN, ih]
            rw [← hsz, ← hsz', ← hcl]; exact key cs
          exact this
        obtain ⟨_, old, o1, o2, o3, o4⟩ := firstCells_sound (P := P) hs hd (m := len) rfl (Nat.le_refl _) hsrc
        exact grow_sound hs ht he hsz hby hz hZ hg o1 o2 o3 (by rw [hsz]; exact o4) hn hn1 hnl (by omega) h
    · rename_i a off sz' len cap
      cases hb : Nat.beq sz' sz
      · simp [hb] at h
      · simp only [hb, cond_true] at h
        have hsz' := Nat.eq_of_beq_eq_true hb
        split at h
        · cases h
        · rename_i vs hvs
          split at h
          · cases h
          · rename_i oldA hold
            have hgo := Sto.cells_get hvs
            have hd' := hd
            unfold R at hd'
            obtain ⟨ad, k, rfl, han, hk, hcap, hloc⟩ := hd'
            have hsrc : srcCells σ ei.size (.sr a off sz' len cap) len = some oldA := by
              simp only [srcCells, hvs, ← hsz]; exact hold
            obtain ⟨_, old, o1, o2, o3, o4⟩ := firstCells_sound (P := P) hs hd (m := len) rfl (Nat.le_refl _) hsrc
            rw [← hsz] at o4
            obtain ⟨c, o, cs, T, l1, l2, l3⟩ := hs.obj a _ hgo
            obtain ⟨had, hroom⟩ := hloc c o l1
            split at h
            · rename_i q
              have hkq := hcap q rfl
              subst hkq
              split at h
              · rename_i hfit
                have hfit := Nat.le_of_ble_eq_true hfit
                split at h
                · rename_i vs' hset
                  simp only [forceN_eq, Option.some.injEq, Prod.mk.injEq] at h
                  obtain ⟨rfl, rfl⟩ := h
                  obtain ⟨c', o', w', r1, r2, r3, r4⟩ := writeCells hs hgo hset hn hn1
                  rw [l1] at r1; cases r1
                  have e := had (by omega)
                  refine ⟨_, _, w', C, run_append_fit (ty := ty) ht he hz hZ hg hfit (fun b hb' => ?_) (fun hb' => by cases hb'), rfl, r3, by rw [nx_set]; exact r4, ?_⟩
                  · cases hb'
                    rw [e, add_off, ← hsz]; rw [Nat.add_assoc]; exact r2
                  · rw [nx_set]
                    unfold R
                    refine ⟨ad, k, rfl, han, hfit, fun q hq => by cases hq; rfl, fun c' o' hc' => ?_⟩
                    rw [l1] at hc'; cases hc'
                    exact ⟨fun _ => e, by rw [← hsz', r4.bsz a han c o l1]; exact hroom⟩
                · cases h
              · rename_i hfit
                have hq : ¬ (len + (n' + 1) ≤ k) := fun hle => by have := Nat.ble_eq_true_of_le hle; rw [this] at hfit; cases hfit
                exact grow_sound hs ht he hsz hby hz hZ hg o1 o2 o3 o4 hn hn1 hnl (by omega) h
            · by_cases hfit : len + (n' + 1) ≤ k
              · -- in place: the object is renamed
                unfold growA at h
                cases hb2 : Nat.ble ((len + (n' + 1)) * (bytes + 1)) sizeLim
                · simp [hb2] at h
                · simp only [hb2, cond_true, forceN_eq, Option.some.injEq, Prod.mk.injEq] at h
                  obtain ⟨rfl, rfl⟩ := h
                  have e := had (by omega)
                  have hnl' := hn.length
                  simp only [Array.length_toList] at hnl'
                  have hcs : csize w c = cs.size := csize_cells l2
                  rw [hcs] at hroom
                  have hm1 : (len + (n' + 1)) * sz ≤ k * sz := Nat.mul_le_mul_right _ hfit
                  rw [Nat.add_mul] at hm1
                  have hroom2 : o + (off + len * sz) + 0 + new.toList.length ≤ cs.size := by
                    simp only [Array.length_toList]; rw [hsz'] at hroom; omega
                  obtain ⟨w', r1, r2⟩ := run_storeCells (P := P) new.toList w c (o + (off + len * sz)) 0 cs T l2 hn1 hroom2
                  rw [Nat.add_zero] at r2 hroom2
                  have hcs' : csize w' c = cs.size := by rw [csize_cells r2.here, putL_size]
                  obtain ⟨s1, s2⟩ := hs.replace l1 r2 hgo (.cells (oldA ++ newA)) rfl (o' := o + off) (fun ex => by
                    refine ⟨c, o + off, _, T, by simp [Ctx.add], r2.here, ?_⟩
                    rw [nx_new, nx_kill]
                    refine RC.of_get fun i x hi => ?_
                    rw [cell_cells r2.here, putL_get _ _ _ hroom2]
                    by_cases hlt : i < oldA.length
                    · rw [List.getElem?_append_left hlt] at hi
                      rw [if_neg (by omega)]
                      obtain ⟨u, q1, q2, q3⟩ := l3.get _ x (drop_take_app hold i x hi)
                      rw [cell_cells l2] at q1
                      exact ⟨u, by rw [← q1]; congr 1; omega, q2, R.ext ex _ _ q3⟩
                    · rw [List.getElem?_append_right (by omega)] at hi
                      have hlt2 := (List.getElem?_eq_some_iff.1 hi).1
                      rw [if_pos (by simp only [Array.length_toList]; omega)]
                      obtain ⟨u, q1, q2⟩ := hn.get _ x hi
                      exact ⟨u, by rw [← q1]; congr 1; omega, hn1 u (List.mem_of_getElem? q1), R.ext ex _ _ q2⟩)
                  have hnxk : nx ((σ.kill a).new (.cells (oldA ++ newA))) = nx σ + 1 := by rw [nx_new, nx_kill]
                  refine ⟨_, _, w', _, run_append_fit (ty := ty) ht he hz hZ hg hfit (fun b hb' => ?_) (fun hb' => by cases hb'), rfl, s1, by rw [hnxk]; exact s2, ?_⟩
                  · cases hb'
                    rw [e, add_off, ← hsz, Nat.add_assoc]; exact r1
                  · rw [hnxk, nx_kill]
                    unfold R
                    refine ⟨ad, k, rfl, Nat.lt_succ_self _, hfit, fun q hq => (by cases hq), fun c' o' hc' => ?_⟩
                    simp only [Ctx.add, if_true] at hc'
                    cases hc'
                    exact ⟨fun _ => by rw [e, Nat.add_zero], by rw [hcs', ← hsz']; omega⟩
              · obtain ⟨k1, k2⟩ := hs.kill a
                have hnk : nx (σ.kill a) = nx σ := nx_kill σ a
                obtain ⟨yy, xx, w', C2, g1, g2, g3, g4, g5⟩ := grow_sound (σ := σ.kill a) (σ' := σ') k1 ht he hsz hby hz hZ hg o1 (by rw [hnk]; exact o2.ext k2) o3 o4 (by rw [hnk]; exact hn.ext k2) hn1 hnl (by omega) h
                exact ⟨yy, xx, w', C2, g1, g2, g3, k2.trans (by rwa [hnk] at g4), g5⟩
    · cases h

theorem zero_spec {e : TypeId} {te : TI} (hte : tiOf P e = some te) {z : List AV} (hz : te.zero = some z) (hzl : z.length = te.size) :
    ∃ ei Z, P.info? e = some ei ∧ te.size = ei.size ∧ te.bytes = ei.bytes ∧ ei.zero = some Z ∧ Z.cells.size = ei.size ∧ (∀ x ∈ Z.cells.toList, x.oneCell = true) ∧ ∀ (C : Ctx) (N : Nat) (w : World), RL C N w z Z.cells.toList := by
  obtain ⟨ei, ed, e1, e2, e3, e4, e5, e6, e7⟩ := tiOf_spec hte
  rw [e6] at hz
  obtain ⟨Z, q1, q2, q3, _, _⟩ := zeroA_spec (C := ⟨fun _ => none, fun _ => 0, fun _ => False⟩) (w := default) (N := 0) hz
  refine ⟨ei, Z, e1, e4, e5, q1, ?_, q3, fun C N w => ?_⟩
  · have := q2.length; simp at this; omega
  · obtain ⟨Z', q1', q2', _⟩ := zeroA_spec (C := C) (w := w) (N := N) hz
    rw [q1] at q1'; cases q1'; exact q2'

theorem sAppend_sound (hs : Sim P C w σ) {t t2 ty e : TypeId} {d2 : TypeDesc} {te : TI} (ht : P.underlying t = some (.slice e)) (hte : tiOf P e = some te) {z : List AV} (hz : te.zero = some z) (hzl : z.length = te.size)
    (h2 : P.underlying t2 = some d2) (hd2 : ∀ k, d2 ≠ .int k) {d s : AV} {D S : Value} (hd : R C (nx σ) w d D) (hS : R C (nx σ) w s S) {v : AV} (h : sAppend te.size te.bytes d s σ = some (v, σ')) :
    RunsV P C w σ (Builtin.append_ #[t, t2] ty #[D, S]) v σ' := by
  obtain ⟨ei, Z, e1, e2, e3, e4, e5, e6, e7⟩ := zero_spec hte hz hzl
  unfold sAppend at h
  split at h
  · rename_i n hn
    split at h
    · rename_i new hnew
      obtain ⟨f1, a, f2, f3, f4, f5⟩ := firstCells_sound (P := P) hs hS hn (Nat.le_refl _) hnew
      exact appendA_sound hs ht e1 e2 e3 e4 e5 hd (.inl ⟨d2, h2, hd2, fun k => f1 _, fun k => by rw [← e2]; exact f2 k⟩) f3 f4 f5 h
    · cases h
  · cases h

theorem sAppendZ_sound (hs : Sim P C w σ) {t t2 ty e : TypeId} {k : IntKind} {te : TI} (ht : P.underlying t = some (.slice e)) (hte : tiOf P e = some te) {z : List AV} (hz : te.zero = some z) (hzl : z.length = te.size)
    (h2 : P.underlying t2 = some (.int k)) {d s : AV} {D S : Value} (hd : R C (nx σ) w d D) (hS : R C (nx σ) w s S) {v : AV} (h : sAppendZ z te.size te.bytes d s σ = some (v, σ')) :
    RunsV P C w σ (Builtin.append_ #[t, t2] ty #[D, S]) v σ' := by
  obtain ⟨ei, Z, e1, e2, e3, e4, e5, e6, e7⟩ := zero_spec hte hz hzl
  unfold sAppendZ at h
  split at h
  · rename_i n
    cases hb : Nat.ble (n * (te.bytes + 1)) sizeLim
    · simp [hb] at h
    · simp only [hb, cond_true] at h
      unfold R at hS; subst hS
      refine appendA_sound hs ht e1 e2 e3 e4 e5 hd (.inr ⟨k, h2, rfl, by rw [← e3]; exact Nat.le_of_ble_eq_true hb, rfl⟩) ?_ ?_ ?_ h
      · rw [zeroCells_eq]; exact (e7 C _ w).rep n
      · rw [zeroCells_eq]; exact rep_oneCell e6 n
      · rw [rep_length, hzl]
  · cases h

theorem sCopy_sound (hs : Sim P C w σ) {t t2 ty e : TypeId} {te : TI} (ht : P.underlying t = some (.slice e)) (hte : tiOf P e = some te) {d s : AV} {D S : Value} (hd : R C (nx σ) w d D) (hS : R C (nx σ) w s S) {v : AV}
    (h : sCopy te.size d s σ = some (v, σ')) : RunsV P C w σ (Builtin.copy_ #[t, t2] ty #[D, S]) v σ' := by
  obtain ⟨ei, ed, e1, _, _, e4, _⟩ := tiOf_spec hte
  unfold sCopy at h
  split at h
  · rename_i dl sl hdl hsl
    split at h
    · rename_i cs hcs
      obtain ⟨f1, a, f2, f3, f4, f5⟩ := firstCells_sound (P := P) hs hS hsl (Nat.min_le_left sl dl) hcs
      have f1' := f1 w
      have f2' := f2 w.drawn
      rw [e4] at f2'
      split at h
      · rename_i b off sz len cap
        simp only [lenA, Option.some.injEq] at hdl; subst hdl
        split at h
        · rename_i vs hsz hvs
          split at h
          · rename_i vs' hset
            simp only [forceN_eq, Option.some.injEq, Prod.mk.injEq] at h
            obtain ⟨rfl, rfl⟩ := h
            obtain ⟨c, o, w', r1, r2, r3, r4⟩ := writeCells hs (Sto.cells_get hvs) hset f3 f4
            unfold R at hd
            obtain ⟨ad, k, rfl, _, hk, _, hloc⟩ := hd
            refine ⟨_, _, w', C, ?_, rfl, r3, by rw [nx_set]; exact r4, by unfold R; rfl⟩
            rcases Nat.eq_zero_or_pos k with h0 | h0
            · have hl0 : len = 0 := by omega
              subst hl0
              have : a.toList = [] := by
                have := f3.length; rw [f5] at this; simp at this; simpa using this.symm
              rw [this] at r2
              have hw : w' = w := by simpa [storeCells] using r2.symm
              subst hw
              rw [show min sl 0 = 0 from Nat.min_zero sl] at f2'
              simp [Builtin.copy_, run_underlying' ht, f1', run_sizeOf' e1, f2', this, storeCells, goInt]
            · rw [(hloc c o r1).1 h0]
              simp [Builtin.copy_, run_underlying' ht, f1', run_sizeOf' e1, f2', r2, goInt]
          · cases h
        · cases h
      · cases h
        simp only [lenA, Option.some.injEq] at hdl; subst hdl
        unfold R at hd; obtain ⟨rfl, _⟩ := hd
        refine ⟨_, _, w, C, ?_, rfl, hs, Ext.refl _ _ _, by unfold R; rfl⟩
        rw [show min sl 0 = 0 from Nat.min_zero sl] at f2'
        simp [Builtin.copy_, run_underlying' ht, f1', run_sizeOf' e1, f2', goInt]
      · cases h
    · cases h
  · cases h

end
end Go.AM
