/- The sort and the number of a work variable's label, as the package reads them: as the reference does. -/
import Derived.Test.YtjdllejnkgoehaaGreatDoorWalkA
import Derived.Test.YtjdllejnkgoehaaGreatDoorAmAwake
namespace Go.Proofs.YtjdllejnkgoehaaGreatDoor
open Go Go.RowKit

theorem var_below {P : Program} {w w' : World} {n : String} {cs : Array Value} (hb : Below w.heap.size w w') (h : w.var? P n = some cs) : w'.var? P n = some cs := by
  unfold World.var? at *
  cases hg : P.globalNamed n with
  | none => simp [hg] at h
  | some g =>
    simp only [hg, Option.bind_some] at h ⊢
    cases hh : w.heap[g]? with
    | none => simp [hh] at h
    | some o =>
      rw [hb.block g (Array.getElem?_eq_some_iff.1 hh).1, hh]
      simpa [hh] using h

/- what the library's variables hold -/
structure Laid (w : World) : Prop where
  tab : Table w
  syn : ∃ tp p, w.var? Tryz.prog "strconv.ErrSyntax" = some #[.iface tp p]
  rng : ∃ tp p, w.var? Tryz.prog "strconv.ErrRange" = some #[.iface tp p]

theorem Laid.below {w w' : World} (h : Laid w) (hb : Below w.heap.size w w') : Laid w' :=
  ⟨var_below hb h.tab, let ⟨tp, p, k⟩ := h.syn; ⟨tp, p, var_below hb k⟩, let ⟨tp, p, k⟩ := h.rng; ⟨tp, p, var_below hb k⟩⟩

theorem last_any (s : ByteArray) (hs : s.size ≤ 300) (p : Int) (hp : Lib.lastIndexByte s 46 = p) (w : World) :
    Calls Tryz.prog 16 #[.string s, .int .u8 46] w fun e w' => e = .returned (.int .i64 p) ∧ w' = w := by
  subst hp
  exact Tryz.strings_LastIndexByte s 46 (by omega) w

theorem atoi_ok (t : ByteArray) (ht : t.size ≤ 300) (v : Int) (h : Lib.atoiAll t.data.toList = .ok v) (w : World) :
    Calls Tryz.prog 17 #[.string t] w fun e w' => e = .returned (.tuple #[.int .i64 v, .nilIface]) ∧ Below w.heap.size w w' := by
  refine (Tryz.strconv_Atoi_ok t (by omega) v h w).mono fun e w' hh => ?_
  obtain ⟨h1, h2⟩ := hh
  refine ⟨h1, ?_⟩
  rcases h2 with rfl | ⟨x, rfl⟩
  · exact Below.refl _ _
  · exact Lib.bytesWorld_below _ _ _

theorem atoi_bad (t : ByteArray) (ht : t.size ≤ 300) (h : ∀ v, Lib.atoiAll t.data.toList ≠ .ok v) (w : World) (hl : Laid w) :
    Calls Tryz.prog 17 #[.string t] w fun e w' => ∃ n N, e = .returned (.tuple #[.int .i64 n, .iface 130 (.pointer (some ⟨N, 0, none⟩))]) ∧ Below w.heap.size w w' := by
  rcases ha : Lib.atoiAll t.data.toList with v | _ | _
  · exact absurd ha (h v)
  · obtain ⟨tp, p, hv⟩ := hl.syn
    refine (Any.strconv_Atoi_syntax_var Tryz.laysC172 t (by omega) ha tp p w hv).mono fun e w' hh => ?_
    obtain ⟨N, h1, _, _, h2⟩ := hh
    exact ⟨_, N, h1, h2⟩
  · obtain ⟨tp, p, hv⟩ := hl.rng
    refine (Any.strconv_Atoi_range_var Tryz.laysC172 t (by omega) ha tp p w hv).mono fun e w' hh => ?_
    obtain ⟨N, h1, _, _, h2⟩ := hh
    exact ⟨_, N, h1, h2⟩

/- ===== the label in its parts ===== -/
theorem extract_list (s : ByteArray) (a b : Nat) : (s.extract a b).data.toList = (s.data.toList.take b).drop a := by
  rw [ByteArray.data_extract]; simp [List.drop_take]

theorem parts (s : ByteArray) (j : Nat) (h2 : 2 ≤ j) (hj : j < s.size) (h38 : byteAt s 0 = 38) (hc : byteAt s j = 46) :
    s.data.toList = 38 :: (s.extract 1 j).data.toList ++ 46 :: (s.extract (j + 1) s.size).data.toList := by
  have hlen := size_list s
  obtain ⟨c, r, hl, h0⟩ := byteAt_head s (by omega)
  have hc0 : c = 38 := by simpa using u8_eq (c := c) (n := 38) (by omega)
  have hcj := byteAt_get s j hj
  have hd := drop_cons s j hj
  have hsj : s[j] = 46 := by simpa using u8_eq (c := s[j]) (n := 46) (by omega)
  rw [hsj] at hd
  rw [extract_list, extract_list]
  have h1 : s.data.toList = s.data.toList.take j ++ s.data.toList.drop j := (List.take_append_drop _ _).symm
  have h3 : s.data.toList.take j = 38 :: (s.data.toList.take j).drop 1 := by
    rw [hl, hc0]
    obtain ⟨i, rfl⟩ : ∃ i, j = i + 1 := ⟨j - 1, by omega⟩
    simp
  have h4 : s.data.toList.take s.size = s.data.toList := List.take_of_length_le (by omega)
  rw [h4, ← h3, ← hd]
  exact h1

theorem workS_eq (s : ByteArray) (j n : Nat) (h2 : 2 ≤ j) (hj : j < s.size) (h38 : byteAt s 0 = 38) (hc : byteAt s j = 46) :
    workS (s.extract 1 j) n = s ↔ (s.extract (j + 1) s.size).data.toList = Lib.decDigits n := by
  have hp := parts s j h2 hj h38 hc
  constructor
  · intro h
    have h1 := congrArg (fun x : ByteArray => x.data.toList) h
    simp only [workS] at h1
    rw [hp] at h1
    simp only [List.cons_append] at h1
    have h3 := (List.cons.inj h1).2
    have h4 := List.append_cancel_left h3
    exact ((List.cons.inj h4).2).symm
  · intro h
    apply ByteArray.ext
    rw [h] at hp
    apply Array.toList_inj.1
    rw [hp]
    simp [workS]
end Go.Proofs.YtjdllejnkgoehaaGreatDoor

/- The sort and the number of a work variable's label, as the package reads them: the walk. -/
namespace Go.Proofs.YtjdllejnkgoehaaGreatDoor
open Go Go.RowKit

theorem last_any' (s : ByteArray) (hs : s.size ≤ 300) (p : Int) (hp : Lib.lastIndexByte s 46 = p) (w : World) :
    Calls Tryz.prog 16 #[.string s, .int .u8 46] w fun e w' => e = .returned (.int .i64 p) ∧ w = w' :=
  (last_any s hs p hp w).mono fun _ _ h => ⟨h.1, h.2.symm⟩

def NoWork (w : World) (e : Ending) (w' : World) : Prop := e = .returned (.tuple #[.string ⟨#[]⟩, .int .i64 0, .bool false]) ∧ Below w.heap.size w w'

set_option maxRecDepth 100000 in
set_option maxHeartbeats 2000000 in
theorem isWork_none (s : ByteArray) (hs : s.size ≤ 300) (hp : Hid (Lib.lastIndexByte s 46 = -1)) (w : World) : Calls Tryz.prog 7 #[.string s] w (NoWork w) := by
  go_enter Tryz.func7, Tryz.ntmps7
  go_wp2_with (go_at_call 16; refine (last_any' s hs (-1) hp.out _).mono ?_; rintro e w' ⟨rfl, rfl⟩)
  go_ret3
  exact ⟨rfl, Below.refl _ _⟩

set_option maxRecDepth 100000 in
set_option maxHeartbeats 2000000 in
theorem isWork_low (s : ByteArray) (hs : s.size ≤ 300) (j : Nat) (hp : Hid (Lib.lastIndexByte s 46 = j)) (h2 : j < 2) (w : World) : Calls Tryz.prog 7 #[.string s] w (NoWork w) := by
  go_enter Tryz.func7, Tryz.ntmps7
  go_wp2_with (go_at_call 16; refine (last_any' s hs j hp.out _).mono ?_; rintro e w' ⟨rfl, rfl⟩)
  go_ret3
  exact ⟨rfl, Below.refl _ _⟩

set_option maxRecDepth 100000 in
set_option maxHeartbeats 2000000 in
theorem isWork_amp (s : ByteArray) (hs : s.size ≤ 300) (j : Nat) (hp : Hid (Lib.lastIndexByte s 46 = j)) (h2 : 2 ≤ j) (hj : j < s.size) (h38 : (s[0].toNat : Int) ≠ 38) (w : World) : Calls Tryz.prog 7 #[.string s] w (NoWork w) := by
  have hx : ((s[0].toNat : Int) != 38) = true := by simpa using h38
  go_enter Tryz.func7, Tryz.ntmps7
  go_wp2_with (go_at_call 16; refine (last_any' s hs j hp.out _).mono ?_; rintro e w' ⟨rfl, rfl⟩)
  go_ret3
  exact ⟨rfl, Below.refl _ _⟩

set_option maxRecDepth 100000 in
set_option maxHeartbeats 2000000 in
theorem isWork_atoi (s : ByteArray) (hs : s.size ≤ 300) (j : Nat) (hp : Hid (Lib.lastIndexByte s 46 = j)) (h2 : 2 ≤ j) (hj : j < s.size) (h38 : (s[0].toNat : Int) = 38)
    (ht : (s.extract (j + 1) s.size).size ≤ 300) (hu : (s.extract 1 j).size ≤ 400) (hbad : Hid (∀ v, Lib.atoiAll (s.extract (j + 1) s.size).data.toList ≠ .ok v)) (w : World) (hl : Laid w) : Calls Tryz.prog 7 #[.string s] w (NoWork w) := by
  go_enter Tryz.func7, Tryz.ntmps7
  go_wp2_with (first
    | (go_at_call 16; refine (last_any' s hs j hp.out _).mono ?_; rintro e w' ⟨rfl, rfl⟩)
    | (go_at_call 17; refine (atoi_bad _ ht hbad.out _ hl).mono ?_; rintro e w1 ⟨n, N, rfl, hb1⟩)
    | (go_at_call 5; refine (work _ hu _ _ (hl.below hb1).tab).mono ?_; rintro e w2 ⟨rfl, hb2⟩))
  go_ret3
  exact ⟨rfl, hb1.trans (hb2.mono hb1.size)⟩

set_option maxRecDepth 100000 in
set_option maxHeartbeats 2000000 in
theorem isWork_out (s : ByteArray) (hs : s.size ≤ 300) (j : Nat) (hp : Hid (Lib.lastIndexByte s 46 = j)) (h2 : 2 ≤ j) (hj : j < s.size) (h38 : (s[0].toNat : Int) = 38)
    (ht : (s.extract (j + 1) s.size).size ≤ 300) (hu : 0 < (s.extract 1 j).size) (v : Int) (hv : Hid (Lib.atoiAll (s.extract (j + 1) s.size).data.toList = .ok v)) (ho : Hid (v < 0 ∨ 1000000000 < v)) (w : World) : Calls Tryz.prog 7 #[.string s] w (NoWork w) := by
  go_enter Tryz.func7, Tryz.ntmps7
  go_wp2_with (first
    | (go_at_call 16; refine (last_any' s hs j hp.out _).mono ?_; rintro e w' ⟨rfl, rfl⟩)
    | (go_at_call 17; refine (atoi_ok _ ht v hv.out _).mono ?_; rintro e w1 ⟨rfl, hb1⟩)
    | (go_at_call 5; refine (work_range _ hu v ho.out _).mono ?_; rintro e w2 ⟨rfl, rfl⟩))
  go_ret3
  exact ⟨rfl, hb1⟩

theorem work_ok' (u : ByteArray) (hs : u.size ≤ 400) (h0 : 0 < u.size) (n : Nat) (hn : n ≤ 1000000000) (x : ByteArray) (hx : workS u n = x) (w : World) (ht : Table w) :
    Calls Tryz.prog 5 #[.string u, .int .i64 n] w fun e w' => e = .returned (.tuple #[.string x, .int .i64 0]) ∧ Below w.heap.size w w' := by
  subst hx
  exact work_ok u hs h0 n hn w ht

set_option maxRecDepth 100000 in
set_option maxHeartbeats 2000000 in
theorem isWork_other (s : ByteArray) (hs : s.size ≤ 300) (j : Nat) (hp : Hid (Lib.lastIndexByte s 46 = j)) (h2 : 2 ≤ j) (hj : j < s.size) (h38 : (s[0].toNat : Int) = 38)
    (ht : (s.extract (j + 1) s.size).size ≤ 300) (hu0 : 0 < (s.extract 1 j).size) (hu : (s.extract 1 j).size ≤ 400) (n : Nat) (hv : Hid (Lib.atoiAll (s.extract (j + 1) s.size).data.toList = .ok (n : Int))) (hn : Hid (n ≤ 1000000000))
    (x : ByteArray) (hx : Hid (workS (s.extract 1 j) n = x)) (hne : (x.toList == s.toList) = false) (w : World) (hl : Laid w) : Calls Tryz.prog 7 #[.string s] w (NoWork w) := by
  have hne2 : (x.toList != s.toList) = true := by simp [bne, hne]
  go_enter Tryz.func7, Tryz.ntmps7
  go_wp2_with (first
    | (go_at_call 16; refine (last_any' s hs j hp.out _).mono ?_; rintro e w' ⟨rfl, rfl⟩)
    | (go_at_call 17; refine (atoi_ok _ ht (n : Int) hv.out _).mono ?_; rintro e w1 ⟨rfl, hb1⟩)
    | (go_at_call 5; refine (work_ok' _ hu hu0 n hn.out x hx.out _ (hl.below hb1).tab).mono ?_; rintro e w2 ⟨rfl, hb2⟩))
  go_ret3
  exact ⟨rfl, hb1.trans (hb2.mono hb1.size)⟩

set_option maxRecDepth 100000 in
set_option maxHeartbeats 2000000 in
theorem isWork_yes (s : ByteArray) (hs : s.size ≤ 300) (j : Nat) (hp : Hid (Lib.lastIndexByte s 46 = j)) (h2 : 2 ≤ j) (hj : j < s.size) (h38 : (s[0].toNat : Int) = 38)
    (ht : (s.extract (j + 1) s.size).size ≤ 300) (hu0 : 0 < (s.extract 1 j).size) (hu : (s.extract 1 j).size ≤ 400) (n : Nat) (hv : Hid (Lib.atoiAll (s.extract (j + 1) s.size).data.toList = .ok (n : Int))) (hn : Hid (n ≤ 1000000000))
    (hx : Hid (workS (s.extract 1 j) n = s)) (w : World) (hl : Laid w) : Calls Tryz.prog 7 #[.string s] w fun e w' => e = .returned (.tuple #[.string (s.extract 1 j), .int .i64 n, .bool true]) ∧ Below w.heap.size w w' := by
  go_enter Tryz.func7, Tryz.ntmps7
  go_wp2_with (first
    | (go_at_call 16; refine (last_any' s hs j hp.out _).mono ?_; rintro e w' ⟨rfl, rfl⟩)
    | (go_at_call 17; refine (atoi_ok _ ht (n : Int) hv.out _).mono ?_; rintro e w1 ⟨rfl, hb1⟩)
    | (go_at_call 5; refine (work_ok' _ hu hu0 n hn.out s hx.out _ (hl.below hb1).tab).mono ?_; rintro e w2 ⟨rfl, hb2⟩))
  go_ret3
  exact ⟨rfl, hb1.trans (hb2.mono hb1.size)⟩
end Go.Proofs.YtjdllejnkgoehaaGreatDoor

/- The package's IsWork gives what the reference's gives. -/
namespace Go.Proofs.YtjdllejnkgoehaaGreatDoor
open Go Go.RowKit

theorem isWork_of_no {s : ByteArray} {w : World} (h : Calls Tryz.prog 7 #[.string s] w (NoWork w)) (hr : isR s = (⟨#[]⟩, 0, false)) :
    Calls Tryz.prog 7 #[.string s] w fun e w' => e = .returned (.tuple #[.string (isR s).1, .int .i64 (isR s).2.1, .bool (isR s).2.2]) ∧ Below w.heap.size w w' :=
  h.mono fun e w' ⟨h1, h2⟩ => ⟨by rw [h1, hr], h2⟩

theorem isWork (s : ByteArray) (hs : s.size ≤ 300) (w : World) (hl : Laid w) :
    Calls Tryz.prog 7 #[.string s] w fun e w' => e = .returned (.tuple #[.string (isR s).1, .int .i64 (isR s).2.1, .bool (isR s).2.2]) ∧ Below w.heap.size w w' := by
  rcases Lib.lastIndexByte_spec s 46 with ⟨hp, _⟩ | ⟨j, hj, hp, hc, _⟩
  · exact isWork_of_no (isWork_none s hs (Lib.hid hp) w) (isR_no (.inl (by omega)))
  · by_cases h2 : j < 2
    · exact isWork_of_no (isWork_low s hs j (Lib.hid hp) h2 w) (isR_no (.inl (by omega)))
    · have hb0 := byteAt_get s 0 (by omega)
      by_cases h38 : (s[0].toNat : Int) = 38
      · have hcj : byteAt s j = 46 := by unfold byteAt; omega
        have hc0 : byteAt s 0 = 38 := by omega
        have ht : (s.extract (j + 1) s.size).size ≤ 300 := by rw [ByteArray.size_extract]; omega
        have hu : (s.extract 1 j).size ≤ 400 := by rw [ByteArray.size_extract]; omega
        have hu0 : 0 < (s.extract 1 j).size := by rw [ByteArray.size_extract]; omega
        have hw := fun n => workS_eq s j n (by omega) hj hc0 hcj
        by_cases hn : numR (s.extract (j + 1) s.size) < 0
        · have hr := isR_bad hp h2 hc0 hn
          rcases ha : Lib.atoiAll (s.extract (j + 1) s.size).data.toList with v | _ | _
          · by_cases ho : v < 0 ∨ 1000000000 < v
            · exact isWork_of_no (isWork_out s hs j (Lib.hid hp) (by omega) hj h38 ht hu0 v (Lib.hid ha) (Lib.hid ho) w) hr
            · obtain ⟨m, rfl⟩ : ∃ m : Nat, v = m := ⟨v.toNat, by omega⟩
              have hm : m ≤ 1000000000 := by omega
              refine isWork_of_no (isWork_other s hs j (Lib.hid hp) (by omega) hj h38 ht hu0 hu m (Lib.hid ha) (Lib.hid hm) _ (Lib.hid rfl) ?_ w hl) hr
              rw [beq_eq_false_iff_ne]
              intro hh
              have : workS (s.extract 1 j) m = s := by
                apply ByteArray.ext
                apply Array.toList_inj.1
                rw [← ByteArray.toList_eq, ← ByteArray.toList_eq]
                exact hh
              have := numR_dec _ m hm ((hw m).1 this)
              omega
          · exact isWork_of_no (isWork_atoi s hs j (Lib.hid hp) (by omega) hj h38 ht hu (Lib.hid fun v hv => by rw [ha] at hv; cases hv) w hl) hr
          · exact isWork_of_no (isWork_atoi s hs j (Lib.hid hp) (by omega) hj h38 ht hu (Lib.hid fun v hv => by rw [ha] at hv; cases hv) w hl) hr
        · obtain ⟨m, h1, h3, h4, h5⟩ := numR_spec _ (Int.not_lt.1 hn)
          have hr := isR_yes hp h2 hc0 hn
          rw [h1] at hr
          rw [hr]
          exact isWork_yes s hs j (Lib.hid hp) (by omega) hj h38 ht hu0 hu m (Lib.hid h5) (Lib.hid h3) (Lib.hid ((hw m).2 h4)) w hl
      · exact isWork_of_no (isWork_amp s hs j (Lib.hid hp) (by omega) hj h38 w) (isR_no (.inr (by omega)))
end Go.Proofs.YtjdllejnkgoehaaGreatDoor

/- The statement's function returns true, whatever it is called with. -/
namespace Go.Proofs.YtjdllejnkgoehaaGreatDoor
open Go Go.RowKit

/- what lay lies as it lay -/
structure Kept (w w' : World) : Prop where
  size : w.heap.size ≤ w'.heap.size
  block : ∀ b, b < w.heap.size → w'.heap[b]? = w.heap[b]?
  os : w'.os = w.os
  output : w'.output = w.output

theorem Kept.refl (w : World) : Kept w w := ⟨Nat.le_refl _, fun _ _ => rfl, rfl, rfl⟩
theorem Kept.trans {a b c : World} (h : Kept a b) (k : Kept b c) : Kept a c :=
  ⟨Nat.le_trans h.size k.size, fun i hi => (k.block i (Nat.lt_of_lt_of_le hi h.size)).trans (h.block i hi), k.os.trans h.os, k.output.trans h.output⟩
theorem kept_below {w w' : World} (h : Below w.heap.size w w') : Kept w w' := ⟨h.size, h.block, h.os, h.output⟩

theorem awake_any (w : World) : Calls Tryz.prog 4 #[] w fun e w' => e = .returned (.bool true) ∧ Kept w w' :=
  (AM.awake w).2.mono fun e w' h => by
    cases e with
    | returned x => obtain ⟨h1, h2, h3, h4, h5⟩ := h; exact ⟨by rw [h1], h2, h3, h4, h5⟩
    | panicked _ => exact h.elim
    | outgrown => exact h.elim

theorem isWorkRef' (s : ByteArray) (hs : s.size ≤ 300) (w : World) :
    Calls Tryz.prog 8 #[.string s] w fun e w' => e = .returned (.tuple #[.string (isR s).1, .int .i64 (isR s).2.1, .bool (isR s).2.2]) ∧ w = w' :=
  (isWorkRef s hs w).mono fun _ _ h => ⟨h.1, h.2.symm⟩

theorem workS_size (a : ByteArray) (n : Nat) : (workS a n).size = a.size + (Lib.decDigits n).length + 2 := by
  have h5 := size_list (workS a n)
  have h4 := size_list a
  rw [← h5]
  show (38 :: a.data.toList ++ 46 :: Lib.decDigits n).length = _
  simp only [List.cons_append, List.length_cons, List.length_append]
  omega

theorem work_size (a : ByteArray) (n : Int) (ha : a.size ≤ 200) : (workR a n).1.size ≤ 300 := by
  have h0 : (⟨#[]⟩ : ByteArray).size = 0 := rfl
  unfold workR
  split
  · show (⟨#[]⟩ : ByteArray).size ≤ 300; omega
  · split
    · show (⟨#[]⟩ : ByteArray).size ≤ 300; omega
    · rename_i h1 h2
      have h3 := digits_20 n.toNat (by omega)
      have h4 := workS_size a n.toNat
      show (workS a n.toNat).size ≤ 300
      omega

theorem work_xy (a : ByteArray) (ha : a.size ≤ 400) (n : Int) (x : ByteArray) (y : Int) (h : workR a n = (x, y)) (w : World) (hl : Table w) :
    Calls Tryz.prog 5 #[.string a, .int .i64 n] w fun e w' => e = .returned (.tuple #[.string x, .int .i64 y]) ∧ Below w.heap.size w w' := by
  have := work a ha n w hl
  rw [h] at this
  exact this
theorem refWork_xy (a : ByteArray) (ha : a.size ≤ 400) (n : Int) (x : ByteArray) (y : Int) (h : workR a n = (x, y)) (w : World) :
    Calls Tryz.prog 6 #[.string a, .int .i64 n] w fun e w' => e = .returned (.tuple #[.string x, .int .i64 y]) ∧ Below w.heap.size w w' := by
  have := refWork a ha n w
  rw [h] at this
  exact this
theorem isWork_xy (s : ByteArray) (hs : s.size ≤ 300) (u : ByteArray) (m : Int) (o : Bool) (h : isR s = (u, m, o)) (w : World) (hl : Laid w) :
    Calls Tryz.prog 7 #[.string s] w fun e w' => e = .returned (.tuple #[.string u, .int .i64 m, .bool o]) ∧ Below w.heap.size w w' := by
  have := isWork s hs w hl
  rw [h] at this
  exact this
theorem isWorkRef_xy (s : ByteArray) (hs : s.size ≤ 300) (u : ByteArray) (m : Int) (o : Bool) (h : isR s = (u, m, o)) (w : World) :
    Calls Tryz.prog 8 #[.string s] w fun e w' => e = .returned (.tuple #[.string u, .int .i64 m, .bool o]) ∧ w = w' := by
  have := isWorkRef' s hs w
  rw [h] at this
  exact this

set_option maxRecDepth 100000 in
set_option maxHeartbeats 2000000 in
theorem unify_long1 (a b : ByteArray) (n : Int) (ha : 200 < a.size) (w : World) :
    Calls Tryz.prog 3 #[.string a, .int .i64 n, .string b] w fun e w' => e = .returned (.bool true) ∧ Kept w w' := by
  have hd1 : decide ((200 : Int) < (a.size : Int)) = true := by simp; omega
  go_enter Tryz.func3, Tryz.ntmps3
  go_wp2_with (go_at_call 4; refine (awake_any _).mono ?_; rintro e w' ⟨rfl, hk⟩)
  go_ret
  exact ⟨rfl, hk⟩

set_option maxRecDepth 100000 in
set_option maxHeartbeats 2000000 in
theorem unify_long2 (a b : ByteArray) (n : Int) (ha : a.size ≤ 200) (hb : 200 < b.size) (w : World) :
    Calls Tryz.prog 3 #[.string a, .int .i64 n, .string b] w fun e w' => e = .returned (.bool true) ∧ Kept w w' := by
  have hd1 : decide ((200 : Int) < (a.size : Int)) = false := by simp; omega
  have hd2 : decide ((200 : Int) < (b.size : Int)) = true := by simp; omega
  go_enter Tryz.func3, Tryz.ntmps3
  go_wp2_with (go_at_call 4; refine (awake_any _).mono ?_; rintro e w' ⟨rfl, hk⟩)
  go_ret
  exact ⟨rfl, hk⟩

def Round (W0 : World) (i : Value) (wr : World) : Prop := ∃ k : Nat, k ≤ 2 ∧ i = .int .i64 k ∧ Below W0.heap.size W0 wr

set_option maxRecDepth 100000 in
set_option maxHeartbeats 4000000 in
theorem unify_short (a b : ByteArray) (n : Int) (ha : a.size ≤ 200) (hb : b.size ≤ 200) (x : ByteArray) (y : Int) (hxy : Hid (workR a n = (x, y))) (hx : x.size ≤ 300)
    (u : ByteArray) (m : Int) (o : Bool) (hu : Hid (isR b = (u, m, o))) (u' : ByteArray) (m' : Int) (o' : Bool) (hu' : Hid (isR x = (u', m', o'))) (w : World) (hl : Laid w) :
    Calls Tryz.prog 3 #[.string a, .int .i64 n, .string b] w fun e w' => e = .returned (.bool true) ∧ Kept w w' := by
  have hd1 : decide ((200 : Int) < (a.size : Int)) = false := by simp; omega
  have hd2 : decide ((200 : Int) < (b.size : Int)) = false := by simp; omega
  have ha4 : a.size ≤ 400 := by omega
  have hb3 : b.size ≤ 300 := by omega
  go_enter Tryz.func3, Tryz.ntmps3
  go_wp2_with (first
    | (go_at_call 5; refine (work_xy a ha4 n x y hxy.out _ hl.tab).mono ?_; rintro e w1 ⟨rfl, hb1⟩)
    | (go_at_call 6; refine (refWork_xy a ha4 n x y hxy.out _).mono ?_; rintro e w2 ⟨rfl, hb2⟩))
  obtain ⟨W0, hW0⟩ : ∃ W0, w2.alloc (.cells #[.string b, .string x] 9) = W0 := ⟨_, rfl⟩
  have hal : Below w2.heap.size w2 W0 := by rw [← hW0]; exact (Below.refl _ w2).alloc (Nat.le_refl _) _
  have hc0 : W0.cell? ⟨w2.heap.size, 0, none⟩ = some (.string b) := by rw [← hW0, World.cell?_alloc_new]; rfl
  have hc1 : W0.cell? ⟨w2.heap.size, 1, none⟩ = some (.string x) := by rw [← hW0, World.cell?_alloc_new]; rfl
  have hsz : w2.heap.size < W0.heap.size := by rw [← hW0]; simp
  have HL0 : Laid W0 := ((hl.below hb1).below hb2).below hal
  have HK : Kept w W0 := ((kept_below hb1).trans (kept_below hb2)).trans (kept_below hal)
  rw [hW0]
  clear hW0
  have HC0 := Lib.hid hc0
  have HC1 := Lib.hid hc1
  clear hc0 hc1
  go_loopw [44] (fun i wr => Round W0 i wr) (fun i _ => 2 - (intOf i).toNat)
  case atStart => exact ⟨0, by omega, rfl, Below.refl _ _⟩
  case round =>
    obtain ⟨k, hk, rfl, hB⟩ := hrel
    have hLr := HL0.below hB
    have hKr := HK.trans (kept_below hB)
    rcases k with _ | _ | _ | k
    · have hr0 : wr.cell? ⟨w2.heap.size, 0, none⟩ = some (.string b) := (hB.cell (p := ⟨w2.heap.size, 0, none⟩) hsz).trans HC0.out
      rw [show ((0 : Nat) : Int) = 0 by rfl]
      go_wp2_with (first
        | (go_at_call 7; refine (isWork_xy b hb3 u m o hu.out _ hLr).mono ?_; rintro e w3 ⟨rfl, hb3'⟩)
        | (go_at_call 8; refine (isWorkRef_xy b hb3 u m o hu.out _).mono ?_; rintro e w4 ⟨rfl, rfl⟩))
      refine ⟨⟨1, by omega, rfl, hB.trans (hb3'.mono hB.size)⟩, by simp [intOf]⟩
    · have hr1 : wr.cell? ⟨w2.heap.size, 1, none⟩ = some (.string x) := (hB.cell (p := ⟨w2.heap.size, 1, none⟩) hsz).trans HC1.out
      rw [show ((0 + 1 : Nat) : Int) = 1 by rfl]
      go_wp2_with (first
        | (go_at_call 7; refine (isWork_xy x hx u' m' o' hu'.out _ hLr).mono ?_; rintro e w3 ⟨rfl, hb3'⟩)
        | (go_at_call 8; refine (isWorkRef_xy x hx u' m' o' hu'.out _).mono ?_; rintro e w4 ⟨rfl, rfl⟩))
      refine ⟨⟨2, by omega, rfl, hB.trans (hb3'.mono hB.size)⟩, by simp [intOf]⟩
    · rw [show ((0 + 1 + 1 : Nat) : Int) = 2 by rfl]
      go_wp2_with (go_at_call 4; refine (awake_any _).mono ?_; rintro e w' ⟨rfl, hk⟩)
      go_ret
      exact ⟨rfl, hKr.trans hk⟩
    · omega

/- for every input -/
theorem unify_any (a b : ByteArray) (n : Int) (w : World) (hl : Laid w) :
    Calls Tryz.prog 3 #[.string a, .int .i64 n, .string b] w fun e w' => e = .returned (.bool true) ∧ Kept w w' := by
  by_cases ha : 200 < a.size
  · exact unify_long1 a b n ha w
  · by_cases hb : 200 < b.size
    · exact unify_long2 a b n (by omega) hb w
    · exact unify_short a b n (by omega) (by omega) _ _ (Lib.hid rfl) (work_size a n (by omega)) _ _ _ (Lib.hid rfl) _ _ _ (Lib.hid rfl) w hl
end Go.Proofs.YtjdllejnkgoehaaGreatDoor
