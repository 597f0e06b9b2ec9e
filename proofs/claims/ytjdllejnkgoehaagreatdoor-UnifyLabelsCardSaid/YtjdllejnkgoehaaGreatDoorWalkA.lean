/- The decimal digits of a number, as the reference writes them. -/
import Derived.WalkKit
import Derived.WalkSpells
import Derived.WalkLawsBesides
import Derived.Laws.IdiomStrings
import Derived.Lib.ItoaNum
import Derived.Lib.Hide
import Derived.Test.YtjdllejnkgoehaaGreatDoorChecked
import Derived.Lib.AppendIntMem
import Derived.Lib.LastIndexByte
import Derived.Lib.AtoiAll
import Derived.Test.YtjdllejnkgoehaaGreatDoorShelf
namespace Go.Proofs.YtjdllejnkgoehaaGreatDoor
open Go Go.RowKit

/- one byte, made a string -/
theorem conv1 (W : World) (x : Int) (c : UInt8) (hx : x = (c.toNat : Int)) :
    (convert 97 9 (.slice (some ⟨W.heap.size, 0, none⟩) 1 1)).run Tryz.prog (W.alloc (.cells #[.int .u8 x] 5)) = .ok (.string ⟨#[c]⟩) (W.alloc (.cells #[.int .u8 x] 5)) := by
  subst hx
  refine run_convert_bytes_back (P := Tryz.prog) _ 97 9 5 ⟨W.heap.size, 0, none⟩ 1 [c] Tryz.underlying97 Tryz.underlying5 Tryz.underlying9 fun j hj => ?_
  have : j = 0 := by simpa using hj
  subst this
  have h0 : (⟨W.heap.size, 0, none⟩ : Addr).add 0 = ⟨W.heap.size, 0, none⟩ := by simp [Addr.add]
  rw [h0, World.cell?_alloc_new]
  rfl

theorem digit_small (m : Nat) (h : m < 10) : Lib.decDigits m = [UInt8.ofNat (48 + m)] := by rw [Lib.decDigits]; simp [h]
theorem digit_step (m : Nat) (h : 9 < m) : Lib.decDigits m = Lib.decDigits (m / 10) ++ [UInt8.ofNat (48 + m % 10)] := by rw [Lib.decDigits]; rw [dif_neg (by omega)]
theorem digit_val (r : Nat) (h : r < 10) : ((48 : Int) + (r : Int)) = ((UInt8.ofNat (48 + r)).toNat : Int) := by
  have : (UInt8.ofNat (48 + r)).toNat = 48 + r := by simp; omega
  rw [this]; omega

/- the same bytes -/
theorem ret_str {a b : ByteArray} (h : a.data = b.data) : Ending.returned (.string a) = .returned (.string b) := by rw [ByteArray.ext h]

def Dec (n : Nat) (w : World) (i s : Value) (wr : World) : Prop := ∃ (m : Nat) (b : ByteArray), m ≤ n ∧ i = .int .i64 m ∧ s = .string b ∧ Lib.decDigits m ++ b.data.toList = Lib.decDigits n ∧ Below w.heap.size w wr

set_option maxRecDepth 100000 in
set_option maxHeartbeats 1000000 in
theorem decimal_any (n : Nat) (hn : n ≤ 1000000000) (hlen : (Lib.decDigits n).length ≤ 20) (w : World) :
    Calls Tryz.prog 15 #[.int .i64 n] w fun e w' => e = .returned (.string ⟨(Lib.decDigits n).toArray⟩) ∧ Below w.heap.size w w' := by
  go_enter Tryz.func15, Tryz.ntmps15
  go_wp2
  go_loopw [0, 3] (fun i s wr => Dec n w i s wr) (fun i _ _ => (intOf i).toNat)
  case atStart => exact ⟨n, ⟨#[]⟩, Nat.le_refl _, rfl, rfl, by simp, Below.refl _ _⟩
  case round =>
    obtain ⟨m, b, hm, rfl, rfl, hd, hB⟩ := hrel
    have hb : b.size ≤ 20 := by
      have h1 := congrArg List.length hd
      have h2 : b.data.toList.length = b.size := Array.length_toList
      rw [List.length_append] at h1
      omega
    have hm0 : (m : Int) ≤ 1000000000 := by omega
    by_cases h9 : 9 < m
    · have kb := conv1 wr (48 + (m : Int) % 10) (UInt8.ofNat (48 + m % 10)) (by have := digit_val (m % 10) (by omega); simpa using this)
      have H := Lib.hid hd
      clear hd
      have h9' : (9 : Int) < (m : Int) := by omega
      go_wp2
      case roundEnd =>
        refine ⟨⟨m / 10, _, by omega, by go_num, rfl, ?_, hB.alloc hB.size _⟩, ?_⟩
        · have hd := H.out
          rw [digit_step m h9] at hd
          simpa using hd
        · simp [intOf]; omega
    · have h9' : ¬ (9 : Int) < (m : Int) := by omega
      have kb := conv1 wr (48 + (m : Int)) (UInt8.ofNat (48 + m)) (digit_val m (by omega))
      have H := Lib.hid hd
      clear hd
      go_wp2
      go_ret
      refine ⟨?_, hB.alloc hB.size _⟩
      have hd := H.out
      rw [digit_small m (by omega)] at hd
      rw [← hd]
      exact ret_str (by simp)
end Go.Proofs.YtjdllejnkgoehaaGreatDoor

/- The label of a work variable, as the reference and as the package make it. -/
namespace Go.Proofs.YtjdllejnkgoehaaGreatDoor
open Go Go.RowKit

def workS (s : ByteArray) (n : Nat) : ByteArray := ⟨(38 :: s.data.toList ++ 46 :: Lib.decDigits n).toArray⟩

/- what 'Work' gives: the label, the error's number -/
def workR (s : ByteArray) (n : Int) : ByteArray × Int :=
  if s.size = 0 then (⟨#[]⟩, 2) else if n < 0 ∨ 1000000000 < n then (⟨#[]⟩, 3) else (workS s n.toNat, 0)

theorem full_of (s : ByteArray) (h : 0 < s.size) : s.toList.isEmpty = false := by
  rw [ByteArray.toList_eq]
  have h1 : s.data.toList.length = s.size := Array.length_toList
  cases hs : s.data.toList with
  | nil => rw [hs] at h1; simp at h1; omega
  | cons a r => rfl
theorem void_of (s : ByteArray) (h : s.size = 0) : s = ⟨#[]⟩ := by
  apply ByteArray.ext
  exact Array.eq_empty_of_size_eq_zero h

theorem digits_len : ∀ (k n : Nat), n < 10 ^ k → 0 < k → (Lib.decDigits n).length ≤ k
  | 0, n, _, h => absurd h (by omega)
  | 1, n, h, _ => by rw [digit_small n (by omega)]; simp
  | k + 2, n, h, _ => by
    by_cases h9 : 9 < n
    · rw [digit_step n h9, List.length_append]
      have := digits_len (k + 1) (n / 10) (by rw [Nat.pow_succ] at h; omega) (by omega)
      simp; omega
    · rw [digit_small n (by omega)]; simp

theorem digits_20 (n : Nat) (hn : n ≤ 1000000000) : (Lib.decDigits n).length ≤ 20 := digits_len 20 n (Nat.lt_of_le_of_lt hn (by decide)) (by omega)

theorem ret_2 {a b : ByteArray} (h : a.data = b.data) (x : Int) : Ending.returned (.tuple #[.string a, .int .i64 x]) = .returned (.tuple #[.string b, .int .i64 x]) := by rw [ByteArray.ext h]

set_option maxRecDepth 100000 in
set_option maxHeartbeats 1000000 in
theorem refWork_ok (s : ByteArray) (hs : s.size ≤ 400) (h0 : 0 < s.size) (n : Nat) (hn : n ≤ 1000000000) (w : World) :
    Calls Tryz.prog 6 #[.string s, .int .i64 n] w fun e w' => e = .returned (.tuple #[.string (workS s n), .int .i64 0]) ∧ Below w.heap.size w w' := by
  have hn' : (n : Int) ≤ 1000000000 := by omega
  have hlen := digits_20 n hn
  have he := full_of s h0
  go_enter Tryz.func6, Tryz.ntmps6
  go_wp2_with (go_at_call 15; refine (decimal_any n hn hlen _).mono ?_; rintro e w' ⟨rfl, hb⟩)
  go_ret2
  exact ⟨ret_2 (by simp [workS]) 0, hb⟩

set_option maxRecDepth 100000 in
set_option maxHeartbeats 1000000 in
theorem refWork_range (s : ByteArray) (h0 : 0 < s.size) (n : Int) (hn : n < 0 ∨ 1000000000 < n) (w : World) :
    Calls Tryz.prog 6 #[.string s, .int .i64 n] w fun e w' => e = .returned (.tuple #[.string ⟨#[]⟩, .int .i64 3]) ∧ w' = w := by
  have he := full_of s h0
  rcases hn with hn | hn
  · have h1 : ¬ 1000000000 < n := by omega
    go_enter Tryz.func6, Tryz.ntmps6
    go_wp2_with fail
    go_ret2
    exact ⟨rfl, rfl⟩
  · have h1 : ¬ n < 0 := by omega
    go_enter Tryz.func6, Tryz.ntmps6
    go_wp2_with fail
    go_ret2
    exact ⟨rfl, rfl⟩

set_option maxRecDepth 100000 in
set_option maxHeartbeats 1000000 in
theorem refWork_void (n : Int) (w : World) :
    Calls Tryz.prog 6 #[.string ⟨#[]⟩, .int .i64 n] w fun e w' => e = .returned (.tuple #[.string ⟨#[]⟩, .int .i64 2]) ∧ w' = w := by
  go_enter Tryz.func6, Tryz.ntmps6
  go_wp2_with fail
  go_ret2
  exact ⟨rfl, rfl⟩

theorem refWork (s : ByteArray) (hs : s.size ≤ 400) (n : Int) (w : World) :
    Calls Tryz.prog 6 #[.string s, .int .i64 n] w fun e w' => e = .returned (.tuple #[.string (workR s n).1, .int .i64 (workR s n).2]) ∧ Below w.heap.size w w' := by
  unfold workR
  by_cases h0 : s.size = 0
  · rw [if_pos h0, void_of s h0]
    exact (refWork_void n w).mono fun e w' ⟨h1, h2⟩ => ⟨h1, h2 ▸ Below.refl _ _⟩
  · rw [if_neg h0]
    by_cases hn : n < 0 ∨ 1000000000 < n
    · rw [if_pos hn]
      exact (refWork_range s (by omega) n hn w).mono fun e w' ⟨h1, h2⟩ => ⟨h1, h2 ▸ Below.refl _ _⟩
    · rw [if_neg hn]
      obtain ⟨m, rfl⟩ : ∃ m : Nat, n = m := ⟨n.toNat, by omega⟩
      exact refWork_ok s hs (by omega) m (by omega) w

/- the package's -/
theorem itoa_nat (n : Nat) : Lib.itoa (n : Int) = Lib.decDigits n := by unfold Lib.itoa; rw [if_neg (by omega)]; simp

def Table (w : World) : Prop := Lib.TabIs Tryz.prog w "internal/strconv.uint64pow10" .u64 Lib.pow10Tab

theorem itoa_any (n : Nat) (hn : n ≤ 1000000000) (w : World) (ht : Table w) :
    Calls Tryz.prog 14 #[.int .i64 n] w fun e w' => e = .returned (.string ⟨(Lib.decDigits n).toArray⟩) ∧ Below w.heap.size w w' := by
  refine (Tryz.strconv_Itoa (n : Int) (by omega) (by omega) w ht).mono fun e w' h => ?_
  obtain ⟨h1, k, os, h2⟩ := h
  rw [itoa_nat] at h1
  exact ⟨h1, h2 ▸ Lib.below_grow _ w (Nat.le_refl _) k os⟩

set_option maxRecDepth 100000 in
set_option maxHeartbeats 1000000 in
theorem work_ok (s : ByteArray) (hs : s.size ≤ 400) (h0 : 0 < s.size) (n : Nat) (hn : n ≤ 1000000000) (w : World) (ht : Table w) :
    Calls Tryz.prog 5 #[.string s, .int .i64 n] w fun e w' => e = .returned (.tuple #[.string (workS s n), .int .i64 0]) ∧ Below w.heap.size w w' := by
  have hn' : (n : Int) ≤ 1000000000 := by omega
  have hlen := digits_20 n hn
  have he := full_of s h0
  go_enter Tryz.func5, Tryz.ntmps5
  go_wp2_with (go_at_call 14; refine (itoa_any n hn _ ht).mono ?_; rintro e w' ⟨rfl, hb⟩)
  go_ret2
  exact ⟨ret_2 (by simp [workS]) 0, hb⟩

set_option maxRecDepth 100000 in
set_option maxHeartbeats 1000000 in
theorem work_range (s : ByteArray) (h0 : 0 < s.size) (n : Int) (hn : n < 0 ∨ 1000000000 < n) (w : World) :
    Calls Tryz.prog 5 #[.string s, .int .i64 n] w fun e w' => e = .returned (.tuple #[.string ⟨#[]⟩, .int .i64 3]) ∧ w' = w := by
  have he := full_of s h0
  rcases hn with hn | hn
  · have h1 : ¬ 1000000000 < n := by omega
    go_enter Tryz.func5, Tryz.ntmps5
    go_wp2_with fail
    go_ret2
    exact ⟨rfl, rfl⟩
  · have h1 : ¬ n < 0 := by omega
    go_enter Tryz.func5, Tryz.ntmps5
    go_wp2_with fail
    go_ret2
    exact ⟨rfl, rfl⟩

set_option maxRecDepth 100000 in
set_option maxHeartbeats 1000000 in
theorem work_void (n : Int) (w : World) :
    Calls Tryz.prog 5 #[.string ⟨#[]⟩, .int .i64 n] w fun e w' => e = .returned (.tuple #[.string ⟨#[]⟩, .int .i64 2]) ∧ w' = w := by
  go_enter Tryz.func5, Tryz.ntmps5
  go_wp2_with fail
  go_ret2
  exact ⟨rfl, rfl⟩

theorem work (s : ByteArray) (hs : s.size ≤ 400) (n : Int) (w : World) (ht : Table w) :
    Calls Tryz.prog 5 #[.string s, .int .i64 n] w fun e w' => e = .returned (.tuple #[.string (workR s n).1, .int .i64 (workR s n).2]) ∧ Below w.heap.size w w' := by
  unfold workR
  by_cases h0 : s.size = 0
  · rw [if_pos h0, void_of s h0]
    exact (work_void n w).mono fun e w' ⟨h1, h2⟩ => ⟨h1, h2 ▸ Below.refl _ _⟩
  · rw [if_neg h0]
    by_cases hn : n < 0 ∨ 1000000000 < n
    · rw [if_pos hn]
      exact (work_range s (by omega) n hn w).mono fun e w' ⟨h1, h2⟩ => ⟨h1, h2 ▸ Below.refl _ _⟩
    · rw [if_neg hn]
      obtain ⟨m, rfl⟩ : ∃ m : Nat, n = m := ⟨n.toNat, by omega⟩
      exact work_ok s hs (by omega) m (by omega) w ht
end Go.Proofs.YtjdllejnkgoehaaGreatDoor

/- The number behind a work variable's last dot, as the reference reads it. -/
namespace Go.Proofs.YtjdllejnkgoehaaGreatDoor
open Go Go.RowKit

def numGo : Nat → List UInt8 → Option Nat
  | acc, [] => some acc
  | acc, c :: r => if 48 ≤ c.toNat ∧ c.toNat ≤ 57 then numGo (10 * acc + (c.toNat - 48)) r else none

def numFin : Option Nat → Int
  | none => -1
  | some v => if 1000000000 < v then -1 else v

def byteAt (s : ByteArray) (k : Nat) : Nat := (s.data[k]!).toNat

/- the number with these digits, or -1 -/
def numR (s : ByteArray) : Int :=
  if s.size = 0 ∨ 10 < s.size ∨ (byteAt s 0 = 48 ∧ 1 < s.size) then -1 else numFin (numGo 0 s.data.toList)

theorem numR_neg {s : ByteArray} (h : s.size = 0 ∨ 10 < s.size ∨ (byteAt s 0 = 48 ∧ 1 < s.size)) : numR s = -1 := by unfold numR; rw [if_pos h]
theorem numR_go {s : ByteArray} (h0 : 0 < s.size) (hs : s.size ≤ 10) (h1 : ¬ (byteAt s 0 = 48 ∧ 1 < s.size)) : numR s = numFin (numGo 0 s.data.toList) := by
  unfold numR; rw [if_neg (by omega)]

theorem byteAt_get (s : ByteArray) (k : Nat) (h : k < s.size) : byteAt s k = s[k].toNat := by
  unfold byteAt
  have h' : k < s.data.size := h
  rw [getElem!_pos s.data k h']
  rfl

theorem drop_cons (s : ByteArray) (k : Nat) (h : k < s.size) : s.data.toList.drop k = s[k] :: s.data.toList.drop (k + 1) := by
  rw [List.drop_eq_getElem_cons (by simpa using h)]; rfl

theorem numGo_step (s : ByteArray) (k v : Nat) (h : k < s.size) (h1 : 48 ≤ s[k].toNat) (h2 : s[k].toNat ≤ 57) : numGo v (s.data.toList.drop k) = numGo (10 * v + (s[k].toNat - 48)) (s.data.toList.drop (k + 1)) := by
  rw [drop_cons s k h, numGo, if_pos ⟨h1, h2⟩]
theorem numGo_bad (s : ByteArray) (k v : Nat) (h : k < s.size) (h1 : s[k].toNat < 48 ∨ 57 < s[k].toNat) : numGo v (s.data.toList.drop k) = none := by
  rw [drop_cons s k h, numGo, if_neg (by omega)]
theorem numGo_end (s : ByteArray) (k v : Nat) (h : s.size ≤ k) : numGo v (s.data.toList.drop k) = some v := by
  rw [List.drop_eq_nil_of_le (by have : s.data.toList.length = s.size := Array.length_toList; omega), numGo]

theorem pow_bound (k v : Nat) (hk : k ≤ 10) (h : v < 10 ^ k) : v < 10000000000 :=
  Nat.lt_of_lt_of_le h (Nat.le_trans (Nat.pow_le_pow_right (by omega) hk) (by decide))

def Num (s : ByteArray) (n i : Value) : Prop := ∃ k v : Nat, k ≤ s.size ∧ v < 10 ^ k ∧ i = .int .i64 k ∧ n = .int .i64 v ∧ numGo v (s.data.toList.drop k) = numGo 0 s.data.toList

set_option maxRecDepth 100000 in
set_option maxHeartbeats 1000000 in
theorem number_zero (s : ByteArray) (h0 : 0 < s.size) (hs : s.size ≤ 10) (h1 : 1 < s.size) (h48 : (s[0].toNat : Int) = 48) (w : World) :
    Calls Tryz.prog 18 #[.string s] w fun e w' => e = .returned (.int .i64 (-1)) ∧ w' = w := by
  have he := full_of s h0
  have hd1 : decide ((10 : Int) < (s.size : Int)) = false := by simp; omega
  have hd2 : decide ((1 : Int) < (s.size : Int)) = true := by simp; omega
  go_enter Tryz.func18, Tryz.ntmps18
  go_wp2
  go_ret
  exact ⟨rfl, rfl⟩

set_option maxRecDepth 100000 in
set_option maxHeartbeats 1000000 in
theorem number_long (s : ByteArray) (hs : 10 < s.size) (w : World) :
    Calls Tryz.prog 18 #[.string s] w fun e w' => e = .returned (.int .i64 (-1)) ∧ w' = w := by
  have he := full_of s (by omega)
  have hd1 : decide ((10 : Int) < (s.size : Int)) = true := by simp; omega
  go_enter Tryz.func18, Tryz.ntmps18
  go_wp2
  go_ret
  exact ⟨rfl, rfl⟩

set_option maxRecDepth 100000 in
set_option maxHeartbeats 1000000 in
theorem number_void (w : World) :
    Calls Tryz.prog 18 #[.string ⟨#[]⟩] w fun e w' => e = .returned (.int .i64 (-1)) ∧ w' = w := by
  go_enter Tryz.func18, Tryz.ntmps18
  go_wp2
  go_ret
  exact ⟨rfl, rfl⟩

theorem ret_n {a b : Int} (h : a = b) : Ending.returned (.int .i64 a) = .returned (.int .i64 b) := by rw [h]

set_option maxRecDepth 100000 in
set_option maxHeartbeats 1000000 in
theorem number_loop1 (s : ByteArray) (h0 : 0 < s.size) (hs : s.size ≤ 10) (h48 : (s[0].toNat : Int) ≠ 48) (w : World) :
    Calls Tryz.prog 18 #[.string s] w fun e w' => e = .returned (.int .i64 (numFin (numGo 0 s.data.toList))) ∧ w' = w := by
  have he := full_of s h0
  have hd1 : decide ((10 : Int) < (s.size : Int)) = false := by simp; omega
  go_enter Tryz.func18, Tryz.ntmps18
  go_wp2
  go_loop [3, 4] (fun n i => Num s n i) (fun _ i => s.size - (intOf i).toNat)
  case atStart => exact ⟨0, 0, Nat.zero_le _, by decide, rfl, rfl, by simp⟩
  case round =>
    obtain ⟨k, v, hk, hv, rfl, rfl, hgo⟩ := hrel
    have hvb := pow_bound k v (by omega) hv
    by_cases hlt : k < s.size
    · by_cases hc : 48 ≤ s[k].toNat ∧ s[k].toNat ≤ 57
      · have hst := numGo_step s k v hlt hc.1 hc.2
        have H := Lib.hid (hst.symm.trans hgo)
        have HV := Lib.hid hv
        have hc1 := hc.1
        have hc2 := hc.2
        clear hst hgo hv hc
        go_wp2
        go_round
        case rel =>
          refine ⟨k + 1, 10 * v + (s[k].toNat - 48), by omega, ?_, by go_num, ?_, H.out⟩
          · have := HV.out
            rw [Nat.pow_succ]; omega
          · exact congrArg (Value.int .i64) (by omega)
        case measure => simp [intOf]; omega
      · have hst := numGo_bad s k v hlt (by omega)
        have H := Lib.hid (hst.symm.trans hgo)
        have hc1 : s[k].toNat < 48 ∨ 57 < s[k].toNat := by omega
        clear hst hgo hv hc
        rcases hc1 with hc1 | hc1
        all_goals
          go_wp2
          go_ret
          exact ⟨ret_n (by rw [← H.out]; rfl), rfl⟩
    · have hst := numGo_end s k v (by omega)
      have H := Lib.hid (hst.symm.trans hgo)
      clear hst hgo hv
      by_cases hbig : 1000000000 < v
      · go_wp2
        go_ret
        exact ⟨ret_n (by rw [← H.out]; unfold numFin; simp only; rw [if_pos hbig]), rfl⟩
      · go_wp2
        go_ret
        exact ⟨ret_n (by rw [← H.out]; unfold numFin; simp only; rw [if_neg hbig]), rfl⟩

set_option maxRecDepth 100000 in
set_option maxHeartbeats 1000000 in
theorem number_loop2 (s : ByteArray) (h0 : 0 < s.size) (hs : s.size ≤ 10) (h1 : ¬ 1 < s.size) (h48 : (s[0].toNat : Int) = 48) (w : World) :
    Calls Tryz.prog 18 #[.string s] w fun e w' => e = .returned (.int .i64 (numFin (numGo 0 s.data.toList))) ∧ w' = w := by
  have he := full_of s h0
  have hd1 : decide ((10 : Int) < (s.size : Int)) = false := by simp; omega
  have hd2 : decide ((1 : Int) < (s.size : Int)) = false := by simp; omega
  go_enter Tryz.func18, Tryz.ntmps18
  go_wp2
  go_loop [3, 4] (fun n i => Num s n i) (fun _ i => s.size - (intOf i).toNat)
  case atStart => exact ⟨0, 0, Nat.zero_le _, by decide, rfl, rfl, by simp⟩
  case round =>
    obtain ⟨k, v, hk, hv, rfl, rfl, hgo⟩ := hrel
    have hvb := pow_bound k v (by omega) hv
    by_cases hlt : k < s.size
    · by_cases hc : 48 ≤ s[k].toNat ∧ s[k].toNat ≤ 57
      · have hst := numGo_step s k v hlt hc.1 hc.2
        have H := Lib.hid (hst.symm.trans hgo)
        have HV := Lib.hid hv
        have hc1 := hc.1
        have hc2 := hc.2
        clear hst hgo hv hc
        go_wp2
        go_round
        case rel =>
          refine ⟨k + 1, 10 * v + (s[k].toNat - 48), by omega, ?_, by go_num, ?_, H.out⟩
          · have := HV.out
            rw [Nat.pow_succ]; omega
          · exact congrArg (Value.int .i64) (by omega)
        case measure => simp [intOf]; omega
      · have hst := numGo_bad s k v hlt (by omega)
        have H := Lib.hid (hst.symm.trans hgo)
        have hc1 : s[k].toNat < 48 ∨ 57 < s[k].toNat := by omega
        clear hst hgo hv hc
        rcases hc1 with hc1 | hc1
        all_goals
          go_wp2
          go_ret
          exact ⟨ret_n (by rw [← H.out]; rfl), rfl⟩
    · have hst := numGo_end s k v (by omega)
      have H := Lib.hid (hst.symm.trans hgo)
      clear hst hgo hv
      by_cases hbig : 1000000000 < v
      · go_wp2
        go_ret
        exact ⟨ret_n (by rw [← H.out]; unfold numFin; simp only; rw [if_pos hbig]), rfl⟩
      · go_wp2
        go_ret
        exact ⟨ret_n (by rw [← H.out]; unfold numFin; simp only; rw [if_neg hbig]), rfl⟩

theorem number (s : ByteArray) (w : World) :
    Calls Tryz.prog 18 #[.string s] w fun e w' => e = .returned (.int .i64 (numR s)) ∧ w' = w := by
  by_cases h0 : s.size = 0
  · rw [numR_neg (.inl h0), void_of s h0]; exact number_void w
  · by_cases hs : 10 < s.size
    · rw [numR_neg (.inr (.inl hs))]; exact number_long s hs w
    · have hb := byteAt_get s 0 (by omega)
      by_cases h48 : s[0].toNat = 48
      · by_cases h1 : 1 < s.size
        · rw [numR_neg (.inr (.inr ⟨by omega, h1⟩))]; exact number_zero s (by omega) (by omega) h1 (by omega) w
        · rw [numR_go (by omega) (by omega) (by omega)]; exact number_loop2 s (by omega) (by omega) h1 (by omega) w
      · rw [numR_go (by omega) (by omega) (by omega)]; exact number_loop1 s (by omega) (by omega) (by omega) w
end Go.Proofs.YtjdllejnkgoehaaGreatDoor

/- The sort and the number of a work variable's label, as the reference reads them. -/
namespace Go.Proofs.YtjdllejnkgoehaaGreatDoor
open Go Go.RowKit

/- the sort, the number, whether it is one -/
def isR (s : ByteArray) : ByteArray × Int × Bool :=
  if Lib.lastIndexByte s 46 < 2 ∨ byteAt s 0 ≠ 38 then (⟨#[]⟩, 0, false)
  else if numR (s.extract ((Lib.lastIndexByte s 46).toNat + 1) s.size) < 0 then (⟨#[]⟩, 0, false)
  else (s.extract 1 (Lib.lastIndexByte s 46).toNat, numR (s.extract ((Lib.lastIndexByte s 46).toNat + 1) s.size), true)

def At (s : ByteArray) (i : Value) : Prop := ∃ k : Nat, k ≤ s.size ∧ i = .int .i64 ((k : Int) - 1) ∧ Lib.lastIdx s 46 k = Lib.lastIndexByte s 46

theorem isR_no {s : ByteArray} (h : Lib.lastIndexByte s 46 < 2 ∨ byteAt s 0 ≠ 38) : isR s = (⟨#[]⟩, 0, false) := by unfold isR; rw [if_pos h]
theorem isR_bad {s : ByteArray} {j : Nat} (hp : Lib.lastIndexByte s 46 = j) (h2 : ¬ j < 2) (h38 : byteAt s 0 = 38) (h : numR (s.extract (j + 1) s.size) < 0) : isR s = (⟨#[]⟩, 0, false) := by
  unfold isR
  rw [hp, if_neg (by omega), Int.toNat_natCast, if_pos h]
theorem isR_yes {s : ByteArray} {j : Nat} (hp : Lib.lastIndexByte s 46 = j) (h2 : ¬ j < 2) (h38 : byteAt s 0 = 38) (h : ¬ numR (s.extract (j + 1) s.size) < 0) : isR s = (s.extract 1 j, numR (s.extract (j + 1) s.size), true) := by
  unfold isR
  rw [hp, if_neg (by omega), Int.toNat_natCast, if_neg h]

theorem ret_3 {t u : ByteArray × Int × Bool} (h : t = u) : Ending.returned (.tuple #[.string t.1, .int .i64 t.2.1, .bool t.2.2]) = .returned (.tuple #[.string u.1, .int .i64 u.2.1, .bool u.2.2]) := by rw [h]

theorem last_hit (s : ByteArray) (j : Nat) (hj : j < s.size) (hc : (s[j].toNat : Int) = 46) : Lib.lastIdx s 46 (j + 1) = j := by
  refine Lib.lastIdx_hit s 46 j ?_
  have := byteAt_get s j hj
  unfold byteAt at this
  rw [this]; exact hc
theorem last_miss (s : ByteArray) (j : Nat) (hj : j < s.size) (hc : (s[j].toNat : Int) ≠ 46) : Lib.lastIdx s 46 (j + 1) = Lib.lastIdx s 46 j := by
  refine Lib.lastIdx_miss s 46 j ?_
  have := byteAt_get s j hj
  unfold byteAt at this
  rw [this]; exact hc

set_option maxRecDepth 100000 in
set_option maxHeartbeats 2000000 in
theorem isWorkRef (s : ByteArray) (hs : s.size ≤ 300) (w : World) :
    Calls Tryz.prog 8 #[.string s] w fun e w' => e = .returned (.tuple #[.string (isR s).1, .int .i64 (isR s).2.1, .bool (isR s).2.2]) ∧ w' = w := by
  go_enter Tryz.func8, Tryz.ntmps8
  go_wp2
  go_loop [5] (fun i => At s i) (fun i => (intOf i + 1).toNat)
  case atStart => exact ⟨s.size, Nat.le_refl _, rfl, rfl⟩
  case round =>
    obtain ⟨k, hk, rfl, hp⟩ := hrel
    rcases k with _ | j
    · rw [show (((0 : Nat) : Int) - 1) = -1 by omega]
      have H := Lib.hid hp
      clear hp
      go_wp2
      go_ret3
      exact ⟨ret_3 (t := (⟨#[]⟩, 0, false)) (isR_no (.inl (by rw [← H.out]; show (-1 : Int) < 2; decide))).symm, rfl⟩
    · rw [show (((j + 1 : Nat) : Int) - 1) = (j : Int) by omega]
      have hj : j < s.size := by omega
      have h0 : 0 < s.size := by omega
      have hb0 := byteAt_get s 0 h0
      by_cases hc : (s[j].toNat : Int) = 46
      · have hpj := hp.symm.trans (last_hit s j hj hc)
        by_cases h2 : j < 2
        · have H := Lib.hid (isR_no (s := s) (.inl (by omega)))
          clear hpj hp hb0
          go_wp2
          go_ret3
          exact ⟨ret_3 (t := (⟨#[]⟩, 0, false)) H.out.symm, rfl⟩
        · by_cases h38 : (s[0].toNat : Int) = 38
          · have HB := Lib.hid hb0
            have HP := Lib.hid hpj
            clear hpj hp hb0
            by_cases hn : numR (s.extract (j + 1) s.size) < 0
            · go_wp2_with (go_at_call 18; refine (number _ _).mono ?_; rintro e w' ⟨rfl, rfl⟩)
              go_ret3
              exact ⟨ret_3 (t := (⟨#[]⟩, 0, false)) (isR_bad HP.out h2 (by have := HB.out; omega) hn).symm, rfl⟩
            · go_wp2_with (go_at_call 18; refine (number _ _).mono ?_; rintro e w' ⟨rfl, rfl⟩)
              go_ret3
              exact ⟨ret_3 (t := (s.extract 1 j, numR (s.extract (j + 1) s.size), true)) (isR_yes HP.out h2 (by have := HB.out; omega) (Int.not_lt.2 hn)).symm, rfl⟩
          · have H := Lib.hid (isR_no (s := s) (.inr (by omega)))
            have hx : ((s[0].toNat : Int) != 38) = true := by simpa using h38
            clear hpj hp hb0
            go_wp2
            go_ret3
            exact ⟨ret_3 (t := (⟨#[]⟩, 0, false)) H.out.symm, rfl⟩
      · have H := Lib.hid ((last_miss s j hj hc).symm.trans hp)
        clear hp hb0
        go_wp2
        go_round
        case rel => exact ⟨j, by omega, rfl, H.out⟩
        case measure => simp [intOf]
end Go.Proofs.YtjdllejnkgoehaaGreatDoor

/- Reading a number back is its decimal digits: the package's way and the reference's way agree. No program in sight. -/
namespace Go.Proofs.YtjdllejnkgoehaaGreatDoor
open Go

theorem u8_eq {c : UInt8} {n : Nat} (h : c.toNat = n) : c = UInt8.ofNat n := by rw [← h]; simp

theorem numGo_le : ∀ (l : List UInt8) (acc v : Nat), numGo acc l = some v → acc ≤ v
  | [], acc, v, h => by simp [numGo] at h; omega
  | c :: r, acc, v, h => by
    rw [numGo] at h
    split at h
    · have := numGo_le r _ v h; omega
    · cases h

/- digits behind a number that is not 0 -/
theorem numGo_digits : ∀ (l : List UInt8) (acc v : Nat), 0 < acc → numGo acc l = some v → Lib.decDigits v = Lib.decDigits acc ++ l
  | [], acc, v, _, h => by simp [numGo] at h; subst h; simp
  | c :: r, acc, v, h0, h => by
    rw [numGo] at h
    split at h
    · rename_i hc
      rw [numGo_digits r _ v (by omega) h, digit_step (10 * acc + (c.toNat - 48)) (by omega)]
      have e1 : (10 * acc + (c.toNat - 48)) / 10 = acc := by omega
      have e2 : UInt8.ofNat (48 + (10 * acc + (c.toNat - 48)) % 10) = c := (u8_eq (by omega)).symm
      rw [e1, e2]; simp
    · cases h

theorem numGo_all (l : List UInt8) (v : Nat) (hne : l ≠ []) (hz : ¬ (l.head? = some 48 ∧ 1 < l.length)) (h : numGo 0 l = some v) : Lib.decDigits v = l := by
  match l, hne with
  | c :: r, _ =>
    rw [numGo] at h
    split at h
    · rename_i hc
      simp only [Nat.mul_zero, Nat.zero_add] at h
      by_cases h48 : c.toNat = 48
      · have hr : r = [] := by
          cases r with
          | nil => rfl
          | cons a b => exact absurd ⟨by rw [u8_eq h48]; rfl, by simp⟩ hz
        subst hr
        simp [numGo, h48] at h
        subst h
        rw [digit_small 0 (by omega), u8_eq h48]
      · rw [numGo_digits r _ v (by omega) h, digit_small (c.toNat - 48) (by omega)]
        have : UInt8.ofNat (48 + (c.toNat - 48)) = c := (u8_eq (by omega)).symm
        rw [this]; rfl
    · cases h

theorem numGo_snoc : ∀ (l : List UInt8) (acc : Nat) (c : UInt8), numGo acc (l ++ [c]) = match numGo acc l with
    | some a => if 48 ≤ c.toNat ∧ c.toNat ≤ 57 then some (10 * a + (c.toNat - 48)) else none
    | none => none
  | [], acc, c => by simp [numGo]
  | a :: r, acc, c => by
    rw [List.cons_append, numGo, numGo]
    split
    · exact numGo_snoc r _ c
    · rfl

theorem digit_nat (r : Nat) (h : r < 10) : (UInt8.ofNat (48 + r)).toNat = 48 + r := by simp; omega

theorem numGo_dec : ∀ (n : Nat), numGo 0 (Lib.decDigits n) = some n
  | n => by
    by_cases h : 9 < n
    · rw [digit_step n h, numGo_snoc, numGo_dec (n / 10)]
      simp only
      rw [digit_nat _ (by omega), if_pos (by omega)]
      congr 1; omega
    · rw [digit_small n (by omega), numGo, digit_nat n (by omega), if_pos (by omega), numGo]
      congr 1; omega
  termination_by n => n
  decreasing_by omega

theorem dec_head : ∀ (n : Nat), 0 < n → ∃ c r, Lib.decDigits n = c :: r ∧ c.toNat ≠ 48
  | n, h0 => by
    by_cases h : 9 < n
    · obtain ⟨c, r, h1, h2⟩ := dec_head (n / 10) (by omega)
      rw [digit_step n h, h1]
      exact ⟨c, _, rfl, h2⟩
    · rw [digit_small n (by omega)]
      exact ⟨_, [], rfl, by rw [digit_nat n (by omega)]; omega⟩
  termination_by n => n
  decreasing_by omega

theorem numGo_parse : ∀ (l : List UInt8) (acc v : Nat), v ≤ 1000000000 → numGo acc l = some v → Lib.parseUint10 acc l = .ok v
  | [], acc, v, _, h => by simp [numGo] at h; subst h; rfl
  | c :: r, acc, v, hv, h => by
    rw [numGo] at h
    split at h
    · rename_i hc
      have hle := numGo_le r _ v h
      unfold Lib.parseUint10
      rw [if_pos hc, if_neg (by omega), if_neg (by omega)]
      rw [show acc * 10 + (c.toNat - 48) = 10 * acc + (c.toNat - 48) by omega]
      exact numGo_parse r _ v hv h
    · cases h

/- ===== bytes ===== -/
theorem size_list (s : ByteArray) : s.data.toList.length = s.size := Array.length_toList

theorem byteAt_head (s : ByteArray) (h : 0 < s.size) : ∃ c r, s.data.toList = c :: r ∧ byteAt s 0 = c.toNat := by
  have h1 := size_list s
  cases hl : s.data.toList with
  | nil => rw [hl] at h1; simp at h1; omega
  | cons c r =>
    refine ⟨c, r, rfl, ?_⟩
    rw [byteAt_get s 0 h]
    have : s.data.toList[0]? = some c := by rw [hl]; rfl
    have h2 : s.data[0]? = some c := by simpa using this
    have h3 : s[0] = c := by
      obtain ⟨hh, h4⟩ := Array.getElem?_eq_some_iff.1 h2
      exact h4
    rw [h3]

theorem numR_spec (t : ByteArray) (h : 0 ≤ numR t) : ∃ v : Nat, numR t = v ∧ v ≤ 1000000000 ∧ t.data.toList = Lib.decDigits v ∧ Lib.atoiAll t.data.toList = .ok v := by
  unfold numR at h ⊢
  by_cases hb : t.size = 0 ∨ 10 < t.size ∨ (byteAt t 0 = 48 ∧ 1 < t.size)
  · rw [if_pos hb] at h; omega
  · rw [if_neg hb] at h ⊢
    cases hg : numGo 0 t.data.toList with
    | none => rw [hg] at h; simp [numFin] at h
    | some v =>
      rw [hg] at h
      simp only [numFin] at h ⊢
      by_cases hbig : 1000000000 < v
      · rw [if_pos hbig] at h; omega
      · rw [if_neg hbig]
        have h1 := size_list t
        obtain ⟨c, r, hl, hc⟩ := byteAt_head t (by omega)
        have hdig : Lib.decDigits v = t.data.toList := by
          refine numGo_all _ v (by rw [hl]; simp) (fun ⟨k1, k2⟩ => ?_) hg
          rw [hl] at k1
          simp only [List.head?_cons, Option.some.injEq] at k1
          refine hb (.inr (.inr ⟨by rw [hc, k1]; rfl, by omega⟩))
        refine ⟨v, rfl, by omega, hdig.symm, ?_⟩
        have hp := numGo_parse t.data.toList 0 v (by omega) hg
        rw [hl] at hp hg ⊢
        have hcd : 48 ≤ c.toNat ∧ c.toNat ≤ 57 := by
          rw [numGo] at hg
          split at hg
          · assumption
          · cases hg
        unfold Lib.atoiAll
        simp only
        rw [if_neg (by omega)]
        unfold Lib.parseMag
        rw [if_neg (by simp), hp]
        simp only
        rw [if_neg (by omega), if_neg (by omega), if_neg (by omega)]

theorem numR_dec (t : ByteArray) (v : Nat) (hv : v ≤ 1000000000) (h : t.data.toList = Lib.decDigits v) : numR t = v := by
  unfold numR
  have h1 := size_list t
  have hlen := digits_len 10 v (Nat.lt_of_le_of_lt hv (by decide)) (by omega)
  rw [h] at h1
  have hpos : 0 < (Lib.decDigits v).length := by
    by_cases h9 : 9 < v
    · rw [digit_step v h9]; simp
    · rw [digit_small v (by omega)]; simp
  rw [if_neg, h, numGo_dec v]
  · simp only [numFin]; rw [if_neg (by omega)]
  · rintro (hh | hh | ⟨hh, hh2⟩)
    · omega
    · omega
    · obtain ⟨c, r, hl, hc⟩ := byteAt_head t (by omega)
      by_cases h0 : v = 0
      · subst h0
        rw [digit_small 0 (by omega)] at h1
        simp at h1; omega
      · obtain ⟨c', r', k1, k2⟩ := dec_head v (by omega)
        rw [h, k1] at hl
        simp only [List.cons.injEq] at hl
        rw [hc, ← hl.1] at hh
        exact k2 hh
end Go.Proofs.YtjdllejnkgoehaaGreatDoor
