/- What the functions that only read a bitmap answer: Has, Fits, Size of the program and of the reference. -/
import Derived.Test.YtpehbffbflcgnaaProg
import Derived.Test.YtpehbffbflcgnaaB0
import Derived.WalkSpells
import Derived.WalkLawsBesides
import Derived.KernelRfl
import Derived.Lib.Hide
import Derived.LoopTactic
import Derived.Deep.LoopGhost
namespace Go.Proofs.Ytpehbffbflcgnaa
open Go.RowKit

/-- Under a slice's address integers of a kind are read. -/
def RI (w : World) (k : IntKind) (A : Option Addr) (xs : List Int) : Prop :=
  0 < xs.length → ∃ ad, A = some ad ∧ ∀ j, j < xs.length → w.cell? (ad.add j) = some (.int k (xs.getD j 0))

theorem ret_bool {a b : Bool} (h : a = b) : Ending.returned (.bool a) = .returned (.bool b) := by rw [h]
theorem ret_int {k : IntKind} {a b : Int} (h : a = b) : Ending.returned (.int k a) = .returned (.int k b) := by rw [h]

section has
variable (A : Option Addr) (c : Nat) (xs : List Int) (i : Int) (w : World)
set_option maxHeartbeats 400000 in
theorem has_neg (h : i < 0) :
    Calls Try.prog 14 #[.slice A xs.length c, .int .i64 i] w fun e w' => e = .returned (.bool false) ∧ w = w' := by
  have h' : ¬ 0 ≤ i := by omega
  go_enter Try.func14, Try.ntmps14
  go_wp2
  go_ret
  exact ⟨rfl, rfl⟩

set_option maxHeartbeats 400000 in
theorem has_far (h : 0 ≤ i) (h1 : (xs.length : Int) ≤ i / 8) (hi : i ≤ 9223372036854775807) :
    Calls Try.prog 14 #[.slice A xs.length c, .int .i64 i] w fun e w' => e = .returned (.bool false) ∧ w = w' := by
  go_enter Try.func14, Try.ntmps14
  go_wp2
  go_ret
  exact ⟨rfl, rfl⟩

set_option maxHeartbeats 400000 in
theorem has_in (h : 0 ≤ i) (h1 : i / 8 < (xs.length : Int)) (hi : i ≤ 9223372036854775807) (hr : RI w .u8 A xs) (hb : Byt xs) :
    Calls Try.prog 14 #[.slice A xs.length c, .int .i64 i] w fun e w' => e = .returned (.bool (hasB xs i)) ∧ w = w' := by
  obtain ⟨ad, rfl, hc⟩ := hr (by omega)
  have hx := hc (i / 8).toNat (by omega)
  have he := Lib.hid (has_in_eq hb h h1)
  clear hc hb
  go_enter Try.func14, Try.ntmps14
  go_wp2
  go_ret
  exact ⟨ret_bool he.out, rfl⟩

theorem has_any (hi0 : -9223372036854775808 ≤ i) (hi : i ≤ 9223372036854775807) (hr : RI w .u8 A xs) (hb : Byt xs) :
    Calls Try.prog 14 #[.slice A xs.length c, .int .i64 i] w fun e w' => e = .returned (.bool (hasB xs i)) ∧ w = w' := by
  by_cases h : i < 0
  · rw [hasB_neg h]; exact has_neg A c xs i w h
  · by_cases h1 : i / 8 < (xs.length : Int)
    · exact has_in A c xs i w (by omega) h1 hi hr hb
    · rw [hasB_far (by omega)]; exact has_far A c xs i w (by omega) (by omega) hi

set_option maxHeartbeats 400000 in
theorem hasR_neg (h : i < 0) :
    Calls Try.prog 24 #[.slice A xs.length c, .int .i64 i] w fun e w' => e = .returned (.bool false) ∧ w = w' := by
  go_enter Try.func24, Try.ntmps24
  go_wp2
  go_ret
  exact ⟨rfl, rfl⟩

set_option maxHeartbeats 400000 in
theorem hasR_far (h : 0 ≤ i) (h1 : (xs.length : Int) ≤ i / 8) (hi : i ≤ 9223372036854775807) :
    Calls Try.prog 24 #[.slice A xs.length c, .int .i64 i] w fun e w' => e = .returned (.bool false) ∧ w = w' := by
  have h' : ¬ i < 0 := by omega
  go_enter Try.func24, Try.ntmps24
  go_wp2
  go_ret
  exact ⟨rfl, rfl⟩

theorem testBit_div (x : Int) (h0 : 0 ≤ x) (k : Nat) : (x / 2 ^ k % 2 == 1) = x.toNat.testBit k := by
  obtain ⟨n, rfl⟩ := Int.eq_ofNat_of_zero_le h0
  have e : ((n : Int) / 2 ^ k) = ((n / 2 ^ k : Nat) : Int) := by simp
  rw [e, Int.toNat_natCast, Nat.testBit_eq_decide_div_mod_eq]
  generalize n / 2 ^ k = m
  rw [Bool.eq_iff_iff]; simp; omega
theorem div_two_pow (x : Int) (k : Nat) : x / 2 ^ k / 2 = x / 2 ^ (k + 1) := by
  rw [Int.pow_succ, Int.ediv_ediv_of_nonneg (by exact Int.le_of_lt (Int.pow_pos (by decide)))]
theorem div_pow_bd (x : Int) (h0 : 0 ≤ x) (h1 : x < 256) (k : Nat) : 0 ≤ x / 2 ^ k ∧ x / 2 ^ k < 256 :=
  ⟨Int.ediv_nonneg h0 (Int.le_of_lt (Int.pow_pos (by decide))), Int.lt_of_le_of_lt (Int.ediv_le_self _ h0) h1⟩

set_option maxHeartbeats 400000 in
theorem hasR_in (h : 0 ≤ i) (h1 : i / 8 < (xs.length : Int)) (hi : i ≤ 9223372036854775807) (hr : RI w .u8 A xs) (hb : Byt xs) :
    Calls Try.prog 24 #[.slice A xs.length c, .int .i64 i] w fun e w' => e = .returned (.bool (hasB xs i)) ∧ w = w' := by
  obtain ⟨ad, rfl, hc⟩ := hr (by omega)
  have hx := hc (i / 8).toNat (by omega)
  have h' : ¬ i < 0 := by omega
  have hbd := byt_getD hb (i / 8).toNat
  have he : hasB xs i = (xs.getD (i / 8).toNat 0).toNat.testBit (i % 8).toNat := by simp [hasB, h, h1]
  generalize xs.getD (i / 8).toNat 0 = x at *
  have hE := Lib.hid he
  clear hc hb hr he
  go_enter Try.func24, Try.ntmps24
  go_wp2
  go_loop [5, 6] (fun c j => ∃ k : Nat, k ≤ (i % 8).toNat ∧ j = .int .i64 k ∧ c = .int .u8 (x / 2 ^ k)) (fun _ j => ((i % 8).toNat - (intOf j).toNat))
  case atStart => exact ⟨0, by omega, rfl, by simp⟩
  case round =>
    obtain ⟨k, hk, rfl, rfl⟩ := hrel
    have hd := div_pow_bd x hbd.1 hbd.2 k
    by_cases hlt : (k : Int) < i % 8
    · go_wp2
      go_round
      case rel => exact ⟨k + 1, by omega, by go_num, by rw [← div_two_pow x]⟩
      case measure => simp [intOf]; omega
    · go_wp2
      go_ret
      refine ⟨ret_bool ?_, rfl⟩
      rw [hE.out, ← testBit_div x hbd.1, show (i % 8).toNat = k by omega]

theorem hasR_any (hi0 : -9223372036854775808 ≤ i) (hi : i ≤ 9223372036854775807) (hr : RI w .u8 A xs) (hb : Byt xs) :
    Calls Try.prog 24 #[.slice A xs.length c, .int .i64 i] w fun e w' => e = .returned (.bool (hasB xs i)) ∧ w = w' := by
  by_cases h : i < 0
  · rw [hasB_neg h]; exact hasR_neg A c xs i w h
  · by_cases h1 : i / 8 < (xs.length : Int)
    · exact hasR_in A c xs i w (by omega) h1 hi hr hb
    · rw [hasB_far (by omega)]; exact hasR_far A c xs i w (by omega) (by omega) hi
end has

/-- How many bytes n bits have. -/
def sizeI (n : Int) : Int := (n + 7) / 8

set_option maxHeartbeats 400000 in
theorem right_any (n : Int) (w : World) :
    Calls Try.prog 29 #[.int .i64 n] w fun e w' => e = .returned (.bool (decide (0 ≤ n) && decide (n ≤ 4096))) ∧ w = w' := by
  by_cases h : 0 ≤ n
  · go_enter Try.func29, Try.ntmps29
    go_wp2
    go_ret
    exact ⟨ret_bool (by simp [h]), rfl⟩
  · go_enter Try.func29, Try.ntmps29
    go_wp2
    go_ret
    exact ⟨ret_bool (by simp; omega), rfl⟩

set_option maxHeartbeats 400000 in
theorem size_any (n : Int) (w : World) (h0 : 0 ≤ n) (h1 : n ≤ 4096) :
    Calls Try.prog 30 #[.int .i64 n] w fun e w' => e = .returned (.int .i64 (sizeI n)) ∧ w = w' := by
  go_enter Try.func30, Try.ntmps30
  go_wp2
  go_ret
  exact ⟨ret_int (by unfold sizeI; omega), rfl⟩

set_option maxHeartbeats 400000 in
theorem sizeR_any (n : Int) (w : World) (h0 : 0 ≤ n) (h1 : n ≤ 4096) :
    Calls Try.prog 22 #[.int .i64 n] w fun e w' => e = .returned (.int .i64 (sizeI n)) ∧ w = w' := by
  go_enter Try.func22, Try.ntmps22
  go_wp2
  go_loop [3] (fun j => ∃ k : Nat, (k : Int) ≤ sizeI n ∧ j = .int .i64 k) (fun j => ((sizeI n).toNat - (intOf j).toNat))
  case atStart => exact ⟨0, by unfold sizeI; omega, rfl⟩
  case round =>
    obtain ⟨k, hk, rfl⟩ := hrel
    unfold sizeI at hk
    by_cases hlt : 8 * (k : Int) < n
    · go_wp2
      go_round
      case rel => exact ⟨k + 1, by unfold sizeI; omega, by go_num⟩
      case measure => simp [intOf, sizeI]; omega
    · go_wp2
      go_ret
      exact ⟨ret_int (by unfold sizeI; omega), rfl⟩

end Go.Proofs.Ytpehbffbflcgnaa
