/- What Fits of the program and of the reference answers: whether bytes are a bitmap. -/
import Derived.Test.YtpehbffbflcgnaaB1
namespace Go.Proofs.Ytpehbffbflcgnaa
open Go.RowKit

/-- Are the bytes a bitmap of n? -/
def FitsP (xs : List Int) (n : Int) : Prop :=
  0 ≤ n ∧ n ≤ 4096 ∧ ((xs.length : Int) = 0 ∨ (xs.length : Int) = sizeI n) ∧ ∀ i, n ≤ i → hasB xs i = false
noncomputable def fitsB (xs : List Int) (n : Int) : Bool := @decide (FitsP xs n) (Classical.propDecidable _)
theorem fitsB_true {xs : List Int} {n : Int} : fitsB xs n = true ↔ FitsP xs n := by
  unfold fitsB; exact @decide_eq_true_iff _ (Classical.propDecidable _)
theorem fitsB_false {xs : List Int} {n : Int} (h : ¬ FitsP xs n) : fitsB xs n = false := by
  rw [Bool.eq_false_iff]; intro h'; exact h (fitsB_true.1 h')

section fits
variable (A : Option Addr) (c : Nat) (xs : List Int) (n : Int) (w : World)
set_option maxHeartbeats 400000 in
theorem fits_wrong (h : ¬ (0 ≤ n ∧ n ≤ 4096)) :
    Calls Try.prog 23 #[.slice A xs.length c, .int .i64 n] w fun e w' => e = .returned (.bool false) ∧ w = w' := by
  have hb : (decide (0 ≤ n) && decide (n ≤ 4096)) = false := by simp; omega
  have hB := Lib.hid hb
  clear hb
  go_enter Try.func23, Try.ntmps23
  go_wp2_with (go_at_call 29; refine (right_any _ _).mono ?_; rw [hB.out]; rintro e w' ⟨rfl, rfl⟩)
  go_ret
  exact ⟨rfl, rfl⟩

set_option maxHeartbeats 400000 in
theorem fits_long (h : 0 ≤ n) (h1 : n ≤ 4096) (hl : ¬ (xs.length : Int) = 0) (hs : ¬ (xs.length : Int) = sizeI n) :
    Calls Try.prog 23 #[.slice A xs.length c, .int .i64 n] w fun e w' => e = .returned (.bool false) ∧ w = w' := by
  have hb : (decide (0 ≤ n) && decide (n ≤ 4096)) = true := by simp; omega
  have hB := Lib.hid hb
  clear hb
  have h1' : ((xs.length : Int) != 0) = true := bne_iff_ne.2 hl
  have h2' : ((xs.length : Int) != sizeI n) = true := bne_iff_ne.2 hs
  go_enter Try.func23, Try.ntmps23
  go_wp2_with (first | (go_at_call 29; refine (right_any _ _).mono ?_; rw [hB.out]; rintro e w' ⟨rfl, rfl⟩) | (go_at_call 30; refine (size_any _ _ h h1).mono ?_; rintro e w' ⟨rfl, rfl⟩))
  go_ret
  exact ⟨rfl, rfl⟩

/-- What the loop finds from i on. -/
theorem fits_tells {xs : List Int} {n : Int} (h : 0 ≤ n) (h1 : n ≤ 4096) (hs : (xs.length : Int) = 0 ∨ (xs.length : Int) = sizeI n) (k : Int) (h8 : 8 * (xs.length : Int) ≤ k)
    (hall : ∀ i, n ≤ i → i < k → hasB xs i = false) : true = fitsB xs n := by
  refine (fitsB_true.2 ⟨h, h1, hs, fun i hi => ?_⟩).symm
  by_cases h2 : i < k
  · exact hall i hi h2
  · exact hasB_far (by omega)
theorem fits_finds {xs : List Int} {n : Int} (k : Int) (hk : n ≤ k) (hh : hasB xs k = true) : false = fitsB xs n := by
  refine (fitsB_false ?_).symm
  rintro ⟨_, _, _, h⟩
  rw [h k hk] at hh
  cases hh

set_option maxHeartbeats 800000 in
theorem fits_all (h : 0 ≤ n) (h1 : n ≤ 4096) (hs : (xs.length : Int) = 0 ∨ (xs.length : Int) = sizeI n) (hl : xs.length ≤ 600) (hr : RI w .u8 A xs) (hby : Byt xs) :
    Calls Try.prog 23 #[.slice A xs.length c, .int .i64 n] w fun e w' => e = .returned (.bool (fitsB xs n)) ∧ w = w' := by
  have hb : (decide (0 ≤ n) && decide (n ≤ 4096)) = true := by simp; omega
  have hB := Lib.hid hb
  have HR := Lib.hid hr
  have HY := Lib.hid hby
  have HS := Lib.hid hs
  clear hb hr hby
  by_cases hz : (xs.length : Int) = 0
  all_goals
    first
    | have h1' : ((xs.length : Int) != 0) = false := by rw [hz]; rfl
    | (have h1' : ((xs.length : Int) != 0) = true := bne_iff_ne.2 hz
       have h2' : ((xs.length : Int) != sizeI n) = false := by rw [hs.resolve_left hz]; simp)
    clear hs hz
    go_enter Try.func23, Try.ntmps23
    go_wp2_with (first | (go_at_call 29; refine (right_any _ _).mono ?_; rw [hB.out]; rintro e w' ⟨rfl, rfl⟩) | (go_at_call 30; refine (size_any _ _ h h1).mono ?_; rintro e w' ⟨rfl, rfl⟩))
    go_loop [5] (fun j => ∃ k : Int, n ≤ k ∧ k ≤ 8 * (xs.length : Int) + 4096 ∧ j = .int .i64 k ∧ Hid (∀ i, n ≤ i → i < k → hasB xs i = false)) (fun j => (8 * (xs.length : Int) - intOf j).toNat)
    case atStart => exact ⟨n, by omega, by omega, rfl, Lib.hid (fun i h h' => by omega)⟩
    case round =>
      obtain ⟨k, hk, hk2, rfl, hall⟩ := hrel
      by_cases hlt : k < 8 * (xs.length : Int)
      · cases hh : hasB xs k with
        | true =>
          have HH := Lib.hid hh
          clear hh
          go_wp2_with (go_at_call 14; refine (has_any _ _ _ _ _ (by omega) (by omega) HR.out HY.out).mono ?_; rw [HH.out]; rintro e w' ⟨rfl, rfl⟩)
          go_ret
          exact ⟨ret_bool (fits_finds k hk HH.out), rfl⟩
        | false =>
          have HH := Lib.hid hh
          clear hh
          go_wp2_with (go_at_call 14; refine (has_any _ _ _ _ _ (by omega) (by omega) HR.out HY.out).mono ?_; rw [HH.out]; rintro e w' ⟨rfl, rfl⟩)
          go_round
          case rel => exact ⟨k + 1, by omega, by omega, rfl, Lib.hid (fun i hi hi' => if hik : i = k then hik ▸ HH.out else hall.out i hi (by omega))⟩
          case measure => simp [intOf]; omega
      · go_wp2
        go_ret
        exact ⟨ret_bool (fits_tells h h1 HS.out k (by omega) hall.out), rfl⟩

theorem fits_any (hl : xs.length ≤ 600) (hr : RI w .u8 A xs) (hby : Byt xs) :
    Calls Try.prog 23 #[.slice A xs.length c, .int .i64 n] w fun e w' => e = .returned (.bool (fitsB xs n)) ∧ w = w' := by
  by_cases h : 0 ≤ n ∧ n ≤ 4096
  · by_cases hs : (xs.length : Int) = 0 ∨ (xs.length : Int) = sizeI n
    · exact fits_all A c xs n w h.1 h.2 hs hl hr hby
    · rw [fitsB_false (fun hf => hs hf.2.2.1)]
      exact fits_long A c xs n w h.1 h.2 (fun e => hs (.inl e)) (fun e => hs (.inr e))
  · rw [fitsB_false (fun hf => h ⟨hf.1, hf.2.1⟩)]
    exact fits_wrong A c xs n w h

set_option maxHeartbeats 400000 in
theorem fitsR_wrong (h : ¬ (0 ≤ n ∧ n ≤ 4096)) :
    Calls Try.prog 17 #[.slice A xs.length c, .int .i64 n] w fun e w' => e = .returned (.bool false) ∧ w = w' := by
  by_cases h0 : n < 0
  · go_enter Try.func17, Try.ntmps17
    go_wp2
    go_ret
    exact ⟨rfl, rfl⟩
  · have h1 : (4096 : Int) < n := by omega
    go_enter Try.func17, Try.ntmps17
    go_wp2
    go_ret
    exact ⟨rfl, rfl⟩

set_option maxHeartbeats 400000 in
theorem fitsR_long (h : 0 ≤ n) (h1 : n ≤ 4096) (hl : ¬ (xs.length : Int) = 0) (hs : ¬ (xs.length : Int) = sizeI n) :
    Calls Try.prog 17 #[.slice A xs.length c, .int .i64 n] w fun e w' => e = .returned (.bool false) ∧ w = w' := by
  have h0' : ¬ n < 0 := by omega
  have h1' : ¬ (4096 : Int) < n := by omega
  have h3' : (0 : Int) < (xs.length : Int) := by omega
  have h2' : ((xs.length : Int) != sizeI n) = true := bne_iff_ne.2 hs
  go_enter Try.func17, Try.ntmps17
  go_wp2_with (go_at_call 22; refine (sizeR_any _ _ h h1).mono ?_; rintro e w' ⟨rfl, rfl⟩)
  go_ret
  exact ⟨rfl, rfl⟩

set_option maxHeartbeats 800000 in
theorem fitsR_all (h : 0 ≤ n) (h1 : n ≤ 4096) (hs : (xs.length : Int) = 0 ∨ (xs.length : Int) = sizeI n) (hl : xs.length ≤ 600) (hr : RI w .u8 A xs) (hby : Byt xs) :
    Calls Try.prog 17 #[.slice A xs.length c, .int .i64 n] w fun e w' => e = .returned (.bool (fitsB xs n)) ∧ w = w' := by
  have h0' : ¬ n < 0 := by omega
  have h4' : ¬ (4096 : Int) < n := by omega
  have HR := Lib.hid hr
  have HY := Lib.hid hby
  have HS := Lib.hid hs
  clear hr hby
  by_cases hz : (xs.length : Int) = 0
  all_goals
    first
    | have h1' : ¬ (0 : Int) < (xs.length : Int) := by omega
    | (have h1' : (0 : Int) < (xs.length : Int) := by omega
       have h2' : ((xs.length : Int) != sizeI n) = false := by rw [hs.resolve_left hz]; simp)
    clear hs hz
    go_enter Try.func17, Try.ntmps17
    go_wp2_with (go_at_call 22; refine (sizeR_any _ _ h h1).mono ?_; rintro e w' ⟨rfl, rfl⟩)
    go_loop [5] (fun j => ∃ k : Int, n ≤ k ∧ k ≤ 8 * (xs.length : Int) + 4096 ∧ j = .int .i64 k ∧ Hid (∀ i, n ≤ i → i < k → hasB xs i = false)) (fun j => (8 * (xs.length : Int) - intOf j).toNat)
    case atStart => exact ⟨n, by omega, by omega, rfl, Lib.hid (fun i h h' => by omega)⟩
    case round =>
      obtain ⟨k, hk, hk2, rfl, hall⟩ := hrel
      by_cases hlt : k < 8 * (xs.length : Int)
      · cases hh : hasB xs k with
        | true =>
          have HH := Lib.hid hh
          clear hh
          go_wp2_with (go_at_call 24; refine (hasR_any _ _ _ _ _ (by omega) (by omega) HR.out HY.out).mono ?_; rw [HH.out]; rintro e w' ⟨rfl, rfl⟩)
          go_ret
          exact ⟨ret_bool (fits_finds k hk HH.out), rfl⟩
        | false =>
          have HH := Lib.hid hh
          clear hh
          go_wp2_with (go_at_call 24; refine (hasR_any _ _ _ _ _ (by omega) (by omega) HR.out HY.out).mono ?_; rw [HH.out]; rintro e w' ⟨rfl, rfl⟩)
          go_round
          case rel => exact ⟨k + 1, by omega, by omega, rfl, Lib.hid (fun i hi hi' => if hik : i = k then hik ▸ HH.out else hall.out i hi (by omega))⟩
          case measure => simp [intOf]; omega
      · go_wp2
        go_ret
        exact ⟨ret_bool (fits_tells h h1 HS.out k (by omega) hall.out), rfl⟩

theorem fitsR_any (hl : xs.length ≤ 600) (hr : RI w .u8 A xs) (hby : Byt xs) :
    Calls Try.prog 17 #[.slice A xs.length c, .int .i64 n] w fun e w' => e = .returned (.bool (fitsB xs n)) ∧ w = w' := by
  by_cases h : 0 ≤ n ∧ n ≤ 4096
  · by_cases hs : (xs.length : Int) = 0 ∨ (xs.length : Int) = sizeI n
    · exact fitsR_all A c xs n w h.1 h.2 hs hl hr hby
    · rw [fitsB_false (fun hf => hs hf.2.2.1)]
      exact fitsR_long A c xs n w h.1 h.2 (fun e => hs (.inl e)) (fun e => hs (.inr e))
  · rw [fitsB_false (fun hf => h ⟨hf.1, hf.2.1⟩)]
    exact fitsR_wrong A c xs n w h
end fits
end Go.Proofs.Ytpehbffbflcgnaa
