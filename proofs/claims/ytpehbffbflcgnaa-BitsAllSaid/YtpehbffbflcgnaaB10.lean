/- The reference: Set and Give. -/
import Derived.Test.YtpehbffbflcgnaaB9
set_option linter.unusedVariables false
namespace Go.Proofs.Ytpehbffbflcgnaa
open Go.RowKit

theorem IsMap.congr {ys : List Int} {m : Int} {f g : Int → Bool} (h : IsMap ys m f) (e : ∀ q, f q = g q) : IsMap ys m g := ⟨h.len, h.byt, fun q => (h.has q).trans (e q)⟩
theorem has_range {xs : List Int} {n : Int} (hf : fitsB xs n = true) {q : Int} (h : hasB xs q = true) : 0 ≤ q ∧ q < n := by
  have hp := fitsB_true.1 hf
  refine ⟨?_, ?_⟩
  · by_cases h0 : 0 ≤ q
    · exact h0
    · rw [hasB_neg (by omega)] at h; cases h
  · by_cases h0 : q < n
    · exact h0
    · rw [hp.2.2.2 q (by omega)] at h; cases h
theorem mem_list {xs : List Int} {n : Int} (hf : fitsB xs n = true) (q : Int) : q ∈ listB xs n ↔ hasB xs q = true := by
  have hp := fitsB_true.1 hf
  rw [listB_yes hf, mem_pickL]
  constructor
  · rintro ⟨_, _, h⟩; exact h
  · intro h
    have := has_range hf h
    exact ⟨this.1, by omega, h⟩
theorem mem_dropL {l : List Int} {x q : Int} : q ∈ dropL l x ↔ q ∈ l ∧ q ≠ x := by simp [dropL]

section setR
variable (A : Option Addr) (c : Nat) (xs : List Int) (n i : Int) (on : Bool) (w : World)
set_option maxHeartbeats 800000 in
theorem setR_form (hl : xs.length ≤ 600) (hr : RI w .u8 A xs) (hby : Byt xs) (hf : fitsB xs n = false) :
    Calls Try.prog 20 #[.slice A xs.length c, .int .i64 n, .int .i64 i, .bool on] w fun e w' => e = .returned (.tuple #[.slice none 0 0, .int .i64 4]) ∧ w = w' := by
  have HR := Lib.hid hr
  have HY := Lib.hid hby
  have HF := Lib.hid hf
  clear hr hby hf
  go_enter Try.func20, Try.ntmps20
  go_wp2_with (go_at_call 17; refine (fitsR_any _ _ _ _ _ hl HR.out HY.out).mono ?_; rw [HF.out]; rintro e w' ⟨rfl, rfl⟩)
  go_ret2
  exact ⟨rfl, rfl⟩
set_option maxHeartbeats 800000 in
theorem setR_range (hl : xs.length ≤ 600) (hr : RI w .u8 A xs) (hby : Byt xs) (hf : fitsB xs n = true) (hi : i < 0 ∨ n ≤ i) :
    Calls Try.prog 20 #[.slice A xs.length c, .int .i64 n, .int .i64 i, .bool on] w fun e w' => e = .returned (.tuple #[.slice none 0 0, .int .i64 20]) ∧ w = w' := by
  have HR := Lib.hid hr
  have HY := Lib.hid hby
  have HF := Lib.hid hf
  clear hr hby hf
  by_cases h0 : i < 0
  · clear hi
    go_enter Try.func20, Try.ntmps20
    go_wp2_with (go_at_call 17; refine (fitsR_any _ _ _ _ _ hl HR.out HY.out).mono ?_; rw [HF.out]; rintro e w' ⟨rfl, rfl⟩)
    go_ret2
    exact ⟨rfl, rfl⟩
  · have h1 : n ≤ i := by omega
    clear hi
    go_enter Try.func20, Try.ntmps20
    go_wp2_with (go_at_call 17; refine (fitsR_any _ _ _ _ _ hl HR.out HY.out).mono ?_; rw [HF.out]; rintro e w' ⟨rfl, rfl⟩)
    go_ret2
    exact ⟨rfl, rfl⟩

set_option maxHeartbeats 1600000 in
theorem setR_ok (hl : xs.length ≤ 600) (hr : RI w .u8 A xs) (hby : Byt xs) (hf : fitsB xs n = true) (h0 : 0 ≤ i) (h1 : i < n) :
    Calls Try.prog 20 #[.slice A xs.length c, .int .i64 n, .int .i64 i, .bool on] w (GivesMap w (sizeI n) (fun q => if q = i then on else hasB xs q)) := by
  have HR := Lib.hid hr
  have HY := Lib.hid hby
  have HF := Lib.hid hf
  have hn := (fitsB_true.1 hf).2.1
  have hn0 := (fitsB_true.1 hf).1
  have h0' : ¬ i < 0 := by omega
  have h1' : ¬ n ≤ i := by omega
  have hll : (listB xs n).length ≤ n.toNat := by rw [listB_yes hf]; exact pickL_length _ _
  have hdl := dropL_le (listB xs n) i
  have HP : Hid (∀ q ∈ dropL (listB xs n) i, 0 ≤ q ∧ q < n) := Lib.hid (fun q hq => has_range hf ((mem_list hf q).1 (mem_dropL.1 hq).1))
  have HQ : Hid (∀ q ∈ dropL (listB xs n) i ++ [i], 0 ≤ q ∧ q < n) := Lib.hid (fun q hq => by
    rcases List.mem_append.1 hq with h | h
    · exact HP.out q h
    · have := List.mem_singleton.1 h; subst this; exact ⟨h0, h1⟩)
  have HE : Hid (∀ q, decide (q ∈ dropL (listB xs n) i) = if q = i then false else hasB xs q) := Lib.hid (fun q => by
    rw [Bool.eq_iff_iff, decide_eq_true_eq, mem_dropL, mem_list hf]
    by_cases e : q = i <;> simp [e])
  have HE2 : Hid (∀ q, decide (q ∈ dropL (listB xs n) i ++ [i]) = if q = i then true else hasB xs q) := Lib.hid (fun q => by
    have := HE.out q
    by_cases e : q = i
    · simp [e]
    · rw [if_neg e] at this ⊢; rw [← this]; simp [e])
  obtain ⟨l4, hl4⟩ : ∃ l4, l4 = dropL (listB xs n) i ++ [i] := ⟨_, rfl⟩
  have hl4n : l4.length ≤ 5000 := by rw [hl4]; simp; omega
  rw [← hl4] at HQ HE2
  have HL4 := Lib.hid hl4
  clear hr hby hf hl4
  cases on with
  | false =>
    go_enter Try.func20, Try.ntmps20
    go_wp2_with (first
      | (go_at_call 17; refine (fitsR_any _ _ _ _ _ hl HR.out HY.out).mono ?_; rw [HF.out]; rintro e w' ⟨rfl, rfl⟩)
      | (go_at_call 18; refine (listR_any _ _ _ _ _ hl HR.out HY.out).mono ?_; rintro e w1 ⟨v1, rfl, hown1, hbel1⟩; obtain ⟨B1, c1, rfl, hr1⟩ := hown1.reads; have HR1 := Lib.hid hr1; clear hr1)
      | (go_at_call 27; refine (without_any _ _ _ _ _ HR1.out (by omega)).mono ?_; rintro e w2 ⟨v2, rfl, hown2, hbel2⟩; obtain ⟨B2, c2, rfl, hr2⟩ := hown2.reads; have HR2 := Lib.hid hr2; clear hr2)
      | (go_at_call 26; refine (of_any _ _ _ _ _ hn0 hn HR2.out (by omega) HP.out).mono ?_; rintro e w3 ⟨ys, v3, hmap3, rfl, hown3, hbel3⟩))
    go_ret2
    refine ⟨ys, hmap3.congr HE.out, v3, rfl, hown3.mono ?_, below_then hbel1 (below_then hbel2 hbel3)⟩
    exact Nat.le_trans hbel1.size hbel2.size
  | true =>
    go_enter Try.func20, Try.ntmps20
    go_wp2_with (first
      | (go_at_call 17; refine (fitsR_any _ _ _ _ _ hl HR.out HY.out).mono ?_; rw [HF.out]; rintro e w' ⟨rfl, rfl⟩)
      | (go_at_call 18; refine (listR_any _ _ _ _ _ hl HR.out HY.out).mono ?_; rintro e w1 ⟨v1, rfl, hown1, hbel1⟩; obtain ⟨B1, c1, rfl, hr1⟩ := hown1.reads; have HR1 := Lib.hid hr1; clear hr1)
      | (go_at_call 27; refine (without_any _ _ _ _ _ HR1.out (by omega)).mono ?_; rintro e w2 ⟨v2, rfl, hown2, hbel2⟩; obtain ⟨B2, c2, rfl, hr2⟩ := hown2.reads; have HR2 := Lib.hid hr2; clear hr2)
      | (at_builtin; refine wp_append1 w1.heap.size rfl (.tmp 32) (.tmp 34) 24 3 .i64 8 rfl Try.underlying24 Try.info3 (by decide) _ (dropL (listB xs n) i) i rfl rfl hown2 hbel2 hbel2.size (by omega) ?_; intro v4 w4 hown4 hbel4 hgr4; rw [← HL4.out] at hown4; obtain ⟨B4, c4, rfl, hr4⟩ := hown4.reads; have HR4 := Lib.hid hr4; clear hr4)
      | (go_at_call 26; refine (of_any _ _ _ _ _ hn0 hn HR4.out (by omega) HQ.out).mono ?_; rintro e w3 ⟨ys, v3, hmap3, rfl, hown3, hbel3⟩))
    go_ret2
    refine ⟨ys, hmap3.congr HE2.out, v3, rfl, hown3.mono ?_, below_then hbel1 (below_then hbel4 hbel3)⟩
    exact Nat.le_trans hbel1.size hbel4.size
end setR
end Go.Proofs.Ytpehbffbflcgnaa
