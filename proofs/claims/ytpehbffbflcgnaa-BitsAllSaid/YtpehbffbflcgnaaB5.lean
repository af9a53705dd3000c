/- Count of the program; whole (a bitmap with all of its bytes, in new memory); New. -/
import Derived.Test.YtpehbffbflcgnaaB4
import Derived.Laws.CopyOwn
import Derived.Deep.OwnRows
set_option linter.unusedVariables false
namespace Go.Proofs.Ytpehbffbflcgnaa
open Go.RowKit

def popTo (xs : List Int) : Nat → Nat
  | 0 => 0
  | k + 1 => popTo xs k + pop8 (xs.getD k 0).toNat
theorem popTo_le (xs : List Int) (k : Nat) : popTo xs k ≤ 8 * k := by
  induction k with
  | zero => simp [popTo]
  | succ k ih => have := pop8_le (xs.getD k 0).toNat; simp only [popTo]; omega

theorem pickL_len_add (f : Int → Bool) (a b : Nat) : (pickL f (a + b)).length = (pickL f a).length + (List.range b).countP (fun j : Nat => f ((a : Int) + (j : Int))) := by
  induction b with
  | zero => simp
  | succ b ih =>
    rw [← Nat.add_assoc, List.range_succ, List.countP_append]
    have e : ((a + b : Nat) : Int) = (a : Int) + (b : Int) := by omega
    cases h : f ((a : Int) + (b : Int)) <;> simp [pickL, e, h, ih] <;> omega
theorem pickL_stop (f : Int → Bool) (a b : Nat) (hab : a ≤ b) (h : ∀ i : Int, (a : Int) ≤ i → i < b → f i = false) : pickL f b = pickL f a := by
  induction b with
  | zero => have : a = 0 := by omega
            rw [this]
  | succ b ih =>
    by_cases e : a = b + 1
    · rw [e]
    · rw [pickL_miss (h b (by omega) (by omega))]
      exact ih (by omega) (fun i h1 h2 => h i h1 (by omega))
theorem popTo_eq (xs : List Int) (k : Nat) (hk : k ≤ xs.length) : popTo xs k = (pickL (hasB xs) (8 * k)).length := by
  induction k with
  | zero => simp [popTo, pickL]
  | succ k ih =>
    rw [show 8 * (k + 1) = 8 * k + 8 by omega, pickL_len_add, popTo, ih (by omega)]
    congr 1
    unfold pop8
    apply List.countP_congr
    intro j hj
    have hj8 : j < 8 := by simpa using hj
    have e1 : (((8 * k : Nat) : Int) + (j : Int)) / 8 = k := by omega
    have e2 : ((((8 * k : Nat) : Int) + (j : Int)) % 8).toNat = j := by omega
    have e3 : (0 : Int) ≤ ((8 * k : Nat) : Int) + (j : Int) := by omega
    simp only [hasB, e1, e2, e3, Int.toNat_natCast, decide_true, Bool.true_and, show ((k : Int) < xs.length) by omega]
theorem popTo_list {xs : List Int} {n : Int} (h : fitsB xs n = true) : popTo xs xs.length = (listB xs n).length := by
  have hp := fitsB_true.1 h
  rw [listB_yes h, popTo_eq xs _ (Nat.le_refl _)]
  by_cases hle : n.toNat ≤ 8 * xs.length
  · rw [pickL_stop (hasB xs) n.toNat (8 * xs.length) hle (fun i h1 h2 => hp.2.2.2 i (by have := hp.1; omega))]
  · rw [pickL_stop (hasB xs) (8 * xs.length) n.toNat (by omega) (fun i h1 h2 => hasB_far (by omega))]

section count
variable (A : Option Addr) (c : Nat) (xs : List Int) (n : Int) (w : World)
set_option maxHeartbeats 800000 in
theorem count_any (hl : xs.length ≤ 600) (hr : RI w .u8 A xs) (hby : Byt xs) :
    Calls Try.prog 16 #[.slice A xs.length c, .int .i64 n] w fun e w' => e = .returned (.int .i64 (listB xs n).length) ∧ w = w' := by
  have HR := Lib.hid hr
  have HY := Lib.hid hby
  clear hr hby
  cases hf : fitsB xs n with
  | false =>
    have HF := Lib.hid hf
    clear hf
    go_enter Try.func16, Try.ntmps16
    go_wp2_with (go_at_call 23; refine (fits_any _ _ _ _ _ hl HR.out HY.out).mono ?_; rw [HF.out]; rintro e w' ⟨rfl, rfl⟩)
    go_ret
    exact ⟨ret_int (by rw [listB_no HF.out]; rfl), rfl⟩
  | true =>
    have HF := Lib.hid hf
    clear hf
    go_enter Try.func16, Try.ntmps16
    go_wp2_with (go_at_call 23; refine (fits_any _ _ _ _ _ hl HR.out HY.out).mono ?_; rw [HF.out]; rintro e w' ⟨rfl, rfl⟩)
    go_loop [5, 14] (fun s i => ∃ k : Nat, k ≤ xs.length ∧ i = .int .i64 k ∧ s = .int .i64 (popTo xs k)) (fun _ i => xs.length - (intOf i).toNat)
    case atStart => exact ⟨0, Nat.zero_le _, rfl, rfl⟩
    case round =>
      obtain ⟨k, hk, rfl, rfl⟩ := hrel
      by_cases hlt : (k : Int) < (xs.length : Int)
      · obtain ⟨ad, rfl, hc⟩ := HR.out (by omega)
        have hcx := hc k (by omega)
        have hbd := byt_getD HY.out k
        have hpl := popTo_le xs k
        have hp8 := pop8_le (xs.getD k 0).toNat
        have HP : Hid (popTo xs (k + 1) = popTo xs k + pop8 (xs.getD k 0).toNat) := Lib.hid rfl
        generalize xs.getD k 0 = x at *
        clear hc
        go_wp2_with (go_at_call 28; refine (ones_any _ _ hbd.1 hbd.2).mono ?_; rintro e w' ⟨rfl, rfl⟩)
        go_round
        case rel => exact ⟨k + 1, by omega, by go_num, by rw [HP.out]; go_num⟩
        case measure => simp [intOf]; omega
      · go_wp2
        go_ret
        exact ⟨ret_int (by rw [← popTo_list HF.out, show xs.length = k by omega]), rfl⟩
end count

/-- A bitmap as bytes: how long, bytes, and which bits are had. -/
structure IsMap (xs : List Int) (m : Int) (f : Int → Bool) : Prop where
  len : (xs.length : Int) = m
  byt : Byt xs
  has : ∀ i, hasB xs i = f i
theorem IsMap.eq {xs ys : List Int} {m : Int} {f : Int → Bool} (h : IsMap xs m f) (k : IsMap ys m f) : xs = ys :=
  byt_ext h.byt k.byt (by have := h.len; have := k.len; omega) (fun i => (h.has i).trans (k.has i).symm)
theorem hasB_zeros (m : Nat) (i : Int) : hasB (List.replicate m 0) i = false := by
  simp only [hasB]
  have : (List.replicate m (0 : Int)).getD (i / 8).toNat 0 = 0 := by
    rw [List.getD_eq_getElem?_getD, List.getElem?_replicate]; split <;> rfl
  rw [this]; simp
theorem isMap_zeros (m : Nat) : IsMap (List.replicate m 0) m (fun _ => false) :=
  ⟨by simp, fun x hx => by rw [List.eq_of_mem_replicate hx]; decide, hasB_zeros m⟩

theorem oi_made (W : World) (base m : Nat) (hb : base ≤ W.heap.size) (hm : m ≤ 9223372036854775807) :
    OI (W.alloc (.cells (madeCells #[.int .u8 0] m) 5)) base 5 .u8 (.slice (some ⟨W.heap.size, 0, none⟩) m m) (List.replicate m 0) := by
  have h := World.ownsRow_lit (base := base) (size := 1) W (cs := madeCells #[.int .u8 0] m) (e := 5) m hb (by unfold maxLen; omega) (by simp [size_madeCells])
  unfold OI
  rw [toList_madeCells_one] at h
  simpa using h
theorem make_bytes (m : Nat) (hn : m ≤ 281474976710656) :
    ∀ W : World, (Instr.makeSlice 22 (.int .i64 (m : Int)) (.int .i64 (m : Int))).run Try.prog W = .ok (.slice (some ⟨W.heap.size, 0, none⟩) m m) (W.alloc (.cells (madeCells #[.int .u8 0] m) 5)) := by
  intro W
  exact run_make_row' 22 5 (.int .u8 0) 1 Try.underlying22 Try.info5 rfl .i64 .i64 m (by omega) (by omega) W

set_option maxHeartbeats 400000 in
theorem new_wrong (n : Int) (w : World) (h : ¬ (0 ≤ n ∧ n ≤ 4096)) :
    Calls Try.prog 21 #[.int .i64 n] w fun e w' => e = .returned (.tuple #[.slice none 0 0, .int .i64 1]) ∧ w = w' := by
  have hb : (decide (0 ≤ n) && decide (n ≤ 4096)) = false := by simp; omega
  have hB := Lib.hid hb
  clear hb
  go_enter Try.func21, Try.ntmps21
  go_wp2_with (go_at_call 29; refine (right_any _ _).mono ?_; rw [hB.out]; rintro e w' ⟨rfl, rfl⟩)
  go_ret2
  exact ⟨rfl, rfl⟩

/-- A tuple's first part is a slice of integers of the call's own, the second a code. -/
def GivesIC (w : World) (e : TypeId) (k : IntKind) (xs : List Int) (code : Int) (en : Ending) (w' : World) : Prop :=
  ∃ v, en = .returned (.tuple #[v, .int .i64 code]) ∧ OI w' w.heap.size e k v xs ∧ Below w.heap.size w w'

set_option maxHeartbeats 400000 in
theorem new_right (n : Int) (w : World) (h : 0 ≤ n) (h1 : n ≤ 4096) :
    Calls Try.prog 21 #[.int .i64 n] w (GivesIC w 5 .u8 (List.replicate (sizeI n).toNat 0) 0) := by
  have hb : (decide (0 ≤ n) && decide (n ≤ 4096)) = true := by simp; omega
  have hB := Lib.hid hb
  clear hb
  obtain ⟨m, hm⟩ : ∃ m : Nat, sizeI n = m := ⟨(sizeI n).toNat, by unfold sizeI; omega⟩
  have hM := Lib.hid hm
  have hmk := make_bytes m (by unfold sizeI at hm; omega)
  have hm2 : m ≤ 600 := by unfold sizeI at hm; omega
  clear hm
  go_enter Try.func21, Try.ntmps21
  go_wp2_with (first | (go_at_call 29; refine (right_any _ _).mono ?_; rw [hB.out]; rintro e w' ⟨rfl, rfl⟩) | (go_at_call 30; refine (size_any _ _ h h1).mono ?_; rw [hM.out]; rintro e w' ⟨rfl, rfl⟩))
  go_ret2
  rw [hM.out]
  exact ⟨_, rfl, oi_made w _ m (Nat.le_refl _) (by omega), (Below.refl _ _).alloc (Nat.le_refl _) _⟩
end Go.Proofs.Ytpehbffbflcgnaa
