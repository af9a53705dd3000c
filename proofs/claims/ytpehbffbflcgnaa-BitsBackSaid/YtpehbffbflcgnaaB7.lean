/- Take of the program: the least free bits are taken. -/
import Derived.Test.YtpehbffbflcgnaaB6
set_option linter.unusedVariables false
namespace Go.Proofs.Ytpehbffbflcgnaa
open Go.RowKit

def freeF (xs : List Int) : Int → Bool := fun q => !hasB xs q
/-- The bits that are free, in rising order; those that are taken; what is had then. -/
def freeL (xs : List Int) (n : Int) : List Int := pickL (freeF xs) n.toNat
def takeL (xs : List Int) (n k : Int) : List Int := (freeL xs n).take k.toNat
def takeF (xs : List Int) (n k : Int) : Int → Bool := fun q => hasB xs q || decide (q ∈ takeL xs n k)

theorem free_used (f : Int → Bool) (m : Nat) : (pickL (fun q => !f q) m).length + (pickL f m).length = m := by
  induction m with
  | zero => rfl
  | succ m ih => cases h : f m <;> simp [pickL, h] <;> omega
theorem free_count {xs : List Int} {n : Int} (h : fitsB xs n = true) : ((freeL xs n).length : Int) = n - (listB xs n).length := by
  have hp := fitsB_true.1 h
  have := free_used (hasB xs) n.toNat
  rw [listB_yes h]
  unfold freeL freeF
  have := hp.1
  omega
theorem pickL_take (f : Int → Bool) {a b : Nat} (h : a ≤ b) : (pickL f b).take (pickL f a).length = pickL f a := by
  induction b with
  | zero => have : a = 0 := by omega
            subst this; simp
  | succ b ih =>
    by_cases e : a = b + 1
    · subst e; exact List.take_length
    · rw [pickL, List.take_append_of_le_length, ih (by omega)]
      have := congrArg List.length (ih (by omega))
      simp at this
      omega

/-- What is had when all bits below j that were free have been taken. -/
def takenTo (xs : List Int) (j : Int) : Int → Bool := fun q => hasB xs q || (decide (0 ≤ q) && decide (q < j))
theorem takenTo_eq {xs : List Int} {n k j : Int} (hj : 0 ≤ j) (hjn : j ≤ n) (hk : ((pickL (freeF xs) j.toNat).length : Int) = k) : takenTo xs j = takeF xs n k ∧ pickL (freeF xs) j.toNat = takeL xs n k := by
  have e : takeL xs n k = pickL (freeF xs) j.toNat := by
    unfold takeL freeL
    rw [show k.toNat = (pickL (freeF xs) j.toNat).length by omega]
    exact pickL_take _ (by omega)
  refine ⟨funext fun q => ?_, e.symm⟩
  unfold takeF takenTo
  rw [e]
  cases hq : hasB xs q
  · simp only [Bool.false_or]
    rw [Bool.eq_iff_iff]
    simp only [Bool.and_eq_true, decide_eq_true_eq, mem_pickL, freeF, hq, Bool.not_false, and_true]
    omega
  · simp
theorem takenTo_zero (xs : List Int) : takenTo xs 0 = hasB xs := by
  funext q; unfold takenTo
  have : (decide (0 ≤ q) && decide (q < 0)) = false := by
    by_cases h : 0 ≤ q
    · have : ¬ q < 0 := by omega
      simp [this]
    · simp [h]
  rw [this]; simp
theorem takenTo_step_had {xs : List Int} {j : Int} (h0 : 0 ≤ j) (h : hasB xs j = true) : takenTo xs (j + 1) = takenTo xs j := by
  funext q; unfold takenTo
  by_cases e : q = j
  · subst e; rw [h]; simp
  · have : decide (q < j + 1) = decide (q < j) := by rw [Bool.eq_iff_iff]; simp; omega
    rw [this]
theorem takenTo_step_free {xs : List Int} {j : Int} (h0 : 0 ≤ j) (q : Int) : takenTo xs (j + 1) q = if q = j then true else takenTo xs j q := by
  unfold takenTo
  by_cases e : q = j
  · subst e; simp; right; omega
  · rw [if_neg e]
    have : decide (q < j + 1) = decide (q < j) := by rw [Bool.eq_iff_iff]; simp; omega
    rw [this]
theorem takenTo_at {xs : List Int} {j : Int} : takenTo xs j j = hasB xs j := by unfold takenTo; simp
theorem pick_step_hit {f : Int → Bool} {j : Int} (h0 : 0 ≤ j) (h : f j = true) : pickL f (j + 1).toNat = pickL f j.toNat ++ [j] := by
  have e : (j + 1).toNat = j.toNat + 1 := by omega
  have e2 : ((j.toNat : Nat) : Int) = j := by omega
  rw [e, pickL_hit (by rw [e2]; exact h), e2]
theorem pick_step_miss {f : Int → Bool} {j : Int} (h0 : 0 ≤ j) (h : f j = false) : pickL f (j + 1).toNat = pickL f j.toNat := by
  have e : (j + 1).toNat = j.toNat + 1 := by omega
  have e2 : ((j.toNat : Nat) : Int) = j := by omega
  rw [e, pickL_miss (by rw [e2]; exact h)]

/-- What Take gives where it answers OK. -/
def GivesTake (w : World) (m : Int) (f : Int → Bool) (l : List Int) (en : Ending) (w' : World) : Prop :=
  ∃ ys v u, IsMap ys m f ∧ en = .returned (.tuple #[v, u, .int .i64 0]) ∧ OI w' w.heap.size 5 .u8 v ys ∧ OI w' w.heap.size 3 .i64 u l ∧ Below w.heap.size w w'

section take
variable (A : Option Addr) (c : Nat) (xs : List Int) (n k : Int) (w : World)
set_option maxHeartbeats 800000 in
theorem take_form (hl : xs.length ≤ 600) (hr : RI w .u8 A xs) (hby : Byt xs) (hf : fitsB xs n = false) :
    Calls Try.prog 8 #[.slice A xs.length c, .int .i64 n, .int .i64 k] w fun e w' => e = .returned (.tuple #[.slice none 0 0, .slice none 0 0, .int .i64 4]) ∧ w = w' := by
  have HR := Lib.hid hr
  have HY := Lib.hid hby
  have HF := Lib.hid hf
  clear hr hby hf
  go_enter Try.func8, Try.ntmps8
  go_wp2
  go_step3
  go_wp2_with (go_at_call 23; refine (fits_any _ _ _ _ _ hl HR.out HY.out).mono ?_; rw [HF.out]; rintro e w' ⟨rfl, rfl⟩)
  (try rw [Exit.noGoto_ret])
  go_ret3
  exact ⟨rfl, rfl⟩
set_option maxHeartbeats 800000 in
theorem take_arg (hl : xs.length ≤ 600) (hr : RI w .u8 A xs) (hby : Byt xs) (hf : fitsB xs n = true) (hk : k < 0) :
    Calls Try.prog 8 #[.slice A xs.length c, .int .i64 n, .int .i64 k] w fun e w' => e = .returned (.tuple #[.slice none 0 0, .slice none 0 0, .int .i64 1]) ∧ w = w' := by
  have HR := Lib.hid hr
  have HY := Lib.hid hby
  have HF := Lib.hid hf
  clear hr hby hf
  go_enter Try.func8, Try.ntmps8
  go_wp2
  go_step3
  go_wp2_with (go_at_call 23; refine (fits_any _ _ _ _ _ hl HR.out HY.out).mono ?_; rw [HF.out]; rintro e w' ⟨rfl, rfl⟩)
  (try rw [Exit.noGoto_ret])
  go_ret3
  exact ⟨rfl, rfl⟩
set_option maxHeartbeats 800000 in
theorem take_space (hl : xs.length ≤ 600) (hr : RI w .u8 A xs) (hby : Byt xs) (hf : fitsB xs n = true) (hk : 0 ≤ k) (hk2 : ((freeL xs n).length : Int) < k) :
    Calls Try.prog 8 #[.slice A xs.length c, .int .i64 n, .int .i64 k] w fun e w' => e = .returned (.tuple #[.slice none 0 0, .slice none 0 0, .int .i64 16]) ∧ w = w' := by
  have HR := Lib.hid hr
  have HY := Lib.hid hby
  have HF := Lib.hid hf
  rw [free_count hf] at hk2
  have hn := (fitsB_true.1 hf).2.1
  have hn0 := (fitsB_true.1 hf).1
  have hle : (listB xs n).length ≤ n.toNat := by rw [listB_yes hf]; exact pickL_length _ _
  have hk' : ¬ k < 0 := by omega
  clear hr hby hf
  go_enter Try.func8, Try.ntmps8
  go_wp2
  go_step3
  go_wp2_with (first
    | (go_at_call 23; refine (fits_any _ _ _ _ _ hl HR.out HY.out).mono ?_; rw [HF.out]; rintro e w' ⟨rfl, rfl⟩)
    | (go_at_call 16; refine (count_any _ _ _ _ _ hl HR.out HY.out).mono ?_; rintro e w' ⟨rfl, rfl⟩))
  (try rw [Exit.noGoto_ret])
  go_ret3
  exact ⟨rfl, rfl⟩

set_option maxHeartbeats 3200000 in
theorem take_ok (hl : xs.length ≤ 600) (hr : RI w .u8 A xs) (hby : Byt xs) (hf : fitsB xs n = true) (hk : 0 ≤ k) (hk2 : k ≤ ((freeL xs n).length : Int)) :
    Calls Try.prog 8 #[.slice A xs.length c, .int .i64 n, .int .i64 k] w (GivesTake w (sizeI n) (takeF xs n k) (takeL xs n k)) := by
  have HR := Lib.hid hr
  have HY := Lib.hid hby
  have HF := Lib.hid hf
  have HK2 := Lib.hid hk2
  rw [free_count hf] at hk2
  have hn := (fitsB_true.1 hf).2.1
  have hn0 := (fitsB_true.1 hf).1
  have hle : (listB xs n).length ≤ n.toNat := by rw [listB_yes hf]; exact pickL_length _ _
  have HM := Lib.hid (whole_map hf hby)
  have hk' : ¬ k < 0 := by omega
  have hk3 : ¬ n - ((listB xs n).length : Int) < k := by omega
  clear hr hby hf
  go_enter Try.func8, Try.ntmps8
  go_wp2
  go_step3
  go_wp2_with (first
    | (go_at_call 23; refine (fits_any _ _ _ _ _ hl HR.out HY.out).mono ?_; rw [HF.out]; rintro e w' ⟨rfl, rfl⟩)
    | (go_at_call 16; refine (count_any _ _ _ _ _ hl HR.out HY.out).mono ?_; rintro e w' ⟨rfl, rfl⟩)
    | (go_at_call 25; refine (whole_any _ _ _ _ _ HF.out HR.out).mono ?_; rintro e w1 ⟨v, rfl, hown, hbel⟩))
  clear hk2 hk3 hle
  go_step3
  go_wp2
  go_loopw [10, 32] (fun u i wr => ∃ (j : Int) (ys : List Int), 0 ≤ j ∧ j ≤ n ∧ i = .int .i64 j ∧ Hid (IsMap ys (sizeI n) (takenTo xs j)) ∧ OI wr w.heap.size 5 .u8 v ys ∧ OI wr w.heap.size 3 .i64 u (pickL (freeF xs) j.toNat) ∧ Below w.heap.size w wr ∧
    ((pickL (freeF xs) j.toNat).length : Int) ≤ k) (fun _ i _ => (n - intOf i).toNat)
  case atStart => exact ⟨0, _, by omega, hn0, rfl, Lib.hid (by rw [takenTo_zero]; exact HM.out), hown, OI.nil _ _ _ _, hbel, by simpa [pickL] using hk⟩
  case round =>
    obtain ⟨j, ys, hj0, hjn, rfl, hmap, hout, hgot, hbw, hlen⟩ := hrel
    obtain ⟨Bg, cg, rfl, hrg⟩ := hgot.reads
    clear hrg hown hbel
    have hsz := hbw.size
    by_cases hlt : j < n
    · by_cases hfull : ((pickL (freeF xs) j.toNat).length : Int) = k
      · have hfu : (((pickL (freeF xs) j.toNat).length : Int) == k) = true := beq_iff_eq.2 hfull
        have hE := Lib.hid (takenTo_eq hj0 hjn hfull)
        clear hfull
        go_wp2
        (try rw [Exit.noGoto_ret])
        go_ret3
        refine ⟨ys, _, _, ?_, rfl, hout, ?_, hbw⟩
        · rw [← hE.out.1]; exact hmap.out
        · rw [← hE.out.2]; exact hgot
      · have hfu : (((pickL (freeF xs) j.toNat).length : Int) == k) = false := beq_eq_false_iff_ne.2 hfull
        have hlen2 : ((pickL (freeF xs) j.toNat).length : Int) < k := by omega
        have hpl := pickL_length (freeF xs) j.toNat
        have hyl : (ys.length : Int) = sizeI n := hmap.out.len
        have hj8 : j / 8 < (ys.length : Int) := by rw [hyl]; unfold sizeI; omega
        have HJ8 := Lib.hid hj8
        clear hfull hyl
        cases hh : hasB xs j with
        | true =>
          have HH : Hid (hasB ys j = true) := Lib.hid (by rw [hmap.out.has, takenTo_at, hh])
          have HF1 : Hid (pickL (freeF xs) (j + 1).toNat = pickL (freeF xs) j.toNat) := Lib.hid (pick_step_miss hj0 (by simp [freeF, hh]))
          have HT : Hid (takenTo xs (j + 1) = takenTo xs j) := Lib.hid (takenTo_step_had hj0 hh)
          clear hh
          obtain ⟨Bo, co, rfl, hro⟩ := hout.reads
          have HRO := Lib.hid hro
          clear hro hj8
          go_wp2_with (go_at_call 14; refine (has_any _ _ _ _ _ (by omega) (by omega) HRO.out hmap.out.byt).mono ?_; rw [HH.out]; rintro e w' ⟨rfl, rfl⟩)
          go_roundw
          case rel => exact ⟨j + 1, ys, by omega, by omega, rfl, Lib.hid (by rw [HT.out]; exact hmap.out), hout, by rw [HF1.out]; exact hgot, hbw, by rw [HF1.out]; exact hlen⟩
          case measure => simp [intOf]; omega
        | false =>
          have HH : Hid (hasB ys j = false) := Lib.hid (by rw [hmap.out.has, takenTo_at, hh])
          have HF1 : Hid (pickL (freeF xs) (j + 1).toNat = pickL (freeF xs) j.toNat ++ [j]) := Lib.hid (pick_step_hit hj0 (by simp [freeF, hh]))
          obtain ⟨g, cap, rfl, hg, hgl, hcap, hfz, hcl, hrb, hst⟩ := hout.store (by omega)
          have HRB := Lib.hid hrb
          have hbd := byt_getD hmap.out.byt (j / 8).toNat
          have hk8 : (j % 8).toNat < 8 := by omega
          have hpw := pow_shl (j % 8).toNat hk8
          have hxb := or_bit (ys.getD (j / 8).toNat 0) (j % 8).toNat hbd.1 hbd.2 hk8
          have hMap : Hid (IsMap (ys.set (j / 8).toNat (bits .or .u8 (ys.getD (j / 8).toNat 0) (2 ^ (j % 8).toNat))) (sizeI n) (takenTo xs (j + 1))) :=
            Lib.hid (isMap_set hmap.out hj0 (by have := hmap.out.len; omega) hxb.1 hxb.2.1 true (fun q hq8 => hxb.2.2 q hq8) (fun q => takenTo_step_free hj0 q))
          have hcx := hcl (j / 8).toNat (by omega)
          have hfx := hfz (j / 8).toNat
          have hst2 := Lib.hid (hst (j / 8).toNat (bits .or .u8 (ys.getD (j / 8).toNat 0) (2 ^ (j % 8).toNat)) (by omega)).drew
          have hgr : Hid (wr.grownBy (wr.setCell ⟨g, (j / 8).toNat, none⟩ (.int .u8 (bits .or .u8 (ys.getD (j / 8).toNat 0) (2 ^ (j % 8).toNat)))) (some g)) :=
            Lib.hid ⟨rfl, rfl, rfl, by simp, fun q _ hq => Below.heap_setCell _ _ _ _ (fun e => hq (by simp [e]))⟩
          have hgot2 := Lib.hid ((hgot.kept hgr.out (hgot.ne_type hout (by decide))).drew)
          have hbw2 := Lib.hid ((hbw.setCell (p := ⟨g, (j / 8).toNat, none⟩) hg (.int .u8 (bits .or .u8 (ys.getD (j / 8).toNat 0) (2 ^ (j % 8).toNat)))).drew)
          clear hh hrb hcl hfz hst hgr hxb hgot hout
          generalize ys.getD (j / 8).toNat 0 = x at *
          go_wp2_with (go_at_call 14; refine (has_any _ _ _ _ _ (by omega) (by omega) HRB.out hmap.out.byt).mono ?_; rw [HH.out]; rintro e w' ⟨rfl, rfl⟩)
          go_region
          generalize World.drew (World.setCell wr _ _) = W2 at hgot2 hst2 hbw2 ⊢
          clear hcx hfx
          have hsz2 := hbw2.out.size
          go_wp2_with (at_builtin; refine wp_append1 w.heap.size rfl (.tmp 55) (.tmp 57) 24 3 .i64 8 rfl Try.underlying24 Try.info3 (by decide) _ (pickL (freeF xs) j.toNat) j rfl rfl hgot2.out hbw2.out hsz2 (by omega) ?_; intro v1 w1 hown1 hbel1 hgr1)
          go_roundw
          case rel =>
            refine ⟨j + 1, _, by omega, by omega, rfl, hMap, hst2.out.kept hgr1 (hst2.out.ne_type hgot2.out (by decide)), ?_, hbel1, ?_⟩
            · rw [HF1.out]; exact hown1
            · rw [HF1.out]; simp; omega
          case measure => simp [intOf]; omega
    · have hje : j = n := by omega
      subst hje
      have hfin : ((pickL (freeF xs) j.toNat).length : Int) = k := by have := HK2.out; unfold freeL at this; omega
      have hE := Lib.hid (takenTo_eq hj0 hjn hfin)
      clear hfin
      go_wp2
      (try rw [Exit.noGoto_ret])
      go_ret3
      refine ⟨ys, _, _, ?_, rfl, hout, ?_, hbw⟩
      · rw [← hE.out.1]; exact hmap.out
      · rw [← hE.out.2]; exact hgot
end take
end Go.Proofs.Ytpehbffbflcgnaa
