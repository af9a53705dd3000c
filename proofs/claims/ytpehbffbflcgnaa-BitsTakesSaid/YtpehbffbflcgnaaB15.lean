/- The walks of BitsAre and BitsAll. -/
import Derived.Test.YtpehbffbflcgnaaB14
set_option linter.unusedVariables false
namespace Go.Proofs.Ytpehbffbflcgnaa
open Go.RowKit

noncomputable def setCode (xs : List Int) (n i : Int) : Int := if fitsB xs n = true then (if i < 0 ∨ n ≤ i then 20 else 0) else 4
noncomputable def setYs (xs : List Int) (n i : Int) (on : Bool) : List Int := if setCode xs n i = 0 then mapOf (sizeI n) (fun q => if q = i then on else hasB xs q) else []
section set
variable (A : Option Addr) (c : Nat) (xs : List Int) (n i : Int) (on : Bool) (w : World)
theorem gives_seterr {w w' : World} {xs : List Int} {n i code : Int} {on : Bool} (h0 : code ≠ 0) (h : setCode xs n i = code) (hb : Below w.heap.size w w') :
    GivesIC w 5 .u8 (setYs xs n i on) (setCode xs n i) (.returned (.tuple #[.slice none 0 0, .int .i64 code])) w' := by
  unfold setYs
  rw [h, if_neg h0]
  exact ⟨_, rfl, oi_none, hb⟩
theorem gives_setok {w w' : World} {xs : List Int} {n i : Int} {on : Bool} (h : setCode xs n i = 0) {en : Ending} (hg : GivesMap w (sizeI n) (fun q => if q = i then on else hasB xs q) en w') :
    GivesIC w 5 .u8 (setYs xs n i on) (setCode xs n i) en w' := by
  obtain ⟨ys, hm, v, rfl, h1, h2⟩ := hg
  unfold setYs
  rw [h, if_pos rfl, mapOf_eq hm]
  exact ⟨v, rfl, h1, h2⟩
theorem set_all (hl : xs.length ≤ 600) (hr : RI w .u8 A xs) (hby : Byt xs) :
    Calls Try.prog 19 #[.slice A xs.length c, .int .i64 n, .int .i64 i, .bool on] w (GivesIC w 5 .u8 (setYs xs n i on) (setCode xs n i)) := by
  cases hf : fitsB xs n with
  | false => exact (set_form A c xs n i on w hl hr hby hf).mono fun e w' ⟨he, hw⟩ => by subst he; subst hw; exact gives_seterr (by decide) (by simp [setCode, hf]) (Below.refl _ _)
  | true =>
    by_cases h : i < 0 ∨ n ≤ i
    · exact (set_range A c xs n i on w hl hr hby hf h).mono fun e w' ⟨he, hw⟩ => by subst he; subst hw; exact gives_seterr (by decide) (by simp [setCode, hf, h]) (Below.refl _ _)
    · exact (set_ok A c xs n i on w hl hr hby hf (by omega) (by omega)).mono fun e w' he => gives_setok (by simp [setCode, hf, h]) he
theorem setR_all (hl : xs.length ≤ 600) (hr : RI w .u8 A xs) (hby : Byt xs) :
    Calls Try.prog 20 #[.slice A xs.length c, .int .i64 n, .int .i64 i, .bool on] w (GivesIC w 5 .u8 (setYs xs n i on) (setCode xs n i)) := by
  cases hf : fitsB xs n with
  | false => exact (setR_form A c xs n i on w hl hr hby hf).mono fun e w' ⟨he, hw⟩ => by subst he; subst hw; exact gives_seterr (by decide) (by simp [setCode, hf]) (Below.refl _ _)
  | true =>
    by_cases h : i < 0 ∨ n ≤ i
    · exact (setR_range A c xs n i on w hl hr hby hf h).mono fun e w' ⟨he, hw⟩ => by subst he; subst hw; exact gives_seterr (by decide) (by simp [setCode, hf, h]) (Below.refl _ _)
    · exact (setR_ok A c xs n i on w hl hr hby hf (by omega) (by omega)).mono fun e w' he => gives_setok (by simp [setCode, hf, h]) he
end set

def newOk (n : Int) : Prop := 0 ≤ n ∧ n ≤ 4096
theorem isMap_list {ys : List Int} {n : Int} (h0 : 0 ≤ n) (h1 : n ≤ 4096) (h : IsMap ys (sizeI n) (fun _ => false)) : listB ys n = [] := by
  have hf : fitsB ys n = true := fitsB_true.2 ⟨h0, h1, .inr h.len, fun i _ => h.has i⟩
  rw [listB_yes hf]
  apply List.eq_nil_iff_forall_not_mem.2
  intro q hq
  have := (mem_pickL.1 hq).2.2
  rw [h.has] at this
  cases this

section law
variable (A : Option Addr) (c : Nat) (xs : List Int) (n i : Int) (w : World)
set_option maxHeartbeats 3200000 in
theorem are_law (hr : RI w .u8 A xs) (hby : Byt xs) (hxl : xs.length ≤ 600) (hi0 : -9223372036854775808 ≤ i) (hi : i ≤ 9223372036854775807) (hn : 0 ≤ n ∧ n ≤ 4096) :
    Calls Try.prog 6 #[.slice A xs.length c, .int .i64 n, .int .i64 i] w fun e w' => e = .returned (.bool true) ∧ Below w.heap.size w w' := by
  have HR := Lib.hid hr
  have h1 : ¬ (600 : Int) < (xs.length : Int) := by omega
  obtain ⟨hn0, hn1⟩ := hn
  obtain ⟨sC, hsC⟩ : ∃ t, t = setCode xs n i := ⟨_, rfl⟩
  obtain ⟨sY, hsY⟩ : ∃ t, t = setYs xs n i (i.tmod 2 == 0) := ⟨_, rfl⟩
  obtain ⟨lB, hlB⟩ : ∃ t, t = listB xs n := ⟨_, rfl⟩
  obtain ⟨fY, hfY⟩ : ∃ t, t = List.replicate (sizeI n).toNat (0 : Int) := ⟨_, rfl⟩
  have hfm : IsMap fY (sizeI n) (fun _ => false) := by
    have := isMap_zeros (sizeI n).toNat
    rw [← hfY, sizeI_fits hn0] at this
    exact this
  have hfl : (fY.length : Int) = sizeI n := hfm.len
  have hfl2 : fY.length ≤ 600 := by unfold sizeI at hfl; omega
  have HFL := Lib.hid hfl
  have HFB := Lib.hid hfm.byt
  have HFC : Hid (((listB fY n).length : Int) = 0) := Lib.hid (by rw [isMap_list hn0 hn1 hfm]; rfl)
  have HS := Lib.hid (fun w h => set_all A c xs n i (i.tmod 2 == 0) w hxl h hby)
  have HSR := Lib.hid (fun w h => setR_all A c xs n i (i.tmod 2 == 0) w hxl h hby)
  have HN := Lib.hid (fun w => new_right n w hn0 hn1)
  have HC := Lib.hid (fun w h => count_any A c xs n w hxl h hby)
  have HL := Lib.hid (fun w h => list_any A c xs n w hxl h hby)
  have HLR := Lib.hid (fun w h => listR_any A c xs n w hxl h hby)
  have HF := Lib.hid (fun w h => fits_any A c xs n w hxl h hby)
  have HFR := Lib.hid (fun w h => fitsR_any A c xs n w hxl h hby)
  have HH := Lib.hid (fun w h => has_any A c xs i w hi0 hi h hby)
  have HHR := Lib.hid (fun w h => hasR_any A c xs i w hi0 hi h hby)
  have h0' : (sizeI n != sizeI n) = false := by simp
  rw [← hsC, ← hsY] at HS HSR
  rw [← hlB] at HC HL HLR
  rw [← hfY] at HN
  clear hr hsC hsY hlB hfY hfm hfl
  generalize hasB xs i = hb at *
  generalize fitsB xs n = fb at *
  have hbb : (hb == hb) = true := by simp
  have hff : (fb == fb) = true := by simp
  have hss : (sC == sC) = true := by simp
  go_enter Try.func6, Try.ntmps6
  go_wp2_with fail
  refine (HS.out _ HR.out).mono ?_
  rintro e w1 ⟨v1, rfl, o1, b1⟩
  obtain ⟨A1, c1, rfl, r1⟩ := o1.reads
  have hl1 := o1.len
  have R1 := Lib.hid r1
  have HR1 := Lib.hid (HR.out.below b1)
  clear r1 o1
  go_wp2_with fail
  refine (HSR.out _ HR1.out).mono ?_
  rintro e w2 ⟨v2, rfl, o2, b2⟩
  obtain ⟨A2, c2, rfl, r2⟩ := o2.reads
  have R2 := Lib.hid r2
  have R12 := Lib.hid (R1.out.below b2)
  have HR2 := Lib.hid (HR1.out.below b2)
  clear r2 o2
  go_wp2_with fail
  refine (HN.out _).mono ?_
  rintro e w3 ⟨v3, rfl, o3, b3⟩
  obtain ⟨A3, c3, rfl, r3⟩ := o3.reads
  have R3 := Lib.hid r3
  have HR3 := Lib.hid (HR2.out.below b3)
  have R23 := Lib.hid (R2.out.below b3)
  have R13 := Lib.hid (R12.out.below b3)
  clear r3 o3
  go_wp2_with fail
  refine (sizeR_any _ _ hn0 hn1).mono ?_
  rintro e w' ⟨rfl, rfl⟩
  rw [HFL.out]
  go_wp2_with fail
  refine (count_any _ _ fY _ _ hfl2 R3.out HFB.out).mono ?_
  rintro e w' ⟨rfl, rfl⟩
  rw [HFC.out]
  go_wp2_with fail
  refine (HF.out _ HR3.out).mono ?_
  rintro e w' ⟨rfl, rfl⟩
  go_wp2_with fail
  refine (HFR.out _ HR3.out).mono ?_
  rintro e w' ⟨rfl, rfl⟩
  go_wp2_with fail
  refine (HH.out _ HR3.out).mono ?_
  rintro e w' ⟨rfl, rfl⟩
  go_wp2_with fail
  refine (HHR.out _ HR3.out).mono ?_
  rintro e w' ⟨rfl, rfl⟩
  go_wp2_with fail
  refine (same8_any A1 A2 c1 c2 sY sY _ hl1 hl1 R13.out R23.out).mono ?_
  rintro e w4 ⟨rfl, b4⟩
  have HR4 := Lib.hid (HR3.out.below b4)
  rw [decide_eq_true rfl]
  go_wp2_with fail
  refine (HC.out _ HR4.out).mono ?_
  rintro e w' ⟨rfl, rfl⟩
  go_wp2_with fail
  refine (HLR.out _ HR4.out).mono ?_
  rintro e w5 ⟨v5, rfl, o5, b5⟩
  have HR5 := Lib.hid (HR4.out.below b5)
  obtain ⟨A5, c5, rfl, r5⟩ := o5.reads
  clear o5 r5
  go_wp2_with fail
  refine (HL.out _ HR5.out).mono ?_
  rintro e w6 ⟨v6, rfl, o6, b6⟩
  have HR6 := Lib.hid (HR5.out.below b6)
  obtain ⟨A6, c6, rfl, r6⟩ := o6.reads
  have R6 := Lib.hid r6
  have hl6 := o6.len
  clear o6 r6
  go_wp2_with fail
  refine (HLR.out _ HR6.out).mono ?_
  rintro e w7 ⟨v7, rfl, o7, b7⟩
  obtain ⟨A7, c7, rfl, r7⟩ := o7.reads
  have R7 := Lib.hid r7
  have R67 := Lib.hid (R6.out.below b7)
  clear o7 r7
  go_wp2_with fail
  refine (same64_any A6 A7 c6 c7 lB lB _ hl6 hl6 R67.out R7.out).mono ?_
  rintro e w8 ⟨rfl, b8⟩
  rw [decide_eq_true rfl]
  go_wp2_with fail
  refine (awake_any _).mono ?_
  rintro e w9 ⟨rfl, b9⟩
  go_wp2
  go_ret
  exact ⟨rfl, below_then b1 (below_then b2 (below_then b3 (below_then b4 (below_then b5 (below_then b6 (below_then b7 (below_then b8 b9)))))))⟩

set_option maxHeartbeats 3200000 in
theorem are_low (hr : RI w .u8 A xs) (hby : Byt xs) (hxl : xs.length ≤ 600) (hi0 : -9223372036854775808 ≤ i) (hi : i ≤ 9223372036854775807) (hn : n < 0) :
    Calls Try.prog 6 #[.slice A xs.length c, .int .i64 n, .int .i64 i] w fun e w' => e = .returned (.bool true) ∧ Below w.heap.size w w' := by
  have HR := Lib.hid hr
  have h1 : ¬ (600 : Int) < (xs.length : Int) := by omega
  have hnn : ¬ (0 ≤ n ∧ n ≤ 4096) := by omega
  have hn' : ¬ 0 ≤ n := by omega
  obtain ⟨sC, hsC⟩ : ∃ t, t = setCode xs n i := ⟨_, rfl⟩
  obtain ⟨sY, hsY⟩ : ∃ t, t = setYs xs n i (i.tmod 2 == 0) := ⟨_, rfl⟩
  obtain ⟨lB, hlB⟩ : ∃ t, t = listB xs n := ⟨_, rfl⟩
  have HS := Lib.hid (fun w h => set_all A c xs n i (i.tmod 2 == 0) w hxl h hby)
  have HSR := Lib.hid (fun w h => setR_all A c xs n i (i.tmod 2 == 0) w hxl h hby)
  have HN := Lib.hid (fun w => new_wrong n w hnn)
  have HC := Lib.hid (fun w h => count_any A c xs n w hxl h hby)
  have HL := Lib.hid (fun w h => list_any A c xs n w hxl h hby)
  have HLR := Lib.hid (fun w h => listR_any A c xs n w hxl h hby)
  have HF := Lib.hid (fun w h => fits_any A c xs n w hxl h hby)
  have HFR := Lib.hid (fun w h => fitsR_any A c xs n w hxl h hby)
  have HH := Lib.hid (fun w h => has_any A c xs i w hi0 hi h hby)
  have HHR := Lib.hid (fun w h => hasR_any A c xs i w hi0 hi h hby)
  clear hnn
  rw [← hsC, ← hsY] at HS HSR
  rw [← hlB] at HC HL HLR
  clear hr hsC hsY hlB
  generalize hasB xs i = hb at *
  generalize fitsB xs n = fb at *
  have hbb : (hb == hb) = true := by simp
  have hff : (fb == fb) = true := by simp
  have hss : (sC == sC) = true := by simp
  go_enter Try.func6, Try.ntmps6
  go_wp2_with fail
  refine (HS.out _ HR.out).mono ?_
  rintro e w1 ⟨v1, rfl, o1, b1⟩
  obtain ⟨A1, c1, rfl, r1⟩ := o1.reads
  have hl1 := o1.len
  have R1 := Lib.hid r1
  have HR1 := Lib.hid (HR.out.below b1)
  clear r1 o1
  go_wp2_with fail
  refine (HSR.out _ HR1.out).mono ?_
  rintro e w2 ⟨v2, rfl, o2, b2⟩
  obtain ⟨A2, c2, rfl, r2⟩ := o2.reads
  have R2 := Lib.hid r2
  have R12 := Lib.hid (R1.out.below b2)
  have HR2 := Lib.hid (HR1.out.below b2)
  clear r2 o2
  go_wp2_with fail
  refine (HN.out _).mono ?_
  rintro e w3 ⟨rfl, rfl⟩
  have HR3 := HR2
  have R23 := R2
  have R13 := R12
  go_wp2_with fail
  refine (HF.out _ HR3.out).mono ?_
  rintro e w' ⟨rfl, rfl⟩
  go_wp2_with fail
  refine (HFR.out _ HR3.out).mono ?_
  rintro e w' ⟨rfl, rfl⟩
  go_wp2_with fail
  refine (HH.out _ HR3.out).mono ?_
  rintro e w' ⟨rfl, rfl⟩
  go_wp2_with fail
  refine (HHR.out _ HR3.out).mono ?_
  rintro e w' ⟨rfl, rfl⟩
  go_wp2_with fail
  refine (same8_any A1 A2 c1 c2 sY sY _ hl1 hl1 R13.out R23.out).mono ?_
  rintro e w4 ⟨rfl, b4⟩
  have HR4 := Lib.hid (HR3.out.below b4)
  rw [decide_eq_true rfl]
  go_wp2_with fail
  refine (HC.out _ HR4.out).mono ?_
  rintro e w' ⟨rfl, rfl⟩
  go_wp2_with fail
  refine (HLR.out _ HR4.out).mono ?_
  rintro e w5 ⟨v5, rfl, o5, b5⟩
  have HR5 := Lib.hid (HR4.out.below b5)
  obtain ⟨A5, c5, rfl, r5⟩ := o5.reads
  clear o5 r5
  go_wp2_with fail
  refine (HL.out _ HR5.out).mono ?_
  rintro e w6 ⟨v6, rfl, o6, b6⟩
  have HR6 := Lib.hid (HR5.out.below b6)
  obtain ⟨A6, c6, rfl, r6⟩ := o6.reads
  have R6 := Lib.hid r6
  have hl6 := o6.len
  clear o6 r6
  go_wp2_with fail
  refine (HLR.out _ HR6.out).mono ?_
  rintro e w7 ⟨v7, rfl, o7, b7⟩
  obtain ⟨A7, c7, rfl, r7⟩ := o7.reads
  have R7 := Lib.hid r7
  have R67 := Lib.hid (R6.out.below b7)
  clear o7 r7
  go_wp2_with fail
  refine (same64_any A6 A7 c6 c7 lB lB _ hl6 hl6 R67.out R7.out).mono ?_
  rintro e w8 ⟨rfl, b8⟩
  rw [decide_eq_true rfl]
  go_wp2_with fail
  refine (awake_any _).mono ?_
  rintro e w9 ⟨rfl, b9⟩
  go_wp2
  go_ret
  exact ⟨rfl, below_then b1 (below_then b2 (below_then b4 (below_then b5 (below_then b6 (below_then b7 (below_then b8 b9))))))⟩

set_option maxHeartbeats 3200000 in
theorem are_high (hr : RI w .u8 A xs) (hby : Byt xs) (hxl : xs.length ≤ 600) (hi0 : -9223372036854775808 ≤ i) (hi : i ≤ 9223372036854775807) (hn : 4096 < n) :
    Calls Try.prog 6 #[.slice A xs.length c, .int .i64 n, .int .i64 i] w fun e w' => e = .returned (.bool true) ∧ Below w.heap.size w w' := by
  have HR := Lib.hid hr
  have h1 : ¬ (600 : Int) < (xs.length : Int) := by omega
  have hnn : ¬ (0 ≤ n ∧ n ≤ 4096) := by omega
  have hn' : 0 ≤ n := by omega
  have hn2 : ¬ n ≤ 4096 := by omega
  obtain ⟨sC, hsC⟩ : ∃ t, t = setCode xs n i := ⟨_, rfl⟩
  obtain ⟨sY, hsY⟩ : ∃ t, t = setYs xs n i (i.tmod 2 == 0) := ⟨_, rfl⟩
  obtain ⟨lB, hlB⟩ : ∃ t, t = listB xs n := ⟨_, rfl⟩
  have HS := Lib.hid (fun w h => set_all A c xs n i (i.tmod 2 == 0) w hxl h hby)
  have HSR := Lib.hid (fun w h => setR_all A c xs n i (i.tmod 2 == 0) w hxl h hby)
  have HN := Lib.hid (fun w => new_wrong n w hnn)
  have HC := Lib.hid (fun w h => count_any A c xs n w hxl h hby)
  have HL := Lib.hid (fun w h => list_any A c xs n w hxl h hby)
  have HLR := Lib.hid (fun w h => listR_any A c xs n w hxl h hby)
  have HF := Lib.hid (fun w h => fits_any A c xs n w hxl h hby)
  have HFR := Lib.hid (fun w h => fitsR_any A c xs n w hxl h hby)
  have HH := Lib.hid (fun w h => has_any A c xs i w hi0 hi h hby)
  have HHR := Lib.hid (fun w h => hasR_any A c xs i w hi0 hi h hby)
  clear hnn
  rw [← hsC, ← hsY] at HS HSR
  rw [← hlB] at HC HL HLR
  clear hr hsC hsY hlB
  generalize hasB xs i = hb at *
  generalize fitsB xs n = fb at *
  have hbb : (hb == hb) = true := by simp
  have hff : (fb == fb) = true := by simp
  have hss : (sC == sC) = true := by simp
  go_enter Try.func6, Try.ntmps6
  go_wp2_with fail
  refine (HS.out _ HR.out).mono ?_
  rintro e w1 ⟨v1, rfl, o1, b1⟩
  obtain ⟨A1, c1, rfl, r1⟩ := o1.reads
  have hl1 := o1.len
  have R1 := Lib.hid r1
  have HR1 := Lib.hid (HR.out.below b1)
  clear r1 o1
  go_wp2_with fail
  refine (HSR.out _ HR1.out).mono ?_
  rintro e w2 ⟨v2, rfl, o2, b2⟩
  obtain ⟨A2, c2, rfl, r2⟩ := o2.reads
  have R2 := Lib.hid r2
  have R12 := Lib.hid (R1.out.below b2)
  have HR2 := Lib.hid (HR1.out.below b2)
  clear r2 o2
  go_wp2_with fail
  refine (HN.out _).mono ?_
  rintro e w3 ⟨rfl, rfl⟩
  have HR3 := HR2
  have R23 := R2
  have R13 := R12
  go_wp2_with fail
  refine (HF.out _ HR3.out).mono ?_
  rintro e w' ⟨rfl, rfl⟩
  go_wp2_with fail
  refine (HFR.out _ HR3.out).mono ?_
  rintro e w' ⟨rfl, rfl⟩
  go_wp2_with fail
  refine (HH.out _ HR3.out).mono ?_
  rintro e w' ⟨rfl, rfl⟩
  go_wp2_with fail
  refine (HHR.out _ HR3.out).mono ?_
  rintro e w' ⟨rfl, rfl⟩
  go_wp2_with fail
  refine (same8_any A1 A2 c1 c2 sY sY _ hl1 hl1 R13.out R23.out).mono ?_
  rintro e w4 ⟨rfl, b4⟩
  have HR4 := Lib.hid (HR3.out.below b4)
  rw [decide_eq_true rfl]
  go_wp2_with fail
  refine (HC.out _ HR4.out).mono ?_
  rintro e w' ⟨rfl, rfl⟩
  go_wp2_with fail
  refine (HLR.out _ HR4.out).mono ?_
  rintro e w5 ⟨v5, rfl, o5, b5⟩
  have HR5 := Lib.hid (HR4.out.below b5)
  obtain ⟨A5, c5, rfl, r5⟩ := o5.reads
  clear o5 r5
  go_wp2_with fail
  refine (HL.out _ HR5.out).mono ?_
  rintro e w6 ⟨v6, rfl, o6, b6⟩
  have HR6 := Lib.hid (HR5.out.below b6)
  obtain ⟨A6, c6, rfl, r6⟩ := o6.reads
  have R6 := Lib.hid r6
  have hl6 := o6.len
  clear o6 r6
  go_wp2_with fail
  refine (HLR.out _ HR6.out).mono ?_
  rintro e w7 ⟨v7, rfl, o7, b7⟩
  obtain ⟨A7, c7, rfl, r7⟩ := o7.reads
  have R7 := Lib.hid r7
  have R67 := Lib.hid (R6.out.below b7)
  clear o7 r7
  go_wp2_with fail
  refine (same64_any A6 A7 c6 c7 lB lB _ hl6 hl6 R67.out R7.out).mono ?_
  rintro e w8 ⟨rfl, b8⟩
  rw [decide_eq_true rfl]
  go_wp2_with fail
  refine (awake_any _).mono ?_
  rintro e w9 ⟨rfl, b9⟩
  go_wp2
  go_ret
  exact ⟨rfl, below_then b1 (below_then b2 (below_then b4 (below_then b5 (below_then b6 (below_then b7 (below_then b8 b9))))))⟩

set_option maxHeartbeats 800000 in
theorem are_far (h : (600 : Int) < (xs.length : Int)) :
    Calls Try.prog 6 #[.slice A xs.length c, .int .i64 n, .int .i64 i] w fun e w' => e = .returned (.bool true) ∧ Below w.heap.size w w' := by
  go_enter Try.func6, Try.ntmps6
  go_wp2_with (go_at_call 7; refine (awake_any _).mono ?_; rintro e w8 ⟨rfl, b8⟩)
  go_ret
  exact ⟨rfl, b8⟩

theorem are_any (hr : RI w .u8 A xs) (hby : Byt xs) (hi0 : -9223372036854775808 ≤ i) (hi : i ≤ 9223372036854775807) :
    Calls Try.prog 6 #[.slice A xs.length c, .int .i64 n, .int .i64 i] w fun e w' => e = .returned (.bool true) ∧ Below w.heap.size w w' := by
  by_cases h : (600 : Int) < (xs.length : Int)
  · exact are_far A c xs n i w h
  · by_cases h0 : n < 0
    · exact are_low A c xs n i w hr hby (by omega) hi0 hi h0
    · by_cases h1 : 4096 < n
      · exact are_high A c xs n i w hr hby (by omega) hi0 hi h1
      · exact are_law A c xs n i w hr hby (by omega) hi0 hi ⟨by omega, by omega⟩
end law
end Go.Proofs.Ytpehbffbflcgnaa
