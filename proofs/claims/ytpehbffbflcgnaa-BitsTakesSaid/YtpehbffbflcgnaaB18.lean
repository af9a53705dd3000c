/- The walk of BitsBack. -/
import Derived.Test.YtpehbffbflcgnaaB17
set_option linter.unusedVariables false
namespace Go.Proofs.Ytpehbffbflcgnaa
open Go.RowKit

theorem rev_step {l : List Int} {t : Nat} (h : t < l.length) : (l.take (t + 1)).reverse = [l.getD t 0] ++ (l.take t).reverse := by
  rw [List.take_succ_eq_append_getElem h, List.reverse_append, List.getD_eq_getElem?_getD, List.getElem?_eq_getElem h]
  rfl
theorem sorted_step {l : List Int} (hs : l.Pairwise (· < ·)) {t : Nat} (h : t + 1 < l.length) : ¬ l.getD (t + 1) 0 ≤ l.getD t 0 := by
  have := (List.pairwise_iff_getElem.1 hs) t (t + 1) (by omega) h (by omega)
  rw [List.getD_eq_getElem?_getD, List.getD_eq_getElem?_getD, List.getElem?_eq_getElem h, List.getElem?_eq_getElem (show t < l.length by omega)]
  simp only [Option.getD_some]
  omega

section law
variable (A : Option Addr) (c : Nat) (xs : List Int) (n k : Int) (w : World)

set_option maxRecDepth 100000 in
set_option maxHeartbeats 800000 in
theorem back_far (h : (600 : Int) < (xs.length : Int)) :
    Calls Try.prog 4 #[.slice A xs.length c, .int .i64 n, .int .i64 k] w fun e w' => e = .returned (.bool true) ∧ Below w.heap.size w w' := by
  go_enter Try.func4, Try.ntmps4
  go_wp2_with (go_at_call 7; refine (awake_any _).mono ?_; rintro e w8 ⟨rfl, b8⟩)
  go_ret
  exact ⟨rfl, b8⟩

set_option maxRecDepth 100000 in
set_option maxHeartbeats 1600000 in
theorem back_err (hr : RI w .u8 A xs) (hby : Byt xs) (hxl : xs.length ≤ 600) (hA : A = none → xs.length = 0 ∧ c = 0) (h0 : takeCode xs n k ≠ 0) :
    Calls Try.prog 4 #[.slice A xs.length c, .int .i64 n, .int .i64 k] w fun e w' => e = .returned (.bool true) ∧ Below w.heap.size w w' := by
  have h1 : ¬ (600 : Int) < (xs.length : Int) := by omega
  have HR := Lib.hid hr
  have hne : (takeCode xs n k != 0) = true := bne_iff_ne.2 h0
  have HT := Lib.hid (fun w h => take_all A c xs n k w hxl h hby)
  have HA := Lib.hid hA
  generalize takeCode xs n k = tc at *
  generalize takeYs xs n k = ty at *
  generalize takeLs xs n k = tl at *
  clear hr hby h0 hA
  go_enter Try.func4, Try.ntmps4
  go_wp2_with (first
    | (at_builtin; refine wp_append_all w.heap.size rfl (.const (.slice none 0 0)) (.tmp 21) 22 5 .u8 1 rfl Try.underlying22 Try.info5 _ [] xs A xs.length c rfl rfl rfl (OI.nil _ _ _ _) HR.out HA.out (Below.refl _ _) (Nat.le_refl _) (by simp; omega) (by simp; omega) ?_; intro v1 w1 o1 b1 _; rw [List.nil_append] at o1; obtain ⟨A1, c1, rfl, r1⟩ := o1.reads; have R1 := Lib.hid r1; have HR1 := Lib.hid (HR.out.below b1); clear o1 r1)
    | (go_at_call 8; refine (HT.out _ HR1.out).mono ?_; rintro e w2 ⟨v2, u2, rfl, o2, p2, b2⟩; have R12 := Lib.hid (R1.out.below b2); have HR2 := Lib.hid (HR1.out.below b2)))
  refine (same8_any A A1 c c1 xs xs _ (by omega) (by omega) HR2.out R12.out).mono ?_
  rw [decide_eq_true rfl]
  rintro e w3 ⟨rfl, b3⟩
  go_wp2_with (go_at_call 7; refine (awake_any _).mono ?_; rintro e w8 ⟨rfl, b8⟩)
  go_ret
  exact ⟨rfl, below_then b1 (below_then b2 (below_then b3 b8))⟩

theorem oi_one (W : World) (base : Nat) (x : Int) (hb : base ≤ W.heap.size) : OI (W.alloc (.cells #[.int .i64 x] 3)) base 3 .i64 (.slice (some ⟨W.heap.size, 0, none⟩) 1 1) [x] :=
  oi_row hb (by decide) rfl (heap_alloc_new W _)
theorem has_quiet (w : World) (m : Nat) {A : Option Addr} {c : Nat} {xs : List Int} {i : Int} (b : Bool) (hi0 : -9223372036854775808 ≤ i) (hi : i ≤ 9223372036854775807) (hr : RI w .u8 A xs) (hb : Byt xs) (h : hasB xs i = b) :
    Calls Try.prog 14 #[.slice A xs.length c, .int .i64 i] (w.drewN m) fun e w' => e = .returned (.bool b) ∧ w' = w.drewN m :=
  (has_any A c xs i _ hi0 hi (hr.below (below_drewN (Below.refl _ _) m)) hb).mono fun e w' ⟨h1, h2⟩ => ⟨by rw [h1, h], h2.symm⟩

set_option maxRecDepth 100000 in
set_option maxHeartbeats 3200000 in
theorem back_ok (hr : RI w .u8 A xs) (hby : Byt xs) (hxl : xs.length ≤ 600) (hA : A = none → xs.length = 0 ∧ c = 0) (hf : fitsB xs n = true) (hk : 0 ≤ k) (hk2 : k ≤ (freeL xs n).length) :
    Calls Try.prog 4 #[.slice A xs.length c, .int .i64 n, .int .i64 k] w fun e w' => e = .returned (.bool true) ∧ Below w.heap.size w w' := by
  have h1 : ¬ (600 : Int) < (xs.length : Int) := by omega
  have HR := Lib.hid hr
  have HY := Lib.hid hby
  have hn0 := (fitsB_true.1 hf).1
  have hn1 := (fitsB_true.1 hf).2.1
  have HT := Lib.hid (fun w h => take_ok A c xs n k w hxl h hby hf hk hk2)
  have HA := Lib.hid hA
  have htl := takeL_length hk hk2
  obtain ⟨tl, htk⟩ : ∃ t, t = takeL xs n k := ⟨_, rfl⟩
  have HS : Hid (tl.Pairwise (· < ·)) := Lib.hid (by rw [htk]; exact takeL_sorted xs n k)
  have HM : Hid (∀ q ∈ tl, 0 ≤ q ∧ q < n ∧ hasB xs q = false ∧ takeF xs n k q = true) := Lib.hid (fun q hq => by
    rw [htk] at hq
    have := takeL_mem hq
    exact ⟨this.1, this.2.1, this.2.2, by simp [takeF, hq]⟩)
  have HB : Hid (giveF n (takeF xs n k) tl.reverse = (0, hasB xs)) := Lib.hid (by rw [htk]; exact give_back _ (List.reverse_perm _))
  have HB2 : Hid (tl ≠ [] → (giveF n (hasB xs) tl.reverse).1 = 7) := Lib.hid (fun h => give_again (k := k) _ (by rw [htk]; exact List.reverse_perm _) (by simpa using h))
  have HX : Hid (∀ ys, IsMap ys (sizeI n) (takeF xs n k) → fitsB ys n = true ∧ ((listB ys n).length : Int) = (listB xs n).length + k) := Lib.hid (fun ys hm => by
    have h2 := fits_of_map hn0 hn1 hm (fun i hi => takeF_range hf hi)
    exact ⟨h2, by rw [list_of_map h2 hm.has, takeF_length hf hk hk2]⟩)
  have HZ : Hid (∀ zs, IsMap zs (sizeI n) (hasB xs) → fitsB zs n = true ∧ listB zs n = listB xs n) := Lib.hid (fun zs hm => by
    have h2 := fits_of_map hn0 hn1 hm (fun i hi => (fitsB_true.1 hf).2.2.2 i hi)
    exact ⟨h2, by rw [list_of_map h2 hm.has, listB_yes hf]⟩)
  have hll := list_len_le hf
  have hkn : k ≤ 4096 := by have := free_count hf; omega
  have HC := Lib.hid (fun w h => count_any A c xs n w hxl h hby)
  have HL := Lib.hid (fun w h => list_any A c xs n w hxl h hby)
  rw [← htk] at HT htl
  clear hr hby hA htk hf hk2
  obtain ⟨lB, hlB⟩ : ∃ t, t = listB xs n := ⟨_, rfl⟩
  rw [← hlB] at hll HL HC HX HZ
  clear hlB
  go_enter Try.func4, Try.ntmps4
  go_wp2_with (first
    | (at_builtin; refine wp_append_all w.heap.size rfl (.const (.slice none 0 0)) (.tmp 21) 22 5 .u8 1 rfl Try.underlying22 Try.info5 _ [] xs A xs.length c rfl rfl rfl (OI.nil _ _ _ _) HR.out HA.out (Below.refl _ _) (Nat.le_refl _) (by simp; omega) (by simp; omega) ?_; intro v1 w1 o1 b1 _; rw [List.nil_append] at o1; obtain ⟨A1, c1, rfl, r1⟩ := o1.reads; have R1 := Lib.hid r1; have HR1 := Lib.hid (HR.out.below b1); clear o1 r1)
    | (go_at_call 8; refine (HT.out _ HR1.out).mono ?_; rintro e w2 ⟨ys, v2, u2, m2, rfl, o2, p2, b2⟩; obtain ⟨A2, c2, rfl, r2⟩ := o2.reads; obtain ⟨D2, d2, rfl, s2⟩ := p2.reads; have R2 := Lib.hid r2; have S2 := Lib.hid s2; have M2 := Lib.hid m2; have R12 := Lib.hid (R1.out.below b2); have HR2 := Lib.hid (HR1.out.below b2); clear o2 p2 r2 s2 m2))
  go_loopw [11, 12] (fun o i wr => ∃ t : Nat, t ≤ tl.length ∧ i = .int .i64 t ∧ OI wr w2.heap.size 3 .i64 o (tl.take t).reverse ∧ Below w2.heap.size w2 wr) (fun _ i _ => tl.length - (intOf i).toNat)
  case atStart => exact ⟨0, Nat.zero_le _, rfl, by simpa using OI.nil _ _ _ _, Below.refl _ _⟩
  case round =>
    obtain ⟨t, ht, rfl, oo, bw⟩ := hrel
    have hsz := bw.size
    have hyl : ys.length ≤ 600 := by have := M2.out.len; unfold sizeI at this; omega
    by_cases hlt : (t : Int) < (tl.length : Int)
    · obtain ⟨ad, rfl, hc⟩ := S2.out (by omega)
      have hrv := rev_step (l := tl) (t := t) (by omega)
      have hcx := hc t (by omega)
      have hcw := (bw.cell (World.block_lt_of_cell? w2 _ hcx)).trans hcx
      have hmem := HM.out _ (getD_mem (l := tl) (t := t) (by omega))
      obtain ⟨ro, hro⟩ : ∃ r, r = (tl.take t).reverse := ⟨_, rfl⟩
      obtain ⟨rn, hrn⟩ : ∃ r, r = (tl.take (t + 1)).reverse := ⟨_, rfl⟩
      rw [← hro, ← hrn] at hrv
      rw [← hro] at oo
      have hrol : ro.length ≤ 5000 := by rw [hro]; simp; omega
      obtain ⟨Bo, co, rfl, hor⟩ := oo.reads
      have hnil := oo.nil_cap.1
      have HNIL := Lib.hid hnil
      have HOR := Lib.hid hor
      have HRV := Lib.hid hrv
      have HRN := Lib.hid hrn
      obtain ⟨hm0, hm1, hm2, hm3⟩ := hmem
      have HM2 := Lib.hid hm2
      have HM3 : Hid (hasB ys (tl.getD t 0) = true) := Lib.hid (by rw [M2.out.has]; exact hm3)
      have hprev : 0 < t → w2.cell? (ad.add (t - 1)) = some (.int .i64 (tl.getD (t - 1) 0)) := fun _ => hc (t - 1) (by omega)
      have hord : 0 < t → ¬ tl.getD t 0 ≤ tl.getD (t - 1) 0 := fun h0 => by
        have := sorted_step HS.out (t := t - 1) (by omega)
        rwa [show t - 1 + 1 = t by omega] at this
      have HP := Lib.hid hprev
      have HO := Lib.hid hord
      have HCX := Lib.hid hcx
      clear hc hrv hor oo hnil hm2 hm3 hprev hord hcx hro hrn
      generalize hx : tl.getD t 0 = x at *
      have HXX := Lib.hid hx
      clear hx
      go_wp2_with (at_builtin; refine wp_append_all w2.heap.size rfl (.tmp 49) (.tmp 50) 24 3 .i64 8 rfl Try.underlying24 Try.info3 _ [x] ro Bo ro.length co rfl rfl rfl (oi_one wr _ x hsz) (HOR.out.below ((Below.refl _ _).alloc (Nat.le_refl _) _)) HNIL.out (bw.alloc hsz _) (by simp; omega) (by simp; omega) (by simp; omega) ?_; intro v4 w4 o4 b4 g4)
      have hcx4 := (b4.cell (World.block_lt_of_cell? w2 _ HCX.out)).trans HCX.out
      have HR4 := Lib.hid (HR2.out.below b4)
      have R4 := Lib.hid (R2.out.below b4)
      by_cases ht0 : (0 : Int) < (t : Int)
      · have hp4 := (b4.cell (World.block_lt_of_cell? w2 _ (HP.out (by omega)))).trans (HP.out (by omega))
        have hp5 : w4.cell? (ad.add ((t : Int) - 1).toNat) = some (.int .i64 (tl.getD (t - 1) 0)) := by rw [show ((t : Int) - 1).toNat = t - 1 by omega]; exact hp4
        have hle := HO.out (by omega)
        generalize tl.getD (t - 1) 0 = y at *
        have ht0n : 0 < t := by omega
        have hleb : decide (x ≤ y) = false := decide_eq_false (by omega)
        clear hcw hle
        go_wp2_with fail
        go_quiet (first | (go_at_call 14; exact Calls.quiet_of_same (has_quiet w4 _ false (by omega) (by omega) HR4.out HY.out HM2.out)) | (go_at_call 14; exact Calls.quiet_of_same (has_quiet w4 _ true (by omega) (by omega) R4.out M2.out.byt HM3.out)))
        go_wp2
        go_roundw
        case rel => exact ⟨t + 1, by omega, by go_num, by rw [← HRN.out, HRV.out]; exact o4.below (below_drewN (Below.refl _ _) _), below_drewN b4 _⟩
        case measure => simp [intOf]; omega
      · have ht0n : ¬ 0 < t := by omega
        have ht0b : decide (0 < t) = false := decide_eq_false (by omega)
        clear hcw
        go_wp2_with fail
        go_quiet (first | (go_at_call 14; exact Calls.quiet_of_same (has_quiet w4 _ false (by omega) (by omega) HR4.out HY.out HM2.out)) | (go_at_call 14; exact Calls.quiet_of_same (has_quiet w4 _ true (by omega) (by omega) R4.out M2.out.byt HM3.out)))
        go_wp2
        go_roundw
        case rel => exact ⟨t + 1, by omega, by go_num, by rw [← HRN.out, HRV.out]; exact o4.below (below_drewN (Below.refl _ _) _), below_drewN b4 _⟩
        case measure => simp [intOf]; omega
    · rw [List.take_of_length_le (by omega)] at oo
      obtain ⟨ro, hro⟩ : ∃ r, r = tl.reverse := ⟨_, rfl⟩
      have hrol : ro.length ≤ 5000 := by rw [hro]; simp; omega
      rw [← hro] at oo HB HB2
      clear hro
      obtain ⟨Bo, co, rfl, hor⟩ := oo.reads
      have HOR := Lib.hid hor
      have HX2 := HX.out ys M2.out
      obtain ⟨hx1, hx2⟩ := HX2
      have RW := Lib.hid (R2.out.below bw)
      have hg := give_ok A2 Bo c2 co ys ro n wr hyl RW.out M2.out.byt hx1 HOR.out (by omega)
      rw [show hasB ys = takeF xs n k from funext M2.out.has, HB.out] at hg
      have HG := Lib.hid hg
      have HX2 : Hid (((listB ys n).length : Int) = lB.length + k) := Lib.hid hx2
      have HRW := Lib.hid (HR2.out.below bw)
      have R1W := Lib.hid (R12.out.below bw)
      clear hg hx1 hx2 hor oo
      go_wp2_with fail
      refine HG.out.mono ?_
      rintro e w5 ⟨hok, _⟩
      obtain ⟨zs, m5, v5, rfl, o5, b5⟩ := hok rfl
      obtain ⟨A5, c5, rfl, r5⟩ := o5.reads
      have hz := HZ.out zs m5
      obtain ⟨hz1, hz2⟩ := hz
      have hzl : zs.length ≤ 600 := by have := m5.len; unfold sizeI at this; omega
      have R5 := Lib.hid r5
      have hg2 := give_ok A5 Bo c5 co zs ro n w5 hzl r5 m5.byt hz1 (HOR.out.below b5) (by omega)
      rw [show hasB zs = hasB xs from funext m5.has] at hg2
      have HG2 := Lib.hid hg2
      have HZ2 := Lib.hid hz2
      have HZY := Lib.hid m5.byt
      have HR5 := Lib.hid (HRW.out.below b5)
      have R15 := Lib.hid (R1W.out.below b5)
      have RY5 := Lib.hid (RW.out.below b5)
      clear hok hz1 hz2 o5 r5 hg2 m5
      go_wp2_with fail
      refine HG2.out.mono ?_
      rintro e w6 hg6
      have h6 : ∃ (v6 : Value) (c6 : Int), e = .returned (.tuple #[v6, .int .i64 c6]) ∧ Below w5.heap.size w5 w6 ∧ (0 < tl.length → c6 = 7) := by
        by_cases h0 : (giveF n (hasB xs) ro).1 = 0
        · obtain ⟨y6, _, v6, rfl, _, b6⟩ := hg6.1 h0
          refine ⟨v6, 0, rfl, b6, fun hp => ?_⟩
          have := HB2.out (by intro e; rw [e] at hp; simp at hp)
          omega
        · obtain ⟨rfl, b6⟩ := hg6.2 h0
          refine ⟨_, _, rfl, b6, fun hp => HB2.out (by intro e; rw [e] at hp; simp at hp)⟩
      obtain ⟨v6, c6, rfl, b6, hc6⟩ := h6
      have HR6 := Lib.hid (HR5.out.below b6)
      have R16 := Lib.hid (R15.out.below b6)
      have RY6 := Lib.hid (RY5.out.below b6)
      have R6 := Lib.hid (R5.out.below b6)
      have HC6 := Lib.hid hc6
      clear hg6 hc6
      have hkk : (k == k) = true := by simp
      have fin : ∀ e w', e = Ending.returned (Value.bool true) ∧ Below w6.heap.size w6 w' → e = Ending.returned (Value.bool true) ∧ Below w.heap.size w w' := fun e w' ⟨h1, h2⟩ =>
        ⟨h1, below_then b1 (below_then b2 (below_then bw (below_then b5 (below_then b6 h2))))⟩
      by_cases hp : (0 : Int) < (tl.length : Int)
      all_goals
        first
        | (have hp2 : (0 : Int) < k := by omega
           have h7 : (c6 != 7) = false := by rw [HC6.out (by omega)]; rfl)
        | have hp2 : ¬ (0 : Int) < k := by omega
        clear hp
        go_wp2_with fail
        refine (list_any A5 c5 zs n _ hzl R6.out HZY.out).mono ?_
        rw [HZ2.out]
        rintro e w7 ⟨v7, rfl, o7, b7⟩
        obtain ⟨A7, c7, rfl, r7⟩ := o7.reads
        have HR7 := Lib.hid (HR6.out.below b7)
        have R7 := Lib.hid r7
        have hl7 := o7.len
        clear r7 o7
        go_wp2_with fail
        refine (HL.out _ HR7.out).mono ?_
        rintro e w8 ⟨v8, rfl, o8, b8⟩
        obtain ⟨A8, c8, rfl, r8⟩ := o8.reads
        have R8 := Lib.hid r8
        have R78 := Lib.hid (R7.out.below b8)
        have HR8 := Lib.hid (HR7.out.below b8)
        clear r8 o8
        go_wp2_with fail
        refine (same64_any A7 A8 c7 c8 lB lB _ hl7 hl7 R78.out R8.out).mono ?_
        rw [decide_eq_true rfl]
        rintro e w9 ⟨rfl, b9⟩
        have HR9 := Lib.hid (HR8.out.below b9)
        have RY9 := Lib.hid (((RY6.out.below b7).below b8).below b9)
        have R19 := Lib.hid (((R16.out.below b7).below b8).below b9)
        go_wp2_with fail
        refine (count_any A2 c2 ys n _ hyl RY9.out M2.out.byt).mono ?_
        rw [HX2.out]
        rintro e w' ⟨rfl, rfl⟩
        go_wp2_with fail
        refine (HC.out _ HR9.out).mono ?_
        rintro e w' ⟨rfl, rfl⟩
        have hsum : ((lB.length : Int) + k == (lB.length : Int) + k) = true := by simp
        go_wp2_with fail
        refine (same8_any A A1 c c1 xs xs _ (by omega) (by omega) HR9.out R19.out).mono ?_
        rw [decide_eq_true rfl]
        rintro e w10 ⟨rfl, b10⟩
        go_wp2_with fail
        refine (awake_any _).mono ?_
        rintro e w11 ⟨rfl, b11⟩
        go_wp2
        go_ret
        exact fin _ _ ⟨rfl, below_then b7 (below_then b8 (below_then b9 (below_then b10 b11)))⟩

theorem back_any (hr : RI w .u8 A xs) (hby : Byt xs) (hA : A = none → xs.length = 0 ∧ c = 0) :
    Calls Try.prog 4 #[.slice A xs.length c, .int .i64 n, .int .i64 k] w fun e w' => e = .returned (.bool true) ∧ Below w.heap.size w w' := by
  by_cases h : (600 : Int) < (xs.length : Int)
  · exact back_far A c xs n k w h
  · rcases take_cases xs n k with ⟨hf, h1⟩ | ⟨hf, hk, h1⟩ | ⟨hf, hk, hk2, h1⟩ | ⟨hf, hk, hk2, h1⟩
    · exact back_err A c xs n k w hr hby (by omega) hA (by rw [h1]; decide)
    · exact back_err A c xs n k w hr hby (by omega) hA (by rw [h1]; decide)
    · exact back_err A c xs n k w hr hby (by omega) hA (by rw [h1]; decide)
    · exact back_ok A c xs n k w hr hby (by omega) hA hf hk hk2
end law
end Go.Proofs.Ytpehbffbflcgnaa
