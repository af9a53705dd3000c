/- The reference: the bitmap of a list; a list without a number; Set. -/
import Derived.Test.YtpehbffbflcgnaaB8
set_option linter.unusedVariables false
namespace Go.Proofs.Ytpehbffbflcgnaa
open Go.RowKit

theorem add_bit_nat : ∀ x, x < 256 → ∀ k, k < 8 → x.testBit k = false → x + 2 ^ k < 256 ∧ ∀ q, q < 8 → (x + 2 ^ k).testBit q = if q = k then true else x.testBit q := by decide +kernel
theorem add_bit (x : Int) (k : Nat) (h0 : 0 ≤ x) (h1 : x < 256) (hk : k < 8) (hb : x.toNat.testBit k = false) :
    0 ≤ x + 2 ^ k ∧ x + 2 ^ k < 256 ∧ ∀ q, q < 8 → (x + 2 ^ k).toNat.testBit q = if q = k then true else x.toNat.testBit q := by
  obtain ⟨n, rfl⟩ := Int.eq_ofNat_of_zero_le h0
  have := add_bit_nat n (by omega) k hk (by simpa using hb)
  have e : ((n : Int) + 2 ^ k) = ((n + 2 ^ k : Nat) : Int) := by simp
  rw [e]
  refine ⟨Int.natCast_nonneg _, Int.ofNat_lt.2 this.1, fun q hq => ?_⟩
  rw [Int.toNat_natCast, Int.toNat_natCast]
  exact this.2 q hq

/-- What a call gives that makes one bitmap. -/
def GivesOf (w : World) (m : Int) (f : Int → Bool) (en : Ending) (w' : World) : Prop := ∃ ys v, IsMap ys m f ∧ en = .returned v ∧ OI w' w.heap.size 5 .u8 v ys ∧ Below w.heap.size w w'

section ref
variable (A C : Option Addr) (c d : Nat) (xs l : List Int) (n : Int) (w : World)

theorem getD_mem {l : List Int} {t : Nat} (h : t < l.length) : l.getD t 0 ∈ l := by
  rw [List.getD_eq_getElem?_getD, List.getElem?_eq_getElem h]; exact List.getElem_mem h
theorem mem_take_step {l : List Int} {t : Nat} (h : t < l.length) (q : Int) : decide (q ∈ l.take (t + 1)) = (decide (q = l.getD t 0) || decide (q ∈ l.take t)) := by
  rw [List.take_succ_eq_append_getElem h, Bool.eq_iff_iff, List.getD_eq_getElem?_getD, List.getElem?_eq_getElem h]
  simp only [List.mem_append, List.mem_singleton, Bool.or_eq_true, decide_eq_true_eq, Option.getD_some]
  exact or_comm

set_option maxHeartbeats 3200000 in
theorem of_any (h0 : 0 ≤ n) (h1 : n ≤ 4096) (hrl : RI w .i64 C l) (hll : l.length ≤ 1000000) (hin : ∀ q ∈ l, 0 ≤ q ∧ q < n) :
    Calls Try.prog 26 #[.slice C l.length d, .int .i64 n] w (GivesOf w (sizeI n) (fun q => decide (q ∈ l))) := by
  obtain ⟨m, hm⟩ : ∃ m : Nat, sizeI n = m := ⟨(sizeI n).toNat, by unfold sizeI; omega⟩
  have hM := Lib.hid hm
  have hmk := make_bytes m (by unfold sizeI at hm; omega)
  have hm2 : m ≤ 600 := by unfold sizeI at hm; omega
  have HL := Lib.hid hrl
  have HI := Lib.hid hin
  clear hm hrl hin
  go_enter Try.func26, Try.ntmps26
  go_wp2_with (go_at_call 22; refine (sizeR_any _ _ h0 h1).mono ?_; rw [hM.out]; rintro e w' ⟨rfl, rfl⟩)
  have hown := oi_made w w.heap.size m (Nat.le_refl _) (by omega)
  have hbel := (Below.refl w.heap.size w).alloc (Nat.le_refl _) (.cells (madeCells #[.int .u8 0] m) 5)
  generalize World.alloc w _ = w1 at *
  obtain ⟨v, hv⟩ : ∃ v, v = Value.slice (some ⟨w.heap.size, 0, none⟩) m m := ⟨_, rfl⟩
  rw [← hv] at hown ⊢
  clear hv hmk
  go_loopw [6] (fun i wr => ∃ (t : Nat) (ys : List Int), t ≤ l.length ∧ i = .int .i64 t ∧ Hid (IsMap ys (sizeI n) (fun q => decide (q ∈ l.take t))) ∧ OI wr w.heap.size 5 .u8 v ys ∧ Below w.heap.size w wr) (fun i _ => l.length - (intOf i).toNat)
  case atStart => exact ⟨0, _, Nat.zero_le _, rfl, Lib.hid (by have := isMap_zeros m; rw [hM.out]; simpa using this), hown, hbel⟩
  case round =>
    obtain ⟨t, ys, ht, rfl, hmap, hout, hbw⟩ := hrel
    clear hown hbel
    have hsz := hbw.size
    by_cases hlt : (t : Int) < (l.length : Int)
    · obtain ⟨ad, rfl, hc⟩ := (HL.out.below hbw) (by omega)
      have hcx := hc t (by omega)
      have hmem := HI.out _ (getD_mem (l := l) (t := t) (by omega))
      have HT : Hid (∀ q, decide (q ∈ l.take (t + 1)) = (decide (q = l.getD t 0) || decide (q ∈ l.take t))) := Lib.hid (mem_take_step (by omega))
      clear hc
      generalize l.getD t 0 = i at *
      obtain ⟨hi0, hi1⟩ := hmem
      have hyl : (ys.length : Int) = sizeI n := hmap.out.len
      have hi8 : i / 8 < (ys.length : Int) := by rw [hyl]; unfold sizeI; omega
      obtain ⟨g, cap, rfl, hg, hgl, hcap, hfz, hcl, hrb, hst⟩ := hout.store (by omega)
      have HRB := Lib.hid hrb
      clear hrb hyl
      cases hh : hasB ys i with
      | true =>
        have HH := Lib.hid hh
        have hMap : Hid (IsMap ys (sizeI n) (fun q => decide (q ∈ l.take (t + 1)))) := Lib.hid ⟨hmap.out.len, hmap.out.byt, fun q => by
          rw [HT.out q, hmap.out.has q]
          by_cases e : q = i
          · have := hmap.out.has i
            rw [hh] at this
            rw [e, ← this]; simp
          · simp [e]⟩
        clear hh hcl hfz hst
        go_wp2_with (go_at_call 24; refine (hasR_any _ _ _ _ _ (by omega) (by omega) HRB.out hmap.out.byt).mono ?_; rw [HH.out]; rintro e w' ⟨rfl, rfl⟩)
        go_roundw
        case rel => exact ⟨t + 1, ys, by omega, by go_num, hMap, hout, hbw⟩
        case measure => simp [intOf]; omega
      | false =>
        have HH := Lib.hid hh
        have hbd := byt_getD hmap.out.byt (i / 8).toNat
        have hk8 : (i % 8).toNat < 8 := by omega
        have hpw := pow_shl (i % 8).toNat hk8
        have hxb := add_bit (ys.getD (i / 8).toNat 0) (i % 8).toNat hbd.1 hbd.2 hk8 (by
          have := hh
          simpa [hasB, hi0, hi8] using this)
        have hMap : Hid (IsMap (ys.set (i / 8).toNat (ys.getD (i / 8).toNat 0 + 2 ^ (i % 8).toNat)) (sizeI n) (fun q => decide (q ∈ l.take (t + 1)))) :=
          Lib.hid (isMap_set hmap.out hi0 (by have := hmap.out.len; omega) hxb.1 hxb.2.1 true (fun q hq8 => hxb.2.2 q hq8) (fun q => by
            rw [HT.out q]
            by_cases e : q = i <;> simp [e]))
        have hcb := hcl (i / 8).toNat (by omega)
        have hfx := hfz (i / 8).toNat
        have hst2 := Lib.hid (hst (i / 8).toNat (ys.getD (i / 8).toNat 0 + 2 ^ (i % 8).toNat) (by omega)).drew
        have hbw2 := Lib.hid ((hbw.setCell (p := ⟨g, (i / 8).toNat, none⟩) hg (.int .u8 (ys.getD (i / 8).toNat 0 + 2 ^ (i % 8).toNat))).drew)
        have hx1 := hxb.1
        have hx2 := hxb.2.1
        clear hh hcl hfz hst hxb hout
        generalize ys.getD (i / 8).toNat 0 = x at *
        go_wp2_with (go_at_call 24; refine (hasR_any _ _ _ _ _ (by omega) (by omega) HRB.out hmap.out.byt).mono ?_; rw [HH.out]; rintro e w' ⟨rfl, rfl⟩)
        go_region
        go_wp2
        go_roundw
        case rel => exact ⟨t + 1, _, by omega, by go_num, hMap, hst2.out, hbw2.out⟩
        case measure => simp [intOf]; omega
    · go_wp2
      go_ret
      refine ⟨ys, v, ?_, rfl, hout, hbw⟩
      have := hmap.out
      rwa [List.take_of_length_le (by omega)] at this

/-- A tuple of a slice of integers of the call's own and a bool. -/
def GivesIB (w : World) (xs : List Int) (b : Bool) (en : Ending) (w' : World) : Prop :=
  ∃ v, en = .returned (.tuple #[v, .bool b]) ∧ OI w' w.heap.size 3 .i64 v xs ∧ Below w.heap.size w w'
def dropL (l : List Int) (x : Int) : List Int := l.filter (fun q => q != x)

theorem dropL_step {l : List Int} {t : Nat} (h : t < l.length) (x : Int) : dropL (l.take (t + 1)) x = dropL (l.take t) x ++ (if l.getD t 0 = x then [] else [l.getD t 0]) := by
  unfold dropL
  rw [List.take_succ_eq_append_getElem h, List.filter_append, List.getD_eq_getElem?_getD, List.getElem?_eq_getElem h, Option.getD_some]
  congr 1
  by_cases e : l[t] = x
  · simp [e]
  · simp [e]
theorem dropL_le (l : List Int) (x : Int) : (dropL l x).length ≤ l.length := List.length_filter_le _ _

set_option maxHeartbeats 3200000 in
theorem without_any (x : Int) (hrl : RI w .i64 C l) (hll : l.length ≤ 1000000) :
    Calls Try.prog 27 #[.slice C l.length d, .int .i64 x] w (GivesIB w (dropL l x) (decide (x ∈ l))) := by
  have HL := Lib.hid hrl
  clear hrl
  go_enter Try.func27, Try.ntmps27
  go_wp2
  go_loopw [6, 7, 8] (fun v b i wr => ∃ (t : Nat), t ≤ l.length ∧ i = .int .i64 t ∧ b = .bool (decide (x ∈ l.take t)) ∧ OI wr w.heap.size 3 .i64 v (dropL (l.take t) x) ∧ Below w.heap.size w wr) (fun _ _ i _ => l.length - (intOf i).toNat)
  case atStart => exact ⟨0, Nat.zero_le _, rfl, by simp, OI.nil _ _ _ _, Below.refl _ _⟩
  case round =>
    obtain ⟨t, ht, rfl, rfl, hout, hbw⟩ := hrel
    have hsz := hbw.size
    by_cases hlt : (t : Int) < (l.length : Int)
    · obtain ⟨ad, rfl, hc⟩ := (HL.out.below hbw) (by omega)
      have hcx := hc t (by omega)
      have HT : Hid (∀ q, decide (q ∈ l.take (t + 1)) = (decide (q = l.getD t 0) || decide (q ∈ l.take t))) := Lib.hid (mem_take_step (by omega))
      have HS : Hid (dropL (l.take (t + 1)) x = dropL (l.take t) x ++ (if l.getD t 0 = x then [] else [l.getD t 0])) := Lib.hid (dropL_step (by omega) x)
      have hdl := dropL_le (l.take t) x
      have hdl2 : (l.take t).length ≤ t := List.length_take_le _ _
      clear hc
      generalize l.getD t 0 = i at *
      generalize hq : decide (x ∈ l.take t) = b at *
      have HQ := Lib.hid hq
      clear hq
      by_cases e : i = x
      · subst e
        have hii : (i == i) = true := by simp
        go_wp2
        go_roundw
        case rel => exact ⟨t + 1, by omega, by go_num, by rw [HT.out]; simp, by rw [HS.out]; simpa using hout, hbw⟩
        case measure => simp [intOf]; omega
      · have hii : (i == x) = false := by simp [e]
        have E := Lib.hid e
        clear e
        go_wp2_with (at_builtin; refine wp_append1 w.heap.size rfl (.tmp 21) (.tmp 26) 24 3 .i64 8 rfl Try.underlying24 Try.info3 (by decide) _ (dropL (l.take t) x) i rfl rfl hout hbw hsz (by omega) ?_; intro v1 w1 hown1 hbel1 hgr1)
        go_roundw
        case rel =>
          refine ⟨t + 1, by omega, by go_num, ?_, ?_, hbel1⟩
          · rw [HT.out, HQ.out]; have := E.out; simp [Ne.symm this]
          · rw [HS.out]; have := E.out; simpa [this] using hown1
        case measure => simp [intOf]; omega
    · go_wp2
      go_ret2
      rw [List.take_of_length_le (by omega)] at hout ⊢
      exact ⟨_, rfl, hout, hbw⟩
end ref
end Go.Proofs.Ytpehbffbflcgnaa
