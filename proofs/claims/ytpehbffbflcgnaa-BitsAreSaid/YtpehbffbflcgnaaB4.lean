/- The reference's List; how many bits are had; whether two slices are the same. -/
import Derived.Test.YtpehbffbflcgnaaB3
import Derived.Deep.QuietTactic
import Derived.BigQuiet
set_option linter.unusedVariables false
namespace Go.Proofs.Ytpehbffbflcgnaa
open Go.RowKit

section list
variable (A : Option Addr) (c : Nat) (xs : List Int) (n : Int) (w : World)
set_option maxHeartbeats 800000 in
theorem listR_any (hl : xs.length ≤ 600) (hr : RI w .u8 A xs) (hby : Byt xs) :
    Calls Try.prog 18 #[.slice A xs.length c, .int .i64 n] w (GivesI w 3 .i64 (listB xs n)) := by
  have HR := Lib.hid hr
  have HY := Lib.hid hby
  clear hr hby
  cases hf : fitsB xs n with
  | false =>
    have HF := Lib.hid hf
    clear hf
    go_enter Try.func18, Try.ntmps18
    go_wp2_with (go_at_call 17; refine (fitsR_any _ _ _ _ _ hl HR.out HY.out).mono ?_; rw [HF.out]; rintro e w' ⟨rfl, rfl⟩)
    go_ret
    rw [listB_no HF.out]
    exact ⟨_, rfl, OI.nil _ _ _ _, Below.refl _ _⟩
  | true =>
    have HF := Lib.hid hf
    have hp := fitsB_true.1 hf
    obtain ⟨m, rfl⟩ := Int.eq_ofNat_of_zero_le hp.1
    have hm : m ≤ 4096 := by have := hp.2.1; omega
    clear hf hp
    go_enter Try.func18, Try.ntmps18
    go_wp2_with (go_at_call 17; refine (fitsR_any _ _ _ _ _ hl HR.out HY.out).mono ?_; rw [HF.out]; rintro e w' ⟨rfl, rfl⟩)
    go_loopw [5, 6] (fun v i wr => ∃ k : Nat, k ≤ m ∧ i = .int .i64 k ∧ OI wr w.heap.size 3 .i64 v (pickL (hasB xs) k) ∧ Below w.heap.size w wr) (fun _ i _ => m - (intOf i).toNat)
    case atStart => exact ⟨0, Nat.zero_le _, rfl, OI.nil _ _ _ _, Below.refl _ _⟩
    case round =>
      obtain ⟨k, hk, rfl, hown, hbel⟩ := hrel
      have hsz := hbel.size
      by_cases hlt : (k : Int) < (m : Int)
      · cases hh : hasB xs k with
        | true =>
          have HH := Lib.hid hh
          clear hh
          have hpl := pickL_length (hasB xs) k
          go_wp2_with (first
            | (go_at_call 24; refine (hasR_any _ _ _ _ _ (by omega) (by omega) (HR.out.below hbel) HY.out).mono ?_; rw [HH.out]; rintro e w' ⟨rfl, rfl⟩)
            | (at_builtin; refine wp_append1 w.heap.size rfl (.tmp 19) (.tmp 21) 24 3 .i64 8 rfl Try.underlying24 Try.info3 (by decide) _ (pickL (hasB xs) k) k rfl rfl hown hbel hsz (by omega) ?_; intro v1 w1 hown1 hbel1 _))
          go_roundw
          case rel => exact ⟨k + 1, by omega, by go_num, by rw [pickL_hit HH.out]; exact hown1, hbel1⟩
          case measure => simp [intOf]; omega
        | false =>
          have HH := Lib.hid hh
          clear hh
          go_wp2_with (go_at_call 24; refine (hasR_any _ _ _ _ _ (by omega) (by omega) (HR.out.below hbel) HY.out).mono ?_; rw [HH.out]; rintro e w' ⟨rfl, rfl⟩)
          go_roundw
          case rel => exact ⟨k + 1, by omega, by go_num, by rw [pickL_miss HH.out]; exact hown, hbel⟩
          case measure => simp [intOf]; omega
      · go_wp2
        go_ret
        rw [listB_yes HF.out, show ((m : Int).toNat) = k by omega]
        exact ⟨_, rfl, hown, hbel⟩
end list

/-- How many of the eight bits of a byte are had. -/
def pop8 (n : Nat) : Nat := (List.range 8).countP fun k => n.testBit k

theorem pop8_le (n : Nat) : pop8 n ≤ 8 := by unfold pop8; exact Nat.le_trans List.countP_le_length (by simp)
theorem tab_pop (s : ByteArray) (n : Nat) (hn : n < 256) (h : n < s.size) (hs : s.data.toList = (List.range 256).map (fun i => UInt8.ofNat (pop8 i))) :
    wrap64 ((s[n]'h).toNat : Int) = pop8 n := by
  have e : s[n]'h = UInt8.ofNat (pop8 n) := by
    have h' : s.data.toList[n]? = some (UInt8.ofNat (pop8 n)) := by rw [hs]; simp [hn]
    have h2 : n < s.data.size := h
    rw [Array.getElem?_toList, Array.getElem?_eq_getElem h2] at h'
    exact Option.some.inj h'
  rw [e]
  have := pop8_le n
  have e2 : (UInt8.ofNat (pop8 n)).toNat = pop8 n := by simp; omega
  rw [e2]
  unfold wrap64
  omega

set_option maxRecDepth 100000 in
set_option maxHeartbeats 1000000 in
theorem ones_any (x : Int) (w : World) (h0 : 0 ≤ x) (h1 : x < 256) :
    Calls Try.prog 28 #[.int .u8 x] w fun e w' => e = .returned (.int .i64 (pop8 x.toNat)) ∧ w = w' := by
  go_enter Try.func28, Try.ntmps28
  go_wp2
  go_ret
  refine ⟨ret_int (tab_pop _ _ (by omega) _ (by decide +kernel)), rfl⟩

section same
variable (A B : Option Addr) (c d : Nat) (xs ys : List Int) (w : World)
theorem take_ne {xs ys : List Int} {k : Nat} (h1 : k < xs.length) (h2 : k < ys.length) (h : ¬ xs.getD k 0 = ys.getD k 0) : false = decide (xs = ys) := by
  refine (decide_eq_false ?_).symm
  rintro rfl
  exact h rfl
theorem take_step {xs ys : List Int} {k : Nat} (h1 : k < xs.length) (h2 : k < ys.length) (h : xs.getD k 0 = ys.getD k 0) (ht : xs.take k = ys.take k) : xs.take (k + 1) = ys.take (k + 1) := by
  rw [List.getD_eq_getElem?_getD, List.getD_eq_getElem?_getD, List.getElem?_eq_getElem h1, List.getElem?_eq_getElem h2] at h
  simp only [Option.getD_some] at h
  rw [List.take_succ_eq_append_getElem h1, List.take_succ_eq_append_getElem h2, ht, h]
theorem take_done {xs ys : List Int} {k : Nat} (h1 : xs.length ≤ k) (he : xs.length = ys.length) (ht : xs.take k = ys.take k) : true = decide (xs = ys) := by
  refine (decide_eq_true ?_).symm
  rwa [List.take_of_length_le h1, List.take_of_length_le (by omega)] at ht
theorem len_ne {xs ys : List Int} (h : ¬ xs.length = ys.length) : false = decide (xs = ys) := (decide_eq_false (fun e => h (by rw [e]))).symm
theorem below_drewN {B : Nat} {w W : World} (h : Below B w W) (n : Nat) : Below B w (W.drewN n) := ⟨h.os, h.tape, h.output, h.size, h.block⟩

set_option maxHeartbeats 800000 in
theorem same8_any (hl : xs.length ≤ 9223372036854775807) (hl2 : ys.length ≤ 9223372036854775807) (hr : RI w .u8 A xs) (hs : RI w .u8 B ys) :
    Calls Try.prog 12 #[.slice A xs.length c, .slice B ys.length d] w fun e w' => e = .returned (.bool (decide (xs = ys))) ∧ Below w.heap.size w w' := by
  have HR := Lib.hid hr
  have HS := Lib.hid hs
  clear hr hs
  by_cases he : xs.length = ys.length
  · have h1 : ((xs.length : Int) != (ys.length : Int)) = false := by rw [he]; simp
    have HE := Lib.hid he
    clear he
    go_enter Try.func12, Try.ntmps12
    go_wp2
    go_loopw [5] (fun i wr => ∃ k : Nat, k ≤ xs.length ∧ i = .int .i64 k ∧ Hid (xs.take k = ys.take k) ∧ Below w.heap.size w wr) (fun i _ => xs.length - (intOf i).toNat)
    case atStart => exact ⟨0, Nat.zero_le _, rfl, Lib.hid (by simp), Below.refl _ _⟩
    case round =>
      obtain ⟨k, hk, rfl, hp, hbel⟩ := hrel
      by_cases hlt : (k : Int) < (xs.length : Int)
      · obtain ⟨ad, rfl, hc⟩ := (HR.out.below hbel) (by omega)
        obtain ⟨bd, rfl, hd⟩ := (HS.out.below hbel) (by have := HE.out; omega)
        have hcx := hc k (by omega)
        have hdx := hd k (by have := HE.out; omega)
        have hlt2 : (k : Int) < (ys.length : Int) := by have := HE.out; omega
        have HX : ∀ h : xs.getD k 0 = ys.getD k 0, Hid (xs.take (k + 1) = ys.take (k + 1)) := fun h => Lib.hid (take_step (by omega) (by omega) h hp.out)
        have HN : ∀ h : ¬ xs.getD k 0 = ys.getD k 0, Hid (false = decide (xs = ys)) := fun h => Lib.hid (take_ne (by omega) (by omega) h)
        generalize xs.getD k 0 = x at *
        generalize ys.getD k 0 = y at *
        clear hc hd hp
        by_cases hxy : x = y
        · have hne : (x != y) = false := by rw [hxy]; simp
          have HXX := HX hxy
          clear HX HN hxy
          go_wp2_with fail
          go_quiet (fail)
          go_wp2
          go_roundw
          case rel => exact ⟨k + 1, by omega, by go_num, HXX, below_drewN hbel _⟩
          case measure => simp [intOf]; omega
        · have hne : (x != y) = true := bne_iff_ne.2 hxy
          have HNN := HN hxy
          clear HX HN hxy
          go_wp2_with fail
          go_quiet (fail)
          go_wp2
          go_ret
          exact ⟨ret_bool HNN.out, below_drewN hbel _⟩
      · go_wp2
        go_ret
        exact ⟨ret_bool (take_done (by omega) HE.out hp.out), hbel⟩
  · have h1 : ((xs.length : Int) != (ys.length : Int)) = true := bne_iff_ne.2 (by omega)
    have HE := Lib.hid he
    clear he
    go_enter Try.func12, Try.ntmps12
    go_wp2
    go_ret
    exact ⟨ret_bool (len_ne HE.out), Below.refl _ _⟩

set_option maxHeartbeats 800000 in
theorem same64_any (hl : xs.length ≤ 9223372036854775807) (hl2 : ys.length ≤ 9223372036854775807) (hr : RI w .i64 A xs) (hs : RI w .i64 B ys) :
    Calls Try.prog 13 #[.slice A xs.length c, .slice B ys.length d] w fun e w' => e = .returned (.bool (decide (xs = ys))) ∧ Below w.heap.size w w' := by
  have HR := Lib.hid hr
  have HS := Lib.hid hs
  clear hr hs
  by_cases he : xs.length = ys.length
  · have h1 : ((xs.length : Int) != (ys.length : Int)) = false := by rw [he]; simp
    have HE := Lib.hid he
    clear he
    go_enter Try.func13, Try.ntmps13
    go_wp2
    go_loopw [5] (fun i wr => ∃ k : Nat, k ≤ xs.length ∧ i = .int .i64 k ∧ Hid (xs.take k = ys.take k) ∧ Below w.heap.size w wr) (fun i _ => xs.length - (intOf i).toNat)
    case atStart => exact ⟨0, Nat.zero_le _, rfl, Lib.hid (by simp), Below.refl _ _⟩
    case round =>
      obtain ⟨k, hk, rfl, hp, hbel⟩ := hrel
      by_cases hlt : (k : Int) < (xs.length : Int)
      · obtain ⟨ad, rfl, hc⟩ := (HR.out.below hbel) (by omega)
        obtain ⟨bd, rfl, hd⟩ := (HS.out.below hbel) (by have := HE.out; omega)
        have hcx := hc k (by omega)
        have hdx := hd k (by have := HE.out; omega)
        have hlt2 : (k : Int) < (ys.length : Int) := by have := HE.out; omega
        have HX : ∀ h : xs.getD k 0 = ys.getD k 0, Hid (xs.take (k + 1) = ys.take (k + 1)) := fun h => Lib.hid (take_step (by omega) (by omega) h hp.out)
        have HN : ∀ h : ¬ xs.getD k 0 = ys.getD k 0, Hid (false = decide (xs = ys)) := fun h => Lib.hid (take_ne (by omega) (by omega) h)
        generalize xs.getD k 0 = x at *
        generalize ys.getD k 0 = y at *
        clear hc hd hp
        by_cases hxy : x = y
        · have hne : (x != y) = false := by rw [hxy]; simp
          have HXX := HX hxy
          clear HX HN hxy
          go_wp2_with fail
          go_quiet (fail)
          go_wp2
          go_roundw
          case rel => exact ⟨k + 1, by omega, by go_num, HXX, below_drewN hbel _⟩
          case measure => simp [intOf]; omega
        · have hne : (x != y) = true := bne_iff_ne.2 hxy
          have HNN := HN hxy
          clear HX HN hxy
          go_wp2_with fail
          go_quiet (fail)
          go_wp2
          go_ret
          exact ⟨ret_bool HNN.out, below_drewN hbel _⟩
      · go_wp2
        go_ret
        exact ⟨ret_bool (take_done (by omega) HE.out hp.out), hbel⟩
  · have h1 : ((xs.length : Int) != (ys.length : Int)) = true := bne_iff_ne.2 (by omega)
    have HE := Lib.hid he
    clear he
    go_enter Try.func13, Try.ntmps13
    go_wp2
    go_ret
    exact ⟨ret_bool (len_ne HE.out), Below.refl _ _⟩
end same
end Go.Proofs.Ytpehbffbflcgnaa
