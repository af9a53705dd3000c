/- The reference: Give. -/
import Derived.Test.YtpehbffbflcgnaaB10
set_option linter.unusedVariables false
namespace Go.Proofs.Ytpehbffbflcgnaa
open Go.RowKit

/-- What a list of bits that are had says. -/
structure Had (n : Int) (h : List Int) (f : Int → Bool) : Prop where
  mem : ∀ q, decide (q ∈ h) = f q
  rng : ∀ q ∈ h, 0 ≤ q ∧ q < n
  len : h.length ≤ 4096

theorem Had.drop {n : Int} {h : List Int} {f : Int → Bool} (k : Had n h f) (i : Int) : Had n (dropL h i) (fun q => if q = i then false else f q) :=
  ⟨fun q => by
    have := k.mem q
    by_cases e : q = i
    · rw [if_pos e]; simp [mem_dropL, e]
    · rw [if_neg e, ← this]; simp [mem_dropL, e], fun q hq => k.rng q (mem_dropL.1 hq).1, Nat.le_trans (dropL_le _ _) k.len⟩

section giveR
variable (A C : Option Addr) (c d : Nat) (xs l : List Int) (n : Int) (w : World)
set_option maxHeartbeats 800000 in
theorem giveR_form (hl : xs.length ≤ 600) (hr : RI w .u8 A xs) (hby : Byt xs) (hf : fitsB xs n = false) :
    Calls Try.prog 11 #[.slice A xs.length c, .int .i64 n, .slice C l.length d] w fun e w' => e = .returned (.tuple #[.slice none 0 0, .int .i64 4]) ∧ w = w' := by
  have HR := Lib.hid hr
  have HY := Lib.hid hby
  have HF := Lib.hid hf
  clear hr hby hf
  go_enter Try.func11, Try.ntmps11
  go_wp2_with (go_at_call 17; refine (fitsR_any _ _ _ _ _ hl HR.out HY.out).mono ?_; rw [HF.out]; rintro e w' ⟨rfl, rfl⟩)
  go_ret2
  exact ⟨rfl, rfl⟩

set_option maxHeartbeats 3200000 in
theorem giveR_ok (hl : xs.length ≤ 600) (hr : RI w .u8 A xs) (hby : Byt xs) (hf : fitsB xs n = true) (hrl : RI w .i64 C l) (hll : l.length ≤ 1000000) :
    Calls Try.prog 11 #[.slice A xs.length c, .int .i64 n, .slice C l.length d] w (GivesGive w (sizeI n) (giveF n (hasB xs) l)) := by
  have HR := Lib.hid hr
  have HY := Lib.hid hby
  have HF := Lib.hid hf
  have hn := (fitsB_true.1 hf).2.1
  have hn0 := (fitsB_true.1 hf).1
  have HL := Lib.hid hrl
  have hH : Had n (listB xs n) (hasB xs) := ⟨fun q => by rw [Bool.eq_iff_iff, decide_eq_true_eq]; exact mem_list hf q, fun q hq => has_range hf ((mem_list hf q).1 hq), by
    rw [listB_yes hf]; have := pickL_length (hasB xs) n.toNat; omega⟩
  obtain ⟨h0, hh0⟩ : ∃ h0, h0 = listB xs n := ⟨_, rfl⟩
  rw [← hh0] at hH
  have HH0 := Lib.hid hh0
  have HH := Lib.hid hH
  clear hr hby hf hrl hh0 hH
  go_enter Try.func11, Try.ntmps11
  go_wp2_with (first
    | (go_at_call 17; refine (fitsR_any _ _ _ _ _ hl HR.out HY.out).mono ?_; rw [HF.out]; rintro e w' ⟨rfl, rfl⟩)
    | (go_at_call 18; refine (listR_any _ _ _ _ _ hl HR.out HY.out).mono ?_; rintro e w1 ⟨v1, rfl, hown1, hbel1⟩; rw [← HH0.out] at hown1))
  go_loopw [8, 9] (fun v i wr => ∃ (t : Nat) (h : List Int) (f : Int → Bool), t ≤ l.length ∧ i = .int .i64 t ∧ Hid (Had n h f) ∧ OI wr w.heap.size 3 .i64 v h ∧ Below w.heap.size w wr ∧ Hid (giveF n (hasB xs) l = giveF n f (l.drop t))) (fun _ i _ => l.length - (intOf i).toNat)
  case atStart => exact ⟨0, _, _, Nat.zero_le _, rfl, HH, hown1, hbel1, Lib.hid rfl⟩
  case round =>
    obtain ⟨t, h, f, ht, rfl, hhad, hout, hbw, hgv⟩ := hrel
    clear hown1 hbel1
    have hsz := hbw.size
    obtain ⟨Bo, co, rfl, hro⟩ := hout.reads
    have HRO := Lib.hid hro
    clear hro
    by_cases hlt : (t : Int) < (l.length : Int)
    · obtain ⟨ad, rfl, hc⟩ := (HL.out.below hbw) (by omega)
      have hcx := hc t (by omega)
      have HD := Lib.hid (drop_cons (l := l) (t := t) (by omega))
      clear hc
      generalize l.getD t 0 = i at *
      by_cases hi0 : i < 0
      · have HG : Hid (giveF n (hasB xs) l = (20, f)) := Lib.hid (by rw [hgv.out, HD.out]; simp [giveF, hi0])
        go_wp2
        go_ret2
        exact gives_no HG.out (by decide) hbw
      · by_cases hi1 : n ≤ i
        · have HG : Hid (giveF n (hasB xs) l = (20, f)) := Lib.hid (by rw [hgv.out, HD.out]; simp [giveF, hi1])
          go_wp2
          go_ret2
          exact gives_no HG.out (by decide) hbw
        · have hlen := hhad.out.len
          cases hh : f i with
          | false =>
            have HM : Hid (decide (i ∈ h) = false) := Lib.hid ((hhad.out.mem i).trans hh)
            have HG : Hid (giveF n (hasB xs) l = (7, f)) := Lib.hid (by rw [hgv.out, HD.out]; simp [giveF, hi0, hi1, hh])
            clear hh
            go_wp2_with (go_at_call 27; refine (without_any _ _ _ _ _ HRO.out (by omega)).mono ?_; rw [HM.out]; rintro e w2 ⟨v2, rfl, hown2, hbel2⟩)
            go_ret2
            exact gives_no HG.out (by decide) (below_then hbw hbel2)
          | true =>
            have HM : Hid (decide (i ∈ h) = true) := Lib.hid ((hhad.out.mem i).trans hh)
            have HG : Hid (giveF n (hasB xs) l = giveF n (fun q => if q = i then false else f q) (l.drop (t + 1))) := Lib.hid (by rw [hgv.out, HD.out]; simp [giveF, hi0, hi1, hh])
            clear hh
            go_wp2_with (go_at_call 27; refine (without_any _ _ _ _ _ HRO.out (by omega)).mono ?_; rw [HM.out]; rintro e w2 ⟨v2, rfl, hown2, hbel2⟩)
            go_roundw
            case rel => exact ⟨t + 1, _, _, by omega, by go_num, Lib.hid (hhad.out.drop i), hown2.mono hsz, below_then hbw hbel2, HG⟩
            case measure => simp [intOf]; omega
    · have HG : Hid (giveF n (hasB xs) l = (0, f)) := Lib.hid (by rw [hgv.out, List.drop_of_length_le (by omega)]; rfl)
      have hlen := hhad.out.len
      go_wp2_with (go_at_call 26; refine (of_any _ _ _ _ _ hn0 hn HRO.out (by omega) hhad.out.rng).mono ?_; rintro e w3 ⟨ys, v3, hmap3, rfl, hown3, hbel3⟩)
      go_ret2
      rw [HG.out]
      exact ⟨fun _ => ⟨ys, hmap3.congr hhad.out.mem, _, rfl, hown3.mono hsz, below_then hbw hbel3⟩, fun h => absurd rfl h⟩
end giveR
end Go.Proofs.Ytpehbffbflcgnaa
