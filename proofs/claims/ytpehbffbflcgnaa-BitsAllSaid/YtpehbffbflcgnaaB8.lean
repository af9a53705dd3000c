/- Give of the program: bits are given back, one by one. -/
import Derived.Test.YtpehbffbflcgnaaB7
set_option linter.unusedVariables false
namespace Go.Proofs.Ytpehbffbflcgnaa
open Go.RowKit

/-- What giving back comes to: a code, and what is had then. -/
def giveF (n : Int) : (Int → Bool) → List Int → Int × (Int → Bool)
  | f, [] => (0, f)
  | f, i :: l => if i < 0 ∨ n ≤ i then (20, f) else if f i then giveF n (fun q => if q = i then false else f q) l else (7, f)

def GivesGive (w : World) (m : Int) (r : Int × (Int → Bool)) (en : Ending) (w' : World) : Prop :=
  (r.1 = 0 → GivesMap w m r.2 en w') ∧ (r.1 ≠ 0 → en = .returned (.tuple #[.slice none 0 0, .int .i64 r.1]) ∧ Below w.heap.size w w')

theorem drop_cons {l : List Int} {t : Nat} (h : t < l.length) : l.drop t = l.getD t 0 :: l.drop (t + 1) := by
  rw [List.drop_eq_getElem_cons h]
  simp [List.getD_eq_getElem?_getD, h]

section give
variable (A C : Option Addr) (c d : Nat) (xs l : List Int) (n : Int) (w : World)
set_option maxHeartbeats 800000 in
theorem give_form (hl : xs.length ≤ 600) (hr : RI w .u8 A xs) (hby : Byt xs) (hf : fitsB xs n = false) :
    Calls Try.prog 10 #[.slice A xs.length c, .int .i64 n, .slice C l.length d] w fun e w' => e = .returned (.tuple #[.slice none 0 0, .int .i64 4]) ∧ w = w' := by
  have HR := Lib.hid hr
  have HY := Lib.hid hby
  have HF := Lib.hid hf
  clear hr hby hf
  go_enter Try.func10, Try.ntmps10
  go_wp2_with (go_at_call 23; refine (fits_any _ _ _ _ _ hl HR.out HY.out).mono ?_; rw [HF.out]; rintro e w' ⟨rfl, rfl⟩)
  go_ret2
  exact ⟨rfl, rfl⟩

theorem gives_no {w w' : World} {m : Int} {r : Int × (Int → Bool)} {code : Int} {f : Int → Bool} (h : r = (code, f)) (h0 : code ≠ 0) (hb : Below w.heap.size w w') :
    GivesGive w m r (.returned (.tuple #[.slice none 0 0, .int .i64 code])) w' := by
  subst h; exact ⟨fun e => absurd e h0, fun _ => ⟨rfl, hb⟩⟩

set_option maxHeartbeats 3200000 in
theorem give_ok (hl : xs.length ≤ 600) (hr : RI w .u8 A xs) (hby : Byt xs) (hf : fitsB xs n = true) (hrl : RI w .i64 C l) (hll : l.length ≤ 1000000) :
    Calls Try.prog 10 #[.slice A xs.length c, .int .i64 n, .slice C l.length d] w (GivesGive w (sizeI n) (giveF n (hasB xs) l)) := by
  have HR := Lib.hid hr
  have HY := Lib.hid hby
  have HF := Lib.hid hf
  have hn := (fitsB_true.1 hf).2.1
  have hn0 := (fitsB_true.1 hf).1
  have HM := Lib.hid (whole_map hf hby)
  have HL := Lib.hid hrl
  clear hr hby hf hrl
  go_enter Try.func10, Try.ntmps10
  go_wp2_with (first
    | (go_at_call 23; refine (fits_any _ _ _ _ _ hl HR.out HY.out).mono ?_; rw [HF.out]; rintro e w' ⟨rfl, rfl⟩)
    | (go_at_call 25; refine (whole_any _ _ _ _ _ HF.out HR.out).mono ?_; rintro e w1 ⟨v, rfl, hown, hbel⟩))
  go_loopw [20] (fun i wr => ∃ (t : Nat) (ys : List Int) (f : Int → Bool), t ≤ l.length ∧ i = .int .i64 t ∧ Hid (IsMap ys (sizeI n) f) ∧ OI wr w.heap.size 5 .u8 v ys ∧ Below w.heap.size w wr ∧ Hid (giveF n (hasB xs) l = giveF n f (l.drop t))) (fun i _ => l.length - (intOf i).toNat)
  case atStart => exact ⟨0, _, _, Nat.zero_le _, rfl, HM, hown, hbel, Lib.hid rfl⟩
  case round =>
    obtain ⟨t, ys, f, ht, rfl, hmap, hout, hbw, hgv⟩ := hrel
    clear hown hbel
    have hsz := hbw.size
    by_cases hlt : (t : Int) < (l.length : Int)
    · obtain ⟨ad, rfl, hc⟩ := (HL.out.below hbw) (by omega)
      have hcx := hc t (by omega)
      have HD := Lib.hid (drop_cons (l := l) (t := t) (by omega))
      clear hc
      generalize l.getD t 0 = i at *
      by_cases hi0 : i < 0
      · have HG : Hid (giveF n (hasB xs) l = (20, f)) := Lib.hid (by rw [hgv.out, HD.out]; simp [giveF, hi0])
        go_wp2
        go_ret2
        exact gives_no HG.out (by decide) hbw
      · by_cases hi1 : n ≤ i
        · have HG : Hid (giveF n (hasB xs) l = (20, f)) := Lib.hid (by rw [hgv.out, HD.out]; simp [giveF, hi1])
          go_wp2
          go_ret2
          exact gives_no HG.out (by decide) hbw
        · have hyl : (ys.length : Int) = sizeI n := hmap.out.len
          have hi8 : i / 8 < (ys.length : Int) := by rw [hyl]; unfold sizeI; omega
          clear hyl
          cases hh : hasB ys i with
          | false =>
            have HH := Lib.hid hh
            have HG : Hid (giveF n (hasB xs) l = (7, f)) := Lib.hid (by
              have := hmap.out.has i
              rw [hh] at this
              rw [hgv.out, HD.out]; simp [giveF, hi0, hi1, ← this])
            obtain ⟨Bo, co, rfl, hro⟩ := hout.reads
            have HRO := Lib.hid hro
            clear hro hh
            go_wp2_with (go_at_call 14; refine (has_any _ _ _ _ _ (by omega) (by omega) HRO.out hmap.out.byt).mono ?_; rw [HH.out]; rintro e w' ⟨rfl, rfl⟩)
            go_ret2
            exact gives_no HG.out (by decide) hbw
          | true =>
            have HH := Lib.hid hh
            have HG : Hid (giveF n (hasB xs) l = giveF n (fun q => if q = i then false else f q) (l.drop (t + 1))) := Lib.hid (by
              have := hmap.out.has i
              rw [hh] at this
              rw [hgv.out, HD.out]; simp [giveF, hi0, hi1, ← this])
            obtain ⟨g, cap, rfl, hg, hgl, hcap, hfz, hcl, hrb, hst⟩ := hout.store (by omega)
            have HRB := Lib.hid hrb
            have hbd := byt_getD hmap.out.byt (i / 8).toNat
            have hk8 : (i % 8).toNat < 8 := by omega
            have hpw := pow_shl (i % 8).toNat hk8
            have hxb := andNot_bit (ys.getD (i / 8).toNat 0) (i % 8).toNat hbd.1 hbd.2 hk8
            have hMap : Hid (IsMap (ys.set (i / 8).toNat (bits .andNot .u8 (ys.getD (i / 8).toNat 0) (2 ^ (i % 8).toNat))) (sizeI n) (fun q => if q = i then false else f q)) :=
              Lib.hid (isMap_set hmap.out (by omega) (by have := hmap.out.len; omega) hxb.1 hxb.2.1 false (fun q hq8 => hxb.2.2 q hq8) (fun q => rfl))
            have hcb := hcl (i / 8).toNat (by omega)
            have hfx := hfz (i / 8).toNat
            have hst2 := Lib.hid (hst (i / 8).toNat (bits .andNot .u8 (ys.getD (i / 8).toNat 0) (2 ^ (i % 8).toNat)) (by omega)).drew
            have hbw2 := Lib.hid ((hbw.setCell (p := ⟨g, (i / 8).toNat, none⟩) hg (.int .u8 (bits .andNot .u8 (ys.getD (i / 8).toNat 0) (2 ^ (i % 8).toNat)))).drew)
            clear hh hrb hcl hfz hst hxb hout
            generalize ys.getD (i / 8).toNat 0 = x at *
            go_wp2_with (go_at_call 14; refine (has_any _ _ _ _ _ (by omega) (by omega) HRB.out hmap.out.byt).mono ?_; rw [HH.out]; rintro e w' ⟨rfl, rfl⟩)
            go_region
            go_wp2
            go_roundw
            case rel => exact ⟨t + 1, _, _, by omega, by go_num, hMap, hst2.out, hbw2.out, HG⟩
            case measure => simp [intOf]; omega
    · have HG : Hid (giveF n (hasB xs) l = (0, f)) := Lib.hid (by rw [hgv.out, List.drop_of_length_le (by omega)]; rfl)
      go_wp2
      go_ret2
      rw [HG.out]
      exact ⟨fun _ => ⟨ys, hmap.out, _, rfl, hout, hbw⟩, fun h => absurd rfl h⟩
end give
end Go.Proofs.Ytpehbffbflcgnaa
