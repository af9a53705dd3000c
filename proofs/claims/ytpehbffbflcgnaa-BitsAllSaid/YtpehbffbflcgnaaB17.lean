/- The walk of BitsAll. -/
import Derived.Test.YtpehbffbflcgnaaB16
set_option linter.unusedVariables false
namespace Go.Proofs.Ytpehbffbflcgnaa
open Go.RowKit

section law
variable (A : Option Addr) (c : Nat) (xs : List Int) (n : Int) (w : World)

theorem list_len_le {xs : List Int} {n : Int} (hf : fitsB xs n = true) : ((listB xs n).length : Int) ≤ n := by
  have := pickL_length (hasB xs) n.toNat
  rw [listB_yes hf]; have := (fitsB_true.1 hf).1; omega

set_option maxHeartbeats 800000 in
theorem all_law (hr : RI w .u8 A xs) (hby : Byt xs) (hxl : xs.length ≤ 600) (hf : fitsB xs n = true) :
    Calls Try.prog 5 #[.slice A xs.length c, .int .i64 n] w fun e w' => e = .returned (.bool true) ∧ Below w.heap.size w w' := by
  have HR := Lib.hid hr
  have h1 : ¬ (600 : Int) < (xs.length : Int) := by omega
  have hn0 := (fitsB_true.1 hf).1
  have hn1 := (fitsB_true.1 hf).2.1
  have hll := list_len_le hf
  have hfr := free_count hf
  obtain ⟨k, hk⟩ : ∃ k : Int, k = n - (listB xs n).length := ⟨_, rfl⟩
  have hk0 : 0 ≤ k := by omega
  have hkl : k = (freeL xs n).length := by omega
  have hT := fun w h => take_ok A c xs n k w hxl h hby hf hk0 (by omega)
  have hS := fun w h => take_space A c xs n (k + 1) w hxl h hby hf (by omega) (by omega)
  have hL := fun w h => listR_any A c xs n w hxl h hby
  have hF := fun w h => fitsR_any A c xs n w hxl h hby
  have htl : ((takeL xs n k).length : Int) = k := takeL_length hk0 (by omega)
  obtain ⟨tk, htk⟩ : ∃ t, t = takeL xs n k := ⟨_, rfl⟩
  have hfx : ∀ ys, IsMap ys (sizeI n) (takeF xs n k) → fitsB ys n = true ∧ ((listB ys n).length : Int) = n ∧ ys.length ≤ 600 := fun ys hm => by
    have h2 := fits_of_map hn0 hn1 hm (fun i hi => takeF_range hf hi)
    refine ⟨h2, ?_, ?_⟩
    · rw [list_of_map h2 hm.has, takeF_length hf hk0 (by omega)]; omega
    · have := hm.len; unfold sizeI at this; omega
  have hgv : ∀ ys, IsMap ys (sizeI n) (takeF xs n k) → giveF n (hasB ys) (listB ys n) = (0, fun q => false) := fun ys hm => by
    have h2 := hfx ys hm
    rw [giveF_all n _ _ (nodup_of_sorted (by rw [listB_yes h2.1]; exact pickL_sorted _ _)) (fun i hi => by
      have := (mem_list h2.1 i).1 hi
      have h3 := has_range h2.1 this
      exact ⟨h3.1, h3.2, this⟩)]
    congr 1
    funext q
    have := mem_list h2.1 q
    cases hq : hasB ys q
    · simp
    · simp [this.2 hq]
  have hkb : k ≤ 4096 := by omega
  have HT := Lib.hid hT
  have HS := Lib.hid hS
  have HL := Lib.hid hL
  have HF := Lib.hid hF
  have HFX := Lib.hid hfx
  have HGV := Lib.hid hgv
  have HK := Lib.hid hk
  have HFF := Lib.hid hf
  rw [← htk] at HT htl
  clear hT hS hL hF hfx hgv hr htk hk hfr hkl hf
  obtain ⟨lB, hlB⟩ : ∃ t, t = listB xs n := ⟨_, rfl⟩
  rw [← hlB] at hll HK HL
  clear hlB
  go_enter Try.func5, Try.ntmps5
  go_wp2_with fail
  refine (HF.out _ HR.out).mono ?_
  rw [HFF.out]
  rintro e w' ⟨rfl, rfl⟩
  go_wp2_with fail
  refine (HL.out _ HR.out).mono ?_
  rintro e w1 ⟨v1, rfl, o1, b1⟩
  obtain ⟨A1, c1, rfl, r1⟩ := o1.reads
  have HR1 := Lib.hid (HR.out.below b1)
  clear o1 r1
  go_wp2_with fail
  rw [← HK.out]
  refine (HT.out _ HR1.out).mono ?_
  rintro e w2 ⟨ys, v2, u2, m2, rfl, o2, p2, b2⟩
  obtain ⟨A2, c2, rfl, r2⟩ := o2.reads
  obtain ⟨D2, d2, rfl, s2⟩ := p2.reads
  have HR2 := Lib.hid (HR1.out.below b2)
  have R2 := Lib.hid r2
  have M2 := Lib.hid m2
  clear r2 s2 o2 p2 m2
  go_wp2_with fail
  refine (HS.out _ HR2.out).mono ?_
  rintro e w' ⟨rfl, rfl⟩
  go_wp2_with fail
  have hx := HFX.out ys M2.out
  obtain ⟨hx1, hx2, hx3⟩ := hx
  have HX1 := Lib.hid hx1
  have HX2 := Lib.hid hx2
  have HGY := Lib.hid (HGV.out ys M2.out)
  clear hx1 hx2
  refine (list_any A2 c2 ys n _ hx3 R2.out M2.out.byt).mono ?_
  rintro e w3 ⟨v3, rfl, o3, b3⟩
  obtain ⟨A3, c3, rfl, r3⟩ := o3.reads
  have R3 := Lib.hid r3
  have R23 := Lib.hid (R2.out.below b3)
  clear o3 r3
  go_wp2_with fail
  have hlen3 : (listB ys n).length ≤ 1000000 := by have := HX2.out; omega
  obtain ⟨lY, hlY⟩ : ∃ t, t = listB ys n := ⟨_, rfl⟩
  rw [← hlY] at R3 HGY hlen3 HX2
  have hgo := give_ok A2 A3 c2 c3 ys lY n w3 hx3 R23.out M2.out.byt HX1.out R3.out hlen3
  rw [HGY.out] at hgo
  have HGO := Lib.hid hgo
  rw [← hlY]
  clear hgo
  refine HGO.out.mono ?_
  rintro e w4 ⟨hok, _⟩
  obtain ⟨zs, m4, v4, rfl, o4, b4⟩ := hok rfl
  obtain ⟨A4, c4, rfl, r4⟩ := o4.reads
  have R4 := Lib.hid r4
  have R24 := Lib.hid (R23.out.below b4)
  have hz : ((listB zs n).length : Int) = 0 := by rw [isMap_list hn0 hn1 m4]; rfl
  have hzl : zs.length ≤ 600 := by have := m4.len; unfold sizeI at this; omega
  have HZ := Lib.hid hz
  have HZB := Lib.hid m4.byt
  have HYL : Hid (((listB ys n).length : Int) = n) := Lib.hid (by rw [← hlY]; exact HX2.out)
  clear o4 r4 hok hz m4 hlY
  go_wp2_with fail
  refine (count_any A2 c2 ys n _ hx3 R24.out M2.out.byt).mono ?_
  rw [HYL.out]
  rintro e w' ⟨rfl, rfl⟩
  go_wp2_with fail
  refine (count_any A4 c4 zs n _ hzl R4.out HZB.out).mono ?_
  rw [HZ.out]
  rintro e w' ⟨rfl, rfl⟩
  go_wp2_with fail
  refine (awake_any _).mono ?_
  rintro e w9 ⟨rfl, b9⟩
  go_wp2
  go_ret
  exact ⟨rfl, below_then b1 (below_then b2 (below_then b3 (below_then b4 b9)))⟩

set_option maxHeartbeats 800000 in
theorem all_far (h : (600 : Int) < (xs.length : Int)) :
    Calls Try.prog 5 #[.slice A xs.length c, .int .i64 n] w fun e w' => e = .returned (.bool true) ∧ Below w.heap.size w w' := by
  go_enter Try.func5, Try.ntmps5
  go_wp2_with (go_at_call 7; refine (awake_any _).mono ?_; rintro e w8 ⟨rfl, b8⟩)
  go_ret
  exact ⟨rfl, b8⟩

set_option maxHeartbeats 800000 in
theorem all_no (hr : RI w .u8 A xs) (hby : Byt xs) (hxl : xs.length ≤ 600) (hf : fitsB xs n = false) :
    Calls Try.prog 5 #[.slice A xs.length c, .int .i64 n] w fun e w' => e = .returned (.bool true) ∧ Below w.heap.size w w' := by
  have h1 : ¬ (600 : Int) < (xs.length : Int) := by omega
  have HF := Lib.hid (fitsR_any A c xs n w hxl hr hby)
  have HFF := Lib.hid hf
  clear hf hr hby
  go_enter Try.func5, Try.ntmps5
  go_wp2_with fail
  refine HF.out.mono ?_
  rw [HFF.out]
  rintro e w' ⟨rfl, rfl⟩
  go_wp2_with (go_at_call 7; refine (awake_any _).mono ?_; rintro e w8 ⟨rfl, b8⟩)
  go_ret
  exact ⟨rfl, b8⟩

theorem all_any (hr : RI w .u8 A xs) (hby : Byt xs) :
    Calls Try.prog 5 #[.slice A xs.length c, .int .i64 n] w fun e w' => e = .returned (.bool true) ∧ Below w.heap.size w w' := by
  by_cases h : (600 : Int) < (xs.length : Int)
  · exact all_far A c xs n w h
  · cases hf : fitsB xs n with
    | false => exact all_no A c xs n w hr hby (by omega) hf
    | true => exact all_law A c xs n w hr hby (by omega) hf
end law
end Go.Proofs.Ytpehbffbflcgnaa
