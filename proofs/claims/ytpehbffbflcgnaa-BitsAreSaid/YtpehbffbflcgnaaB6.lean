/- whole: a bitmap with all of its bytes in new memory; Set of the program. -/
import Derived.Test.YtpehbffbflcgnaaB5
set_option linter.unusedVariables false
namespace Go.Proofs.Ytpehbffbflcgnaa
open Go.RowKit

/-- With all of its bytes. -/
def wholeL (xs : List Int) (m : Nat) : List Int := xs ++ List.replicate (m - xs.length) 0
theorem wholeL_map {xs : List Int} {m : Nat} (hm : xs.length = 0 ∨ xs.length = m) (hb : Byt xs) : IsMap (wholeL xs m) m (hasB xs) := by
  rcases hm with h | h
  · have : xs = [] := List.eq_nil_of_length_eq_zero h
    subst this
    have := isMap_zeros m
    simp only [wholeL, List.nil_append, List.length_nil, Nat.sub_zero]
    exact ⟨this.len, this.byt, fun i => by rw [this.has]; simp [hasB]⟩
  · have : wholeL xs m = xs := by simp [wholeL, h]
    rw [this]
    exact ⟨by omega, hb, fun _ => rfl⟩
theorem Try.size5 : (Try.prog.info? 5).map (·.size) = some 1 := by kernel_rfl

theorem splice_whole (xs : List Int) (m : Nat) (h : xs.length ≤ m) : splice (List.replicate m (Value.int .u8 0)) 0 (xs.map (Value.int .u8)) = (wholeL xs m).map (Value.int .u8) := by
  simp [splice, wholeL, List.map_replicate]
theorem oi_row {w : World} {base g m e : Nat} {k : IntKind} {xs : List Int} (hb : base ≤ g) (hm : m ≤ 9223372036854775807) (hl : xs.length = m)
    (h : w.heap[g]? = some (.cells (xs.map (Value.int k)).toArray e (0, 0))) : OI w base e k (.slice (some ⟨g, 0, none⟩) m m) xs := by
  subst hl
  refine ⟨by simp, .inr ⟨g, xs.length, _, rfl, hb, h, Nat.le_refl _, by unfold maxLen; omega, by simp, ?_⟩⟩
  simp [List.take_of_length_le]

set_option maxHeartbeats 800000 in
theorem whole_any (A : Option Addr) (c : Nat) (xs : List Int) (n : Int) (w : World) (h : fitsB xs n = true) (hr : RI w .u8 A xs) :
    Calls Try.prog 25 #[.slice A xs.length c, .int .i64 n] w (GivesI w 5 .u8 (wholeL xs (sizeI n).toNat)) := by
  have hp := fitsB_true.1 h
  have h0 := hp.1
  have h1 := hp.2.1
  have hl0 := hp.2.2.1
  clear hp h
  obtain ⟨m, hm⟩ : ∃ m : Nat, sizeI n = m := ⟨(sizeI n).toNat, by unfold sizeI; omega⟩
  have hl : xs.length ≤ m := by omega
  have hM := Lib.hid hm
  have hmk := make_bytes m (by unfold sizeI at hm; omega)
  have hm2 : m ≤ 600 := by unfold sizeI at hm; omega
  have HR := Lib.hid hr
  clear hm hl0 hr
  go_enter Try.func25, Try.ntmps25
  go_wp2_with (first
    | (go_at_call 30; refine (size_any _ _ h0 h1).mono ?_; rw [hM.out]; rintro e w' ⟨rfl, rfl⟩)
    | (with_reducible refine wpList_copy_splice rfl (.tmp 9) (.tmp 10) 22 22 rfl 5 Try.underlying22 Try.size5 (some ⟨w.heap.size, 0, none⟩) A m m xs.length c rfl rfl w.heap.size 0 (List.replicate m (Value.int .u8 0)) 5 ?hg (xs.map (Value.int .u8)) ?hn ?hpos ?hfit ?h1 w.heap.size w ?hb (Nat.le_refl _) ?_))
  case hg => rw [heap_alloc_new, ← toList_madeCells_one]
  case hn => show (xs.map (Value.int .u8)).length = min xs.length m; simp; omega
  case hpos =>
    intro hc
    obtain ⟨ad, hA, hcell⟩ := HR.out (by simpa using hc)
    refine ⟨ad, hA, fun j v hj => ?_⟩
    have hj2 : j < xs.length := by
      have := (List.getElem?_eq_some_iff.1 hj).1
      simpa using this
    have := hcell j hj2
    rw [World.cell?_of_block (w := w) (Below.heap_alloc w _ _ (World.block_lt_of_cell? w _ this)), this]
    rw [List.getD_eq_getElem?_getD, hj]; rfl
  case hfit => simp; omega
  case h1 => intro v hv; simp at hv; obtain ⟨x, _, rfl⟩ := hv; rfl
  case hb => exact (Below.refl _ _).alloc (Nat.le_refl _) _
  · intro w1 hcell hbel
    rw [splice_whole xs m hl] at hcell
    go_wp2
    go_ret
    rw [hM.out]
    exact ⟨_, rfl, oi_row (Nat.le_refl _) (by omega) (by simp [wholeL]; omega) hcell.out, hbel⟩

/-- A bit of a bitmap that the call owns is written: the cell that is there, and what is owned behind the store. -/
theorem OI.store {w : World} {base e : Nat} {k : IntKind} {v : Value} {xs : List Int} (h : OI w base e k v xs) (hx : 0 < xs.length) :
    ∃ g cap, v = .slice (some ⟨g, 0, none⟩) xs.length cap ∧ base ≤ g ∧ g < w.heap.size ∧ xs.length ≤ cap ∧ (∀ j, w.frozen? ⟨g, j, none⟩ = false) ∧ (∀ j, j < xs.length → w.cell? ⟨g, j, none⟩ = some (.int k (xs.getD j 0))) ∧ RI w k (some ⟨g, 0, none⟩) xs ∧
      ∀ j y, j < xs.length → OI (w.setCell ⟨g, j, none⟩ (.int k y)) base e k v (xs.set j y) := by
  have h' := h
  unfold OI at h'
  rcases h.2 with ⟨_, h0⟩ | ⟨g, cap, cur, rfl, hb, hg, hcap, _⟩
  · omega
  refine ⟨g, cap, rfl, hb, (Array.getElem?_eq_some_iff.1 hg).1, hcap, fun j => World.ownsRow.frozenAt h' j, fun j hj => ?_, fun _ => ⟨_, rfl, fun j hj => ?_⟩, fun j y hj => ?_⟩
  · rw [World.ownsRow.cellAt h' j (by omega)]
    simp [List.getD_eq_getElem?_getD, hj]
  · rw [addr_add, World.ownsRow.cellAt h' j (by omega)]
    simp [List.getD_eq_getElem?_getD, hj]
  · have := (World.ownsRow.stored h' j (.int k y)).1
    unfold OI
    rw [List.map_set, List.length_set]
    exact this

theorem OI.drew {w : World} {base e : Nat} {k : IntKind} {v : Value} {xs : List Int} (h : OI w base e k v xs) : OI w.drew base e k v xs := h.below (Below.refl _ _).drew

/-- What a call gives that makes one bitmap and answers OK. -/
def GivesMap (w : World) (m : Int) (f : Int → Bool) (en : Ending) (w' : World) : Prop := ∃ ys, IsMap ys m f ∧ GivesIC w 5 .u8 ys 0 en w'

theorem sizeI_fits {n : Int} (h : 0 ≤ n) : ((sizeI n).toNat : Int) = sizeI n := by unfold sizeI; omega
theorem whole_map {xs : List Int} {n : Int} (h : fitsB xs n = true) (hb : Byt xs) : IsMap (wholeL xs (sizeI n).toNat) (sizeI n) (hasB xs) := by
  have hp := fitsB_true.1 h
  have := wholeL_map (xs := xs) (m := (sizeI n).toNat) (by have := sizeI_fits hp.1; rcases hp.2.2.1 with h | h <;> omega) hb
  rwa [sizeI_fits hp.1] at this
theorem isMap_set {xs : List Int} {m : Int} {f g : Int → Bool} (hm : IsMap xs m f) {i y : Int} (h0 : 0 ≤ i) (h1 : i / 8 < m) (hy0 : 0 ≤ y) (hy1 : y < 256) (b : Bool)
    (hy : ∀ q, q < 8 → y.toNat.testBit q = if q = (i % 8).toNat then b else (xs.getD (i / 8).toNat 0).toNat.testBit q) (hg : ∀ q, g q = if q = i then b else f q) :
    IsMap (xs.set (i / 8).toNat y) m g :=
  ⟨by rw [List.length_set]; exact hm.len, byt_set hm.byt _ hy0 hy1, fun q => by
    rw [hasB_set h0 (by have := hm.len; omega) y (fun _ => b) hy q, hg, hm.has]⟩

theorem bool_ne {a b : Bool} (h : ¬ a = b) : a = !b := by cases a <;> cases b <;> simp_all
section set
variable (A : Option Addr) (c : Nat) (xs : List Int) (n i : Int) (on : Bool) (w : World)
set_option maxHeartbeats 800000 in
theorem set_form (hl : xs.length ≤ 600) (hr : RI w .u8 A xs) (hby : Byt xs) (hf : fitsB xs n = false) :
    Calls Try.prog 19 #[.slice A xs.length c, .int .i64 n, .int .i64 i, .bool on] w fun e w' => e = .returned (.tuple #[.slice none 0 0, .int .i64 4]) ∧ w = w' := by
  have HR := Lib.hid hr
  have HY := Lib.hid hby
  have HF := Lib.hid hf
  clear hr hby hf
  go_enter Try.func19, Try.ntmps19
  go_wp2_with (go_at_call 23; refine (fits_any _ _ _ _ _ hl HR.out HY.out).mono ?_; rw [HF.out]; rintro e w' ⟨rfl, rfl⟩)
  go_ret2
  exact ⟨rfl, rfl⟩
set_option maxHeartbeats 800000 in
theorem set_range (hl : xs.length ≤ 600) (hr : RI w .u8 A xs) (hby : Byt xs) (hf : fitsB xs n = true) (hi : i < 0 ∨ n ≤ i) :
    Calls Try.prog 19 #[.slice A xs.length c, .int .i64 n, .int .i64 i, .bool on] w fun e w' => e = .returned (.tuple #[.slice none 0 0, .int .i64 20]) ∧ w = w' := by
  have HR := Lib.hid hr
  have HY := Lib.hid hby
  have HF := Lib.hid hf
  clear hr hby hf
  by_cases h0 : i < 0
  · clear hi
    go_enter Try.func19, Try.ntmps19
    go_wp2_with (go_at_call 23; refine (fits_any _ _ _ _ _ hl HR.out HY.out).mono ?_; rw [HF.out]; rintro e w' ⟨rfl, rfl⟩)
    go_ret2
    exact ⟨rfl, rfl⟩
  · have h1 : n ≤ i := by omega
    clear hi
    go_enter Try.func19, Try.ntmps19
    go_wp2_with (go_at_call 23; refine (fits_any _ _ _ _ _ hl HR.out HY.out).mono ?_; rw [HF.out]; rintro e w' ⟨rfl, rfl⟩)
    go_ret2
    exact ⟨rfl, rfl⟩

set_option maxHeartbeats 1600000 in
theorem set_ok (hl : xs.length ≤ 600) (hr : RI w .u8 A xs) (hby : Byt xs) (hf : fitsB xs n = true) (h0 : 0 ≤ i) (h1 : i < n) :
    Calls Try.prog 19 #[.slice A xs.length c, .int .i64 n, .int .i64 i, .bool on] w (GivesMap w (sizeI n) (fun q => if q = i then on else hasB xs q)) := by
  have HR := Lib.hid hr
  have HY := Lib.hid hby
  have HF := Lib.hid hf
  have hp := fitsB_true.1 hf
  have hn := hp.2.1
  have hmp := whole_map hf hby
  have h0' : ¬ i < 0 := by omega
  have h1' : ¬ n ≤ i := by omega
  clear hr hby hf hp
  obtain ⟨ys, hys⟩ : ∃ ys, ys = wholeL xs (sizeI n).toNat := ⟨_, rfl⟩
  rw [← hys] at hmp
  have HS := Lib.hid hys
  have hyl : (ys.length : Int) = sizeI n := hmp.len
  have hHas : hasB ys i = hasB xs i := hmp.has i
  have hi8 : i / 8 < (ys.length : Int) := by rw [hyl]; unfold sizeI; omega
  have hyb : ys.length ≤ 600 := by unfold sizeI at hyl; omega
  have hbd := byt_getD hmp.byt (i / 8).toNat
  clear hys
  by_cases hq : hasB xs i = on
  · have HB : Hid (hasB ys i = on) := Lib.hid (hHas.trans hq)
    have hMap : Hid (IsMap ys (sizeI n) (fun q => if q = i then on else hasB xs q)) := Lib.hid ⟨hmp.len, hmp.byt, fun q => by
      by_cases e : q = i
      · rw [if_pos e, e, hmp.has, hq]
      · rw [if_neg e, hmp.has]⟩
    have hne : (on != on) = false := by simp
    have HM := Lib.hid hmp
    clear hq hmp hHas hyl
    go_enter Try.func19, Try.ntmps19
    go_wp2_with (first
      | (go_at_call 23; refine (fits_any _ _ _ _ _ hl HR.out HY.out).mono ?_; rw [HF.out]; rintro e w' ⟨rfl, rfl⟩)
      | (go_at_call 25; refine (whole_any _ _ _ _ _ HF.out HR.out).mono ?_; rw [← HS.out]; rintro e w1 ⟨v, rfl, hown, hbel⟩; obtain ⟨B, d, rfl, hrb⟩ := hown.reads; have HRB := Lib.hid hrb; clear hrb)
      | (go_at_call 14; refine (has_any _ _ _ _ _ (by omega) (by omega) HRB.out HM.out.byt).mono ?_; rw [HB.out]; rintro e w' ⟨rfl, rfl⟩))
    go_ret2
    exact ⟨ys, hMap.out, _, rfl, hown, hbel⟩
  · have hq' : hasB xs i = !on := bool_ne hq
    have HB : Hid (hasB ys i = !on) := Lib.hid (hHas.trans hq')
    have hne : ((!on) != on) = true := by simp
    have hk : (i % 8).toNat < 8 := by omega
    have hpw := pow_shl (i % 8).toNat hk
    have hxb := xor_bit (ys.getD (i / 8).toNat 0) (i % 8).toNat hbd.1 hbd.2 hk
    have htb : (ys.getD (i / 8).toNat 0).toNat.testBit (i % 8).toNat = !on := by
      rw [← HB.out]; simp [hasB, h0, hi8]
    have hMap : Hid (IsMap (ys.set (i / 8).toNat (bits .xor .u8 (ys.getD (i / 8).toNat 0) (2 ^ (i % 8).toNat))) (sizeI n) (fun q => if q = i then on else hasB xs q)) :=
      Lib.hid (isMap_set hmp h0 (by omega) hxb.1 hxb.2.1 on (fun q hq8 => by
        rw [hxb.2.2 q hq8]
        by_cases e : q = (i % 8).toNat
        · rw [if_pos e, if_pos e, e, htb]; simp
        · rw [if_neg e, if_neg e]) (fun q => rfl))
    have HM := Lib.hid hmp
    clear hq hq' hmp hHas hyl htb hxb
    generalize hx : ys.getD (i / 8).toNat 0 = x at *
    have HX := Lib.hid hx
    clear hx
    go_enter Try.func19, Try.ntmps19
    go_wp2_with (first
      | (go_at_call 23; refine (fits_any _ _ _ _ _ hl HR.out HY.out).mono ?_; rw [HF.out]; rintro e w' ⟨rfl, rfl⟩)
      | (go_at_call 25; refine (whole_any _ _ _ _ _ HF.out HR.out).mono ?_; rw [← HS.out]; rintro e w1 ⟨v, rfl, hown, hbel⟩; obtain ⟨g, cap, rfl, hg, hgl, hcap, hfz, hcl, hrb, hst⟩ := hown.store (by omega); have HRB := Lib.hid hrb; clear hrb)
      | (go_at_call 14; refine (has_any (some ⟨g, 0, none⟩) cap _ _ _ (by omega) (by omega) HRB.out HM.out.byt).mono ?_; rw [HB.out]; rintro e w' ⟨rfl, rfl⟩))
    have hcx := hcl (i / 8).toNat (by omega)
    have hfx := hfz (i / 8).toNat
    rw [HX.out] at hcx
    have hown2 := Lib.hid (hst (i / 8).toNat (bits .xor .u8 x (2 ^ (i % 8).toNat)) (by omega))
    clear hcl hfz hst
    go_region
    go_wp2
    go_ret2
    exact ⟨_, hMap.out, _, rfl, hown2.out.drew, (hbel.setCell hg _).drew⟩
end set
end Go.Proofs.Ytpehbffbflcgnaa
