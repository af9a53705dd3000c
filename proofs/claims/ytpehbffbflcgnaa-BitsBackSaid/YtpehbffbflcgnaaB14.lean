/- Each call of the program and of the reference with one answer, whatever the case; the walk of BitsTakes. -/
import Derived.Test.YtpehbffbflcgnaaB13
set_option linter.unusedVariables false
namespace Go.Proofs.Ytpehbffbflcgnaa
open Go.RowKit

/-- The bitmap of so many bytes with these bits. -/
noncomputable def mapOf (m : Int) (f : Int → Bool) : List Int := Classical.epsilon (fun ys => IsMap ys m f)
theorem mapOf_eq {ys : List Int} {m : Int} {f : Int → Bool} (h : IsMap ys m f) : mapOf m f = ys := (Classical.epsilon_spec (p := fun ys => IsMap ys m f) ⟨ys, h⟩).eq h

theorem oi_none {w w' : World} {e : Nat} {k : IntKind} : OI w' w.heap.size e k (.slice none 0 0) [] := OI.nil _ _ _ _

/-- Two slices and a code. -/
def GivesT (w : World) (ys l : List Int) (code : Int) (en : Ending) (w' : World) : Prop :=
  ∃ v u, en = .returned (.tuple #[v, u, .int .i64 code]) ∧ OI w' w.heap.size 5 .u8 v ys ∧ OI w' w.heap.size 3 .i64 u l ∧ Below w.heap.size w w'
noncomputable def takeCode (xs : List Int) (n k : Int) : Int := if fitsB xs n = true then (if k < 0 then 1 else if ((freeL xs n).length : Int) < k then 16 else 0) else 4
noncomputable def takeYs (xs : List Int) (n k : Int) : List Int := if takeCode xs n k = 0 then mapOf (sizeI n) (takeF xs n k) else []
noncomputable def takeLs (xs : List Int) (n k : Int) : List Int := if takeCode xs n k = 0 then takeL xs n k else []

section take
variable (A : Option Addr) (c : Nat) (xs : List Int) (n k : Int) (w : World)
theorem take_cases (xs : List Int) (n k : Int) : (fitsB xs n = false ∧ takeCode xs n k = 4) ∨ (fitsB xs n = true ∧ k < 0 ∧ takeCode xs n k = 1) ∨ (fitsB xs n = true ∧ 0 ≤ k ∧ ((freeL xs n).length : Int) < k ∧ takeCode xs n k = 16) ∨
    (fitsB xs n = true ∧ 0 ≤ k ∧ k ≤ ((freeL xs n).length : Int) ∧ takeCode xs n k = 0) := by
  unfold takeCode
  cases hf : fitsB xs n with
  | false => exact .inl ⟨rfl, by simp⟩
  | true =>
    by_cases h1 : k < 0
    · exact .inr (.inl ⟨rfl, h1, by simp [h1]⟩)
    · by_cases h2 : ((freeL xs n).length : Int) < k
      · exact .inr (.inr (.inl ⟨rfl, by omega, h2, by simp [h1, h2]⟩))
      · exact .inr (.inr (.inr ⟨rfl, by omega, by omega, by simp [h1, h2]⟩))
theorem gives_err {w w' : World} {xs : List Int} {n k code : Int} (h0 : code ≠ 0) (h : takeCode xs n k = code) (hb : Below w.heap.size w w') :
    GivesT w (takeYs xs n k) (takeLs xs n k) (takeCode xs n k) (.returned (.tuple #[.slice none 0 0, .slice none 0 0, .int .i64 code])) w' := by
  unfold takeYs takeLs
  rw [h, if_neg h0, if_neg h0]
  exact ⟨_, _, rfl, oi_none, oi_none, hb⟩
theorem gives_taken {w w' : World} {xs : List Int} {n k : Int} (h : takeCode xs n k = 0) {en : Ending} (hg : GivesTake w (sizeI n) (takeF xs n k) (takeL xs n k) en w') :
    GivesT w (takeYs xs n k) (takeLs xs n k) (takeCode xs n k) en w' := by
  obtain ⟨ys, v, u, hm, rfl, h1, h2, h3⟩ := hg
  unfold takeYs takeLs
  rw [h, if_pos rfl, if_pos rfl, mapOf_eq hm]
  exact ⟨v, u, rfl, h1, h2, h3⟩
theorem take_all (hl : xs.length ≤ 600) (hr : RI w .u8 A xs) (hby : Byt xs) :
    Calls Try.prog 8 #[.slice A xs.length c, .int .i64 n, .int .i64 k] w (GivesT w (takeYs xs n k) (takeLs xs n k) (takeCode xs n k)) := by
  rcases take_cases xs n k with ⟨hf, h⟩ | ⟨hf, hk, h⟩ | ⟨hf, hk, hk2, h⟩ | ⟨hf, hk, hk2, h⟩
  · exact (take_form A c xs n k w hl hr hby hf).mono fun e w' ⟨he, hw⟩ => by subst he; subst hw; exact gives_err (by decide) h (Below.refl _ _)
  · exact (take_arg A c xs n k w hl hr hby hf hk).mono fun e w' ⟨he, hw⟩ => by subst he; subst hw; exact gives_err (by decide) h (Below.refl _ _)
  · exact (take_space A c xs n k w hl hr hby hf hk hk2).mono fun e w' ⟨he, hw⟩ => by subst he; subst hw; exact gives_err (by decide) h (Below.refl _ _)
  · exact (take_ok A c xs n k w hl hr hby hf hk hk2).mono fun e w' he => gives_taken h he
theorem takeR_all (hl : xs.length ≤ 600) (hr : RI w .u8 A xs) (hby : Byt xs) :
    Calls Try.prog 9 #[.slice A xs.length c, .int .i64 n, .int .i64 k] w (GivesT w (takeYs xs n k) (takeLs xs n k) (takeCode xs n k)) := by
  rcases take_cases xs n k with ⟨hf, h⟩ | ⟨hf, hk, h⟩ | ⟨hf, hk, hk2, h⟩ | ⟨hf, hk, hk2, h⟩
  · exact (takeR_form A c xs n k w hl hr hby hf).mono fun e w' ⟨he, hw⟩ => by subst he; subst hw; exact gives_err (by decide) h (Below.refl _ _)
  · exact (takeR_arg A c xs n k w hl hr hby hf hk).mono fun e w' ⟨he, hw⟩ => by subst he; subst hw; exact gives_err (by decide) h (Below.refl _ _)
  · exact (takeR_ok A c xs n k w hl hr hby hf hk).mono fun e w' he => by obtain ⟨rfl, hb⟩ := he.1 hk2; exact gives_err (by decide) h hb
  · exact (takeR_ok A c xs n k w hl hr hby hf hk).mono fun e w' he => gives_taken h (he.2 hk2)
end take

noncomputable def giveCode (xs : List Int) (n : Int) (l : List Int) : Int := if fitsB xs n = true then (giveF n (hasB xs) l).1 else 4
noncomputable def giveYs (xs : List Int) (n : Int) (l : List Int) : List Int := if giveCode xs n l = 0 then mapOf (sizeI n) (giveF n (hasB xs) l).2 else []
section give
variable (A C : Option Addr) (c d : Nat) (xs l : List Int) (n : Int) (w : World)
theorem gives_given {w w' : World} {xs : List Int} {n : Int} {l : List Int} (hf : fitsB xs n = true) {en : Ending} (hg : GivesGive w (sizeI n) (giveF n (hasB xs) l) en w') : GivesIC w 5 .u8 (giveYs xs n l) (giveCode xs n l) en w' := by
  unfold giveYs giveCode
  rw [if_pos hf]
  by_cases h : (giveF n (hasB xs) l).1 = 0
  · obtain ⟨ys, hm, v, rfl, ho, hb⟩ := hg.1 h
    rw [if_pos h, h, mapOf_eq hm]
    exact ⟨v, rfl, ho, hb⟩
  · obtain ⟨rfl, hb⟩ := hg.2 h
    rw [if_neg h]
    exact ⟨_, rfl, oi_none, hb⟩
theorem gives_form {w w' : World} {xs : List Int} {n : Int} {l : List Int} (hf : fitsB xs n = false) (hb : Below w.heap.size w w') : GivesIC w 5 .u8 (giveYs xs n l) (giveCode xs n l) (.returned (.tuple #[.slice none 0 0, .int .i64 4])) w' := by
  unfold giveYs giveCode
  have e : (if fitsB xs n = true then (giveF n (hasB xs) l).1 else 4) = 4 := if_neg (by simp [hf])
  rw [e, if_neg (by decide)]
  exact ⟨_, rfl, oi_none, hb⟩
theorem give_all (hl : xs.length ≤ 600) (hr : RI w .u8 A xs) (hby : Byt xs) (hrl : RI w .i64 C l) (hll : l.length ≤ 1000000) :
    Calls Try.prog 10 #[.slice A xs.length c, .int .i64 n, .slice C l.length d] w (GivesIC w 5 .u8 (giveYs xs n l) (giveCode xs n l)) := by
  cases hf : fitsB xs n with
  | false => exact (give_form A C c d xs l n w hl hr hby hf).mono fun e w' ⟨he, hw⟩ => by subst he; subst hw; exact gives_form hf (Below.refl _ _)
  | true => exact (give_ok A C c d xs l n w hl hr hby hf hrl hll).mono fun e w' he => gives_given hf he
theorem giveR_all (hl : xs.length ≤ 600) (hr : RI w .u8 A xs) (hby : Byt xs) (hrl : RI w .i64 C l) (hll : l.length ≤ 1000000) :
    Calls Try.prog 11 #[.slice A xs.length c, .int .i64 n, .slice C l.length d] w (GivesIC w 5 .u8 (giveYs xs n l) (giveCode xs n l)) := by
  cases hf : fitsB xs n with
  | false => exact (giveR_form A C c d xs l n w hl hr hby hf).mono fun e w' ⟨he, hw⟩ => by subst he; subst hw; exact gives_form hf (Below.refl _ _)
  | true => exact (giveR_ok A C c d xs l n w hl hr hby hf hrl hll).mono fun e w' he => gives_given hf he
end give

theorem OI.len {w : World} {base e : Nat} {k : IntKind} {v : Value} {xs : List Int} (h : OI w base e k v xs) : xs.length ≤ 9223372036854775807 := by
  rcases h.2 with ⟨_, h0⟩ | ⟨g, cap, cur, _, _, _, h1, h2, _⟩
  · omega
  · unfold maxLen at h2; omega

section law
variable (A C : Option Addr) (c d : Nat) (xs l : List Int) (n k : Int) (w : World)
set_option maxHeartbeats 3200000 in
theorem takes_law (hr : RI w .u8 A xs) (hby : Byt xs) (hrl : RI w .i64 C l) (hxl : xs.length ≤ 600) (hll : l.length ≤ 60) :
    Calls Try.prog 3 #[.slice A xs.length c, .agg #[.int .i64 n, .int .i64 k], .slice C l.length d] w fun e w' => e = .returned (.bool true) ∧ Below w.heap.size w w' := by
  have HR := Lib.hid hr
  have HL := Lib.hid hrl
  have h1 : ¬ (600 : Int) < (xs.length : Int) := by omega
  have h2 : ¬ (60 : Int) < (l.length : Int) := by omega
  clear hr hrl
  go_enter Try.func3, Try.ntmps3
  go_wp2
  go_region
  have hb1 := ((Below.refl w.heap.size w).alloc (Nat.le_refl _) (.cells #[.int .i64 n, .int .i64 k] 23)).drew
  generalize World.drew (World.alloc w _) = W at hb1 ⊢
  have HRW := Lib.hid (HR.out.below hb1)
  have HLW := Lib.hid (HL.out.below hb1)
  obtain ⟨tY, htY⟩ : ∃ t, t = takeYs xs n k := ⟨_, rfl⟩
  obtain ⟨tL, htL⟩ : ∃ t, t = takeLs xs n k := ⟨_, rfl⟩
  obtain ⟨tC, htC⟩ : ∃ t, t = takeCode xs n k := ⟨_, rfl⟩
  obtain ⟨gY, hgY⟩ : ∃ t, t = giveYs xs n l := ⟨_, rfl⟩
  obtain ⟨gC, hgC⟩ : ∃ t, t = giveCode xs n l := ⟨_, rfl⟩
  have HT := Lib.hid (fun w h => take_all A c xs n k w hxl h hby)
  have HTR := Lib.hid (fun w h => takeR_all A c xs n k w hxl h hby)
  have HG := Lib.hid (fun w h hh => give_all A C c d xs l n w hxl h hby hh (by omega))
  have HGR := Lib.hid (fun w h hh => giveR_all A C c d xs l n w hxl h hby hh (by omega))
  rw [← htY, ← htL, ← htC] at HT HTR
  rw [← hgY, ← hgC] at HG HGR
  clear htY htL htC hgY hgC HR HL hby
  go_wp2_with (first
    | (go_at_call 8; refine (HT.out _ HRW.out).mono ?_; rintro e w1 ⟨v1, u1, rfl, o1, p1, b1⟩; obtain ⟨A1, c1, rfl, r1⟩ := o1.reads; obtain ⟨D1, d1, rfl, s1⟩ := p1.reads; have hy := o1.len; have hl' := p1.len; have HRW1 := Lib.hid (HRW.out.below b1); have HLW1 := Lib.hid (HLW.out.below b1); have R1 := Lib.hid r1; have S1 := Lib.hid s1; clear r1 s1 o1 p1)
    | (go_at_call 9; refine (HTR.out _ HRW1.out).mono ?_; rintro e w2 ⟨v2, u2, rfl, o2, p2, b2⟩; obtain ⟨A2, c2, rfl, r2⟩ := o2.reads; obtain ⟨D2, d2, rfl, s2⟩ := p2.reads; have HRW2 := Lib.hid (HRW1.out.below b2); have HLW2 := Lib.hid (HLW1.out.below b2); have R2 := Lib.hid r2; have S2 := Lib.hid s2; have R1' := Lib.hid (R1.out.below b2); have S1' := Lib.hid (S1.out.below b2); clear r2 s2 o2 p2)
    | (go_at_call 10; refine (HG.out _ HRW2.out HLW2.out).mono ?_; rintro e w3 ⟨v3, rfl, o3, b3⟩; obtain ⟨A3, c3, rfl, r3⟩ := o3.reads; have hz := o3.len; have HRW3 := Lib.hid (HRW2.out.below b3); have HLW3 := Lib.hid (HLW2.out.below b3); have R3 := Lib.hid r3; clear r3 o3)
    | (go_at_call 11; refine (HGR.out _ HRW3.out HLW3.out).mono ?_; rintro e w4 ⟨v4, rfl, o4, b4⟩; obtain ⟨A4, c4, rfl, r4⟩ := o4.reads; have b24 := Lib.hid (below_then b3 b4); have R4 := Lib.hid r4; have R3' := Lib.hid (R3.out.below b4); clear r4 o4))
  refine (same8_any A1 A2 c1 c2 tY tY _ hy hy (R1'.out.below b24.out) (R2.out.below b24.out)).mono ?_
  rintro e w5 ⟨rfl, b5⟩
  rw [decide_eq_true rfl]
  go_wp2_with fail
  refine (same64_any D1 D2 d1 d2 tL tL _ hl' hl' ((S1'.out.below b24.out).below b5) ((S2.out.below b24.out).below b5)).mono ?_
  rintro e w6 ⟨rfl, b6⟩
  rw [decide_eq_true rfl]
  go_wp2_with fail
  refine (same8_any A3 A4 c3 c4 gY gY _ hz hz ((R3'.out.below b5).below b6) ((R4.out.below b5).below b6)).mono ?_
  rintro e w7 ⟨rfl, b7⟩
  rw [decide_eq_true rfl]
  go_wp2_with fail
  refine (awake_any _).mono ?_
  rintro e w8 ⟨rfl, b8⟩
  go_wp2
  go_ret
  exact ⟨rfl, below_then' hb1 hb1.size (below_then b1 (below_then b2 (below_then b24.out (below_then b5 (below_then b6 (below_then b7 b8))))))⟩

set_option maxHeartbeats 800000 in
theorem takes_far (h : (600 : Int) < (xs.length : Int) ∨ (60 : Int) < (l.length : Int)) :
    Calls Try.prog 3 #[.slice A xs.length c, .agg #[.int .i64 n, .int .i64 k], .slice C l.length d] w fun e w' => e = .returned (.bool true) ∧ Below w.heap.size w w' := by
  by_cases h1 : (600 : Int) < (xs.length : Int)
  · clear h
    go_enter Try.func3, Try.ntmps3
    go_wp2
    go_region
    have hb1 := ((Below.refl w.heap.size w).alloc (Nat.le_refl _) (.cells #[.int .i64 n, .int .i64 k] 23)).drew
    generalize World.drew (World.alloc w _) = W at hb1 ⊢
    go_wp2_with (go_at_call 7; refine (awake_any _).mono ?_; rintro e w8 ⟨rfl, b8⟩)
    go_ret
    exact ⟨rfl, below_then' hb1 hb1.size b8⟩
  · have h2 : (60 : Int) < (l.length : Int) := by omega
    clear h
    go_enter Try.func3, Try.ntmps3
    go_wp2
    go_region
    have hb1 := ((Below.refl w.heap.size w).alloc (Nat.le_refl _) (.cells #[.int .i64 n, .int .i64 k] 23)).drew
    generalize World.drew (World.alloc w _) = W at hb1 ⊢
    go_wp2_with (go_at_call 7; refine (awake_any _).mono ?_; rintro e w8 ⟨rfl, b8⟩)
    go_ret
    exact ⟨rfl, below_then' hb1 hb1.size b8⟩

theorem takes_any (hr : RI w .u8 A xs) (hby : Byt xs) (hrl : RI w .i64 C l) :
    Calls Try.prog 3 #[.slice A xs.length c, .agg #[.int .i64 n, .int .i64 k], .slice C l.length d] w fun e w' => e = .returned (.bool true) ∧ Below w.heap.size w w' := by
  by_cases h : (600 : Int) < (xs.length : Int) ∨ (60 : Int) < (l.length : Int)
  · exact takes_far A C c d xs l n k w h
  · exact takes_law A C c d xs l n k w hr hby hrl (by omega) (by omega)
end law
end Go.Proofs.Ytpehbffbflcgnaa
