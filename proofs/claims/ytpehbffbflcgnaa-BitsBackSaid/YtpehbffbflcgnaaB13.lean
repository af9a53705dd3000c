/- The page's example, which each law asks last: of 5 bits 00101 Take of 2 gives 1 and 3. -/
import Derived.Test.YtpehbffbflcgnaaB12
set_option linter.unusedVariables false
namespace Go.Proofs.Ytpehbffbflcgnaa
open Go.RowKit

theorem eight {i : Int} (h0 : 0 ≤ i) (h1 : i < 8) : i = 0 ∨ i = 1 ∨ i = 2 ∨ i = 3 ∨ i = 4 ∨ i = 5 ∨ i = 6 ∨ i = 7 := by omega
theorem five_fits : fitsB [5] 5 = true := by
  refine fitsB_true.2 ⟨by decide, by decide, .inr (by decide), fun i hi => ?_⟩
  by_cases h : i < 8
  · rcases eight (by omega) h with rfl | rfl | rfl | rfl | rfl | rfl | rfl | rfl <;> first | omega | decide
  · exact hasB_far (by simp; omega)
theorem five_take : takeL [5] 5 2 = [1, 3] := by decide
theorem five_map : IsMap [15] 1 (takeF [5] 5 2) := by
  refine ⟨rfl, by intro x hx; simp at hx; subst hx; decide, fun i => ?_⟩
  by_cases h0 : 0 ≤ i
  · by_cases h : i < 8
    · rcases eight h0 h with rfl | rfl | rfl | rfl | rfl | rfl | rfl | rfl <;> decide
    · unfold takeF
      rw [hasB_far (by simp; omega), hasB_far (xs := [5]) (by simp; omega), five_take]
      simp; omega
  · unfold takeF
    rw [hasB_neg (by omega), hasB_neg (xs := [5]) (by omega), five_take]
    simp; omega

theorem ri_block {w : World} {g e : Nat} {k : IntKind} {xs : List Int} (h : w.heap[g]? = some (.cells (xs.map (Value.int k)).toArray e (0, 0))) : RI w k (some ⟨g, 0, none⟩) xs := fun _ =>
  ⟨_, rfl, fun j hj => by rw [addr_add, cell_of_row w g j _ e (0, 0) h]; simp [List.getD_eq_getElem?_getD, hj]⟩

set_option maxHeartbeats 1600000 in
theorem awake_any (w : World) : Calls Try.prog 7 #[] w fun e w' => e = .returned (.bool true) ∧ Below w.heap.size w w' := by
  have hr0 : RI (w.alloc (.cells #[.int .u8 5] 5)) .u8 (some ⟨w.heap.size, 0, none⟩) [5] := ri_block (e := 5) (heap_alloc_new w _)
  have hT : Calls Try.prog 8 #[.slice (some ⟨w.heap.size, 0, none⟩) 1 1, .int .i64 5, .int .i64 2] (w.alloc (.cells #[.int .u8 5] 5)) (GivesTake (w.alloc (.cells #[.int .u8 5] 5)) 1 (takeF [5] 5 2) [1, 3]) := by
    have := take_ok (some ⟨w.heap.size, 0, none⟩) 1 [5] 5 2 (w.alloc (.cells #[.int .u8 5] 5)) (by decide) hr0 (by intro x hx; simp at hx; subst hx; decide) five_fits (by decide) (by decide)
    rw [five_take] at this
    exact this
  have HT := Lib.hid hT
  have hb0 := (Below.refl w.heap.size w).alloc (Nat.le_refl _) (.cells #[.int .u8 5] 5)
  clear hT hr0
  go_enter Try.func7, Try.ntmps7
  go_wp2_with (first
    | (go_at_call 8; refine HT.out.mono ?_; rintro e w1 ⟨ys, v, u, hmap, rfl, hown, hgot, hbel⟩; obtain rfl := hmap.eq five_map; obtain ⟨g, c1, rfl, hg, hgl, hcap, hfz, hcl, hrb, hst⟩ := hown.store (by decide); have hc15 : w1.cell? ⟨g, 0, none⟩ = some (.int .u8 15) := hcl 0 (by decide); obtain ⟨A2, c2, rfl, hr2⟩ := hgot.reads; have HR2 := Lib.hid hr2; clear hr2 hcl hst hfz hrb hown hgot)
    | (go_at_call 13; refine (same64_any A2 (some ⟨w1.heap.size, 0, none⟩) c2 2 [1, 3] [1, 3] _ (by decide) (by decide) (HR2.out.below ((Below.refl _ _).alloc (Nat.le_refl _) _)) (ri_block (e := 3) (heap_alloc_new w1 _))).mono ?_; rintro e w2 ⟨rfl, hbel2⟩))
  go_ret
  exact ⟨rfl, below_then hb0 (below_then hbel (below_then ((Below.refl _ _).alloc (Nat.le_refl _) _) hbel2))⟩
end Go.Proofs.Ytpehbffbflcgnaa
