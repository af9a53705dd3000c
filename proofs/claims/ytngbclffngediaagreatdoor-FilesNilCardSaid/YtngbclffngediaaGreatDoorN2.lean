/- The reference's first configurations. -/
import Derived.Test.YtngbclffngediaaGreatDoorN1
set_option linter.unusedVariables false
namespace Go.Proofs.YtngbclffngediaaGreatDoor
open Go.RowKit

set_option maxRecDepth 20000 in
set_option maxHeartbeats 1600000 in
theorem begin_1 (w : World) : Calls Tryz.prog 38 #[.int .i64 1, .int .i64 1] w fun e w' => ∃ v', e = .returned (.tuple #[v', .int .i64 0]) ∧ Confs w' v' ∧ Below w.heap.size w w' := by
  obtain ⟨k0, k1, hA⟩ := heap2 w (.cells #[.int .i64 0, .int .u64 1, .slice none 0 0, .bool false, .int .i64 0] 45) (.cells #[.int .i64 1] 3)
  have h1 : One ((w.alloc (.cells #[.int .i64 0, .int .u64 1, .slice none 0 0, .bool false, .int .i64 0] 45)).alloc (.cells #[.int .i64 1] 3)) (.slice (some ⟨w.heap.size + 1, 0, none⟩) 1 1) :=
    ⟨_, _, rfl, by simp, by simp⟩
  have H1 := Lib.hid h1
  have HA := Lib.hid hA
  have K0 := Lib.hid k0
  clear h1 hA k0 k1
  go_enter Tryz.func38, Tryz.ntmps38
  go_wp2
  refine wp_loop_rounds 2 ?_
  rw [rounds_succ]
  go_wp2
  refine wp_loop_rounds 2 ?_
  rw [rounds_succ]
  go_wp2_with (at_builtin; refine wp_append_one rfl (.tmp 40) (.tmp 42) rfl _ rfl rfl H1.out ?_; intro v3 w3 o3 b3; have O3 := Lib.hid o3; obtain ⟨g3, c3, rfl, _, hone⟩ := o3; have kb := blk_below K0.out b3; obtain ⟨d0, f0⟩ := blk_cells kb; have KB := Lib.hid kb; have B3 := Lib.hid b3; clear kb b3)
  rw [rounds_succ]
  have n0 : g3 ≠ w.heap.size := by rintro rfl; rw [d0] at hone; simp at hone
  have oS := O3.out.set (j := 2) (x := .slice (some ⟨g3, 0, none⟩) 1 c3) n0
  have bS := below_set (j := 2) (x := .slice (some ⟨g3, 0, none⟩) 1 c3) (below_trans HA.out B3.out) (Nat.le_refl _)
  have hC : Confs ((w3.setCell ⟨w.heap.size, 2, none⟩ (.slice (some ⟨g3, 0, none⟩) 1 c3)).alloc (.cells #[.int .i64 0, .int .u64 1, .slice (some ⟨g3, 0, none⟩) 1 c3, .bool false, .int .i64 0] 45)) (.slice (some ⟨w3.heap.size, 0, none⟩) 1 1) := by
    have hk := heap_alloc_new (w3.setCell ⟨w.heap.size, 2, none⟩ (.slice (some ⟨g3, 0, none⟩) 1 c3)) (.cells #[.int .i64 0, .int .u64 1, .slice (some ⟨g3, 0, none⟩) 1 c3, .bool false, .int .i64 0] 45)
    simp only [World.size_setCell] at hk
    obtain ⟨e0, _⟩ := blk_cells hk
    exact ⟨_, _, _, rfl, (Array.getElem?_eq_some_iff.1 hk).1, e0 0, e0 1, e0 2, e0 3, e0 4, oS.below ((Below.refl _ _).alloc (Nat.le_refl _) _)⟩
  have bT := bS.alloc bS.size (.cells #[.int .i64 0, .int .u64 1, .slice (some ⟨g3, 0, none⟩) 1 c3, .bool false, .int .i64 0] 45)
  have HC := Lib.hid hC
  have BT := Lib.hid bT
  clear oS bS hC bT n0 hone
  go_wp2_with (at_builtin; refine wp_append_conf rfl (.tmp 45) (.tmp 47) rfl _ rfl rfl HC.out ?_; intro v4 w4 o4 b4; have O4 := Lib.hid o4; obtain ⟨g4, c4, n4, rfl, _⟩ := o4; have B4 := Lib.hid b4; clear b4)
  rw [rounds_succ]
  go_wp2
  go_ret2
  exact ⟨_, rfl, O4.out, below_trans BT.out B4.out⟩
end Go.Proofs.YtngbclffngediaaGreatDoor
