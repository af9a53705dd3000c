/- What an atlas tells of a key. -/
import Derived.Test.YtngbclffngediaaGreatDoorN3
set_option linter.unusedVariables false
namespace Go.Proofs.YtngbclffngediaaGreatDoor
open Go.RowKit

set_option maxRecDepth 20000 in
set_option maxHeartbeats 1600000 in
theorem confs_1 (a : Nat) (w : World) (h : AtlasAt w a) : Calls Tryz.prog 54 #[.pointer (some ⟨a, 0, none⟩)] w fun e w' => ∃ v, e = .returned v ∧ Confs w' v ∧ Below w.heap.size w w' := by
  obtain ⟨v, k, hc, hk⟩ := h
  obtain ⟨d0, f0⟩ := blk_cells hk
  have hC := copy_1 v w hc
  obtain ⟨g, c, n, rfl, _⟩ := hc
  have HC := Lib.hid hC
  clear hC hk
  go_enter Tryz.func54, Tryz.ntmps54
  go_wp2_with (go_at_call 53; refine HC.out.mono ?_; rintro e w1 ⟨v, rfl, h1, b1⟩)
  go_ret
  exact ⟨_, rfl, h1, b1⟩

set_option maxRecDepth 20000 in
set_option maxHeartbeats 1600000 in
theorem chains_1 (a : Nat) (w : World) (h : AtlasAt w a) : Calls Tryz.prog 51 #[.pointer (some ⟨a, 0, none⟩)] w fun e w' => e = .returned (.int .i64 1) ∧ w = w' := by
  obtain ⟨v, k, hc, hk⟩ := h
  obtain ⟨d0, f0⟩ := blk_cells hk
  obtain ⟨g, c, n, rfl, _⟩ := hc
  clear hk
  go_enter Tryz.func51, Tryz.ntmps51
  go_wp2
  go_ret
  exact ⟨rfl, rfl⟩

set_option maxRecDepth 20000 in
set_option maxHeartbeats 1600000 in
theorem chain_0 (w : World) : Calls Tryz.prog 55 #[.int .u32 0, .int .i64 1] w fun e w' => e = .returned (.int .i64 0) ∧ w = w' := by
  go_enter Tryz.func55, Tryz.ntmps55
  go_wp2
  go_ret
  exact ⟨rfl, rfl⟩

set_option maxRecDepth 20000 in
set_option maxHeartbeats 1600000 in
theorem of_1 (a : Nat) (w : World) (h : AtlasAt w a) : Calls Tryz.prog 35 #[.pointer (some ⟨a, 0, none⟩), .int .u32 0] w fun e w' => ∃ v, e = .returned (confV v) ∧ One w' v ∧ Below w.heap.size w w' := by
  have hk := heap_alloc_new w (.cells #[.int .i64 0, .int .u64 0, .slice none 0 0, .bool false, .int .i64 0] 45)
  have bA : Below w.heap.size w (w.alloc (.cells #[.int .i64 0, .int .u64 0, .slice none 0 0, .bool false, .int .i64 0] 45)) := (Below.refl _ _).alloc (Nat.le_refl _) _
  have hC := confs_1 a _ (h.below bA)
  have K0 := Lib.hid hk
  have HC := Lib.hid hC
  have H := Lib.hid (h.below bA)
  have BA := Lib.hid bA
  clear hC hk h bA
  go_enter Tryz.func35, Tryz.ntmps35
  go_wp2_with (first
    | (go_at_call 54; refine HC.out.mono ?_; rintro e w1 ⟨v, rfl, h1, b1⟩; have kb := blk_below K0.out b1; obtain ⟨d0, f0⟩ := blk_cells kb; have KB := Lib.hid kb; have H1 := Lib.hid (H.out.below b1); have B1 := Lib.hid b1; obtain ⟨g, c, n, rfl, hg, e0, e1, e2, e3, e4, hn⟩ := h1; have HN := Lib.hid hn; obtain ⟨g2, c2, rfl, _, hone⟩ := hn; clear b1 kb)
    | (go_at_call 51; refine (chains_1 _ _ H1.out).mono ?_; rintro e w' ⟨rfl, rfl⟩)
    | (go_at_call 55; refine (chain_0 _).mono ?_; rintro e w' ⟨rfl, rfl⟩))
  have n0 : g2 ≠ w.heap.size := by rintro rfl; rw [d0] at hone; simp at hone
  refine bodyPost_ret (v := confV (.slice (some ⟨g2, 0, none⟩) 1 c2)) (by simp [results, Tryz.results35, go_sem, confV, d0]) rfl ⟨_, rfl, ?_, ?_⟩
  · exact ((((HN.out.set n0).set n0).set n0).set n0).set n0
  · exact below_set (below_set (below_set (below_set (below_set (below_trans BA.out B1.out) (Nat.le_refl _)) (Nat.le_refl _)) (Nat.le_refl _)) (Nat.le_refl _)) (Nat.le_refl _)

set_option maxRecDepth 20000 in
set_option maxHeartbeats 1600000 in
theorem reads_1 (v : Value) (w : World) (h : One w v) : Calls Tryz.prog 103 #[confV v, .int .i64 0] w fun e w' => e = .returned (.int .i64 1) ∧ Below w.heap.size w w' := by
  have hn' := h
  obtain ⟨g2, c2, rfl, hg2, hc2⟩ := hn'
  have hk := heap_alloc_new w (.cells #[.int .i64 0, .int .u64 1, .slice (some ⟨g2, 0, none⟩) 1 c2, .bool false, .int .i64 0] 45)
  have bA : Below w.heap.size w (w.alloc (.cells #[.int .i64 0, .int .u64 1, .slice (some ⟨g2, 0, none⟩) 1 c2, .bool false, .int .i64 0] 45)) := (Below.refl _ _).alloc (Nat.le_refl _) _
  have hC := right_1 _ _ (h.below bA)
  unfold confV at *
  have K0 := Lib.hid hk
  have HC := Lib.hid hC
  have H := Lib.hid (h.below bA)
  have BA := Lib.hid bA
  clear hC hk h bA hg2 hc2
  go_enter Tryz.func103, Tryz.ntmps103
  go_wp2_with (go_at_call 101; refine HC.out.mono ?_; rintro e w1 ⟨rfl, b1⟩; have kb := blk_below K0.out b1; obtain ⟨d0, f0⟩ := blk_cells kb; have H1 := H.out.below b1; obtain ⟨g3, c3, e3, hg3, hc3⟩ := H1; cases e3; have B1 := Lib.hid b1; clear b1 kb)
  have d02 : w1.cell? ⟨w.heap.size, 2, none⟩ = some (.slice (some ⟨g2, 0, none⟩) 1 c2) := d0 2
  clear d0 f0
  go_region
  go_wp2
  go_ret
  exact ⟨rfl, (below_trans BA.out B1.out).drew⟩

set_option maxRecDepth 20000 in
set_option maxHeartbeats 1600000 in
theorem reader_1 (a : Nat) (w : World) (h : AtlasAt w a) : Calls Tryz.prog 56 #[.pointer (some ⟨a, 0, none⟩), .int .u32 0, .int .i64 0] w fun e w' => e = .returned (.int .i64 1) ∧ Below w.heap.size w w' := by
  have HC := Lib.hid (of_1 a w h)
  have HR := Lib.hid reads_1
  unfold confV at *
  clear h
  go_enter Tryz.func56, Tryz.ntmps56
  go_wp2_with (first
    | (go_at_call 35; refine HC.out.mono ?_; rintro e w1 ⟨v, rfl, h1, b1⟩; have H1 := Lib.hid h1; obtain ⟨g, c, rfl, _, _⟩ := h1; have B1 := Lib.hid b1; clear b1)
    | (go_at_call 103; refine (HR.out _ _ H1.out).mono ?_; rintro e w2 ⟨rfl, b2⟩))
  go_ret
  exact ⟨rfl, below_trans B1.out b2⟩
end Go.Proofs.YtngbclffngediaaGreatDoor
