/- The page's example of judge, and the walk of JudgeOf. -/
import Derived.Test.YtodbpblicjadjaaGreatDoorJ1
set_option linter.unusedVariables false
namespace Go.Proofs.YtodbpblicjadjaaGreatDoor
open Go.RowKit

set_option maxHeartbeats 1600000 in
theorem awake_any (w : World) (h0 : 0 < w.heap.size) (hn : w.cell? ⟨0, 5, none⟩ = some (.string ⟨#[117, 110, 114, 101, 97, 100]⟩)) :
    Calls Tryz.prog 6 #[] w fun e w' => e = .returned (.bool true) ∧ Below w.heap.size w w' := by
  have h1 := fun w h1 h2 => check_1 w w.heap.size h1 h2
  have hk1 := check_1 (w.alloc (.cells commitA 74)) w.heap.size (by simp) (heap_alloc_new w _)
  have hk0 := fun w => check_0 w
  unfold commitA hist1 at hk1
  unfold hist0 at hk0
  have HK1 := Lib.hid hk1
  have HK0 := Lib.hid hk0
  clear h1 hk1 hk0
  go_enter Tryz.func6, Tryz.ntmps6
  go_wp2_with fail
  refine HK1.out.mono ?_
  rintro e w1 ⟨g, cap, rfl, hg, b1⟩
  have hgw : g < w1.heap.size := World.block_lt_of_cell? w1 _ hg
  have b1' : Below w.heap.size w w1 := below_trans ((Below.refl _ _).alloc (Nat.le_refl _) _) b1
  have hn1 := (b1'.cell (p := ⟨0, 5, none⟩) h0).trans hn
  have B1 := Lib.hid b1'
  clear b1 b1' hn
  go_wp2_with fail
  refine (HK0.out _).mono ?_
  rintro e w2 ⟨rfl, b2⟩
  have hg2 := (b2.cell (p := ⟨g, 0, none⟩) hgw).trans hg
  have hn2 := (b2.cell (p := ⟨0, 5, none⟩) (by have := B1.out.size; simp; omega)).trans hn1
  have B2 := Lib.hid b2
  have HN2 := Lib.hid hn2
  clear b2 hg hn1 hn2
  go_wp2_with fail
  refine (name_5 _ HN2.out).mono ?_
  rintro e w' ⟨rfl, rfl⟩
  go_wp2
  go_ret
  exact ⟨rfl, below_trans B1.out B2.out⟩

set_option maxHeartbeats 1600000 in
theorem of_law (k : Int) (w : World) (h0 : 0 < w.heap.size) (hn : w.cell? ⟨0, 5, none⟩ = some (.string ⟨#[117, 110, 114, 101, 97, 100]⟩)) :
    Calls Tryz.prog 4 #[.int .i64 k] w fun e w' => e = .returned (.bool true) ∧ Below w.heap.size w w' := by
  have hk0 := fun w => check_0 w
  have hk2 := fun w => tree_0 w
  have hk3 := of_nil w
  unfold hist0 at hk0 hk2 hk3
  have HK0 := Lib.hid hk0
  have HK2 := Lib.hid hk2
  have HK3 := Lib.hid hk3
  have HN := Lib.hid hn
  clear hk0 hk2 hk3 hn
  go_enter Tryz.func4, Tryz.ntmps4
  go_wp2_with fail
  refine HK3.out.mono ?_
  rintro e w1 ⟨rfl, b1⟩
  have B1 := Lib.hid b1
  have hz1 := b1.size
  clear b1
  go_wp2_with fail
  refine (HK0.out _).mono ?_
  rintro e w2 ⟨rfl, b2⟩
  have h2 := blk_below (heap_alloc_new w1 _) b2
  obtain ⟨c2, f2⟩ := blk_cells h2
  have B2 := Lib.hid b2
  clear b2 h2 f2
  go_wp2_with fail
  refine (HK2.out _).mono ?_
  rintro e w3 ⟨rfl, b3⟩
  have B3 := Lib.hid b3
  clear b3 c2
  have bA : Below w.heap.size w w3 := below_trans B1.out (below_trans ((Below.refl _ _).alloc (Nat.le_refl _) _) (below_trans B2.out B3.out))
  have hn3 := (bA.cell (p := ⟨0, 5, none⟩) h0).trans HN.out
  have hz3 := bA.size
  have BA := Lib.hid bA
  have HN3 := Lib.hid hn3
  clear bA hn3
  go_wp2_with fail
  refine (awake_any _ (by omega) HN3.out).mono ?_
  rintro e w4 ⟨rfl, b4⟩
  go_wp2
  go_ret
  exact ⟨rfl, below_trans BA.out b4⟩
end Go.Proofs.YtodbpblicjadjaaGreatDoor
