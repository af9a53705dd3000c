/- The walk of FilesNil. -/
import Derived.Test.YtngbclffngediaaGreatDoorN15
set_option linter.unusedVariables false
namespace Go.Proofs.YtngbclffngediaaGreatDoor
open Go.RowKit
set_option maxRecDepth 100000 in
set_option maxHeartbeats 3200000 in
theorem nil_law (w : World) (x0 x1 x2 x3 x4 x5 p : Value) : Calls Tryz.prog 3 #[.agg #[x0, x1, x2, x3, x4, x5], p] w fun e w' => e = .returned (.bool true) ∧ Below w.heap.size w w' := by
  have HA := Lib.hid answer_nil
  have HC := Lib.hid call_nil
  have HS := Lib.hid same_nil
  unfold answer0 at HA HS
  unfold call0 at HC
  go_enter Tryz.func3, Tryz.ntmps3
  go_wp2_with fail
  refine (begin_nil _ _ _).mono ?_
  rintro e w1 ⟨rfl, b1⟩
  have B1 := Lib.hid (below_trans ((Below.refl _ _).alloc (Nat.le_refl _) (.cells #[x0, x1, x2, x3, x4, x5] 24)) b1)
  clear b1
  go_wp2_with fail
  refine (HA.out _).mono ?_
  rintro e w2 ⟨rfl, b2⟩
  have B2 := Lib.hid (below_trans B1.out b2)
  clear b2
  go_wp2_with fail
  refine (commit_nil _).mono ?_
  rintro e w' ⟨rfl, rfl⟩
  go_wp2_with fail
  refine (HC.out _).mono ?_
  rintro e w3 ⟨rfl, b3⟩
  have k3 := blk_below (heap_alloc_new w2 _) b3
  have K3 := Lib.hid k3
  have B3 := Lib.hid (below_trans B2.out (below_trans ((Below.refl _ _).alloc (Nat.le_refl _) _) b3))
  clear b3 k3
  go_wp2_with fail
  refine (take_nil _ _).mono ?_
  rintro e w4 ⟨rfl, b4⟩
  have k4 := blk_below (heap_alloc_new w3 _) b4
  have K4 := Lib.hid k4
  have k5 := blk_below ((Below.heap_alloc w3 _ _ (Array.getElem?_eq_some_iff.1 K3.out).1).trans K3.out) b4
  have K5 := Lib.hid k5
  obtain ⟨d4, f4⟩ := blk_cells k4
  obtain ⟨d5, f5⟩ := blk_cells k5
  have B4 := Lib.hid (below_trans B3.out (below_trans ((Below.refl _ _).alloc (Nat.le_refl _) _) b4))
  clear b4 k4 k5 f4 f5
  go_wp2_with fail
  refine (tick_nil _).mono ?_
  rintro e w' ⟨rfl, rfl⟩
  go_wp2_with fail
  refine (busy_nil _).mono ?_
  rintro e w' ⟨rfl, rfl⟩
  go_wp2_with fail
  refine (HS.out _).mono ?_
  rintro e w6 ⟨rfl, b6⟩
  have k6 := blk_below K4.out b6
  obtain ⟨d6, f6⟩ := blk_cells k6
  have B6 := Lib.hid (below_trans B4.out b6)
  clear b6 k6 f6 d4 d5
  go_wp2_with fail
  refine (tries_nil _).mono ?_
  rintro e w' ⟨rfl, rfl⟩
  go_wp2_with fail
  refine (caller_nil _).mono ?_
  rintro e w' ⟨rfl, rfl⟩
  go_wp2_with fail
  refine (awake_1 _).mono ?_
  rintro e w7 ⟨rfl, b7⟩
  go_wp2
  go_ret
  exact ⟨rfl, below_trans B6.out b7⟩
end Go.Proofs.YtngbclffngediaaGreatDoor
