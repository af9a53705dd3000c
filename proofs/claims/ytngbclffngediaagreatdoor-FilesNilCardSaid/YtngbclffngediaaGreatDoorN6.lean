/- A caller begins to ask. -/
import Derived.Test.YtngbclffngediaaGreatDoorN5
set_option linter.unusedVariables false
namespace Go.Proofs.YtngbclffngediaaGreatDoor
open Go.RowKit
theorem q22 (w : World) (a : Option Addr) (l c : Nat) : (binOp .eql 22 (.slice a l c) (.slice none 0 0)).run Tryz.prog w = .ok (.bool a.isNone) w :=
  Lib.run_eql_slice_nil w 22 5 a l c 0 0 Tryz.underlying22

set_option maxRecDepth 20000 in
set_option maxHeartbeats 800000 in
theorem busy_0 (c : Nat) (w : World) (h : w.cell? ⟨c, 10, none⟩ = some (.pointer none)) : Calls Tryz.prog 20 #[.pointer (some ⟨c, 0, none⟩)] w fun e w' => e = .returned (.bool false) ∧ w = w' := by
  go_enter Tryz.func20, Tryz.ntmps20
  go_wp2
  go_ret
  exact ⟨rfl, rfl⟩

/-- What a read asks. -/
def opV : Value := .agg #[.int .i64 1, .int .u32 0, .int .u64 0, .slice none 0 0, .int .i64 0]

set_option maxRecDepth 20000 in
set_option maxHeartbeats 800000 in
theorem check_0 (c : Nat) (w : World) : Calls Tryz.prog 110 #[.pointer (some ⟨c, 0, none⟩), opV] w fun e w' => e = .returned (.int .i64 0) ∧ Below w.heap.size w w' := by
  unfold opV
  go_enter Tryz.func110, Tryz.ntmps110
  go_wp2
  go_ret
  exact ⟨rfl, (Below.refl _ _).alloc (Nat.le_refl _) _⟩

set_option maxRecDepth 20000 in
set_option maxHeartbeats 800000 in
theorem clone_nil (w : World) : Calls Tryz.prog 18 #[.slice none 0 0] w fun e w' => e = .returned (.slice none 0 0) ∧ w = w' := by
  have hq := q22
  go_enter Tryz.func18, Tryz.ntmps18
  go_wp2
  go_ret
  exact ⟨rfl, rfl⟩

set_option maxRecDepth 20000 in
set_option maxHeartbeats 800000 in
theorem latch_new (w : World) : Calls Tryz.prog 111 #[] w fun e w' => e = .returned (.pointer (some ⟨w.heap.size, 0, none⟩)) ∧ Below w.heap.size w w' := by
  go_enter Tryz.func111, Tryz.ntmps111
  go_wp2
  go_ret
  exact ⟨rfl, (Below.refl _ _).alloc (Nat.le_refl _) _⟩
end Go.Proofs.YtngbclffngediaaGreatDoor
