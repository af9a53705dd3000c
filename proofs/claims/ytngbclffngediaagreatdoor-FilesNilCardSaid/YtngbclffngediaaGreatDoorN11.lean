/- A client reads the root's block. -/
import Derived.Test.YtngbclffngediaaGreatDoorN10
set_option linter.unusedVariables false
namespace Go.Proofs.YtngbclffngediaaGreatDoor
open Go.RowKit
set_option maxRecDepth 100000 in
set_option maxHeartbeats 3200000 in
theorem read_1 (f c : Nat) (view next : Value) (w : World) (hnx : next = .func (.func 29) #[.pointer (some ⟨f, 0, none⟩)] #[]) (hcf : c ≠ f) (hca : CallerAt w c) (h : w.heap[f]? = some (.cells (filesB c 10 ⟨#[47]⟩ true 1 view .nilFunc (.slice none 0 0)) 63 (0, 0))) :
    Calls Tryz.prog 28 #[.pointer (some ⟨f, 0, none⟩), .int .u32 0, next] w fun e w' => e = .returned (.tuple #[]) ∧ ∃ v, w'.heap[f]? = some (.cells (filesB c 10 ⟨#[47]⟩ true 1 view next v) 63 (0, 0)) ∧ Letter w' v ∧ Two w w' c f := by
  have HD := Lib.hid (do_1 f c view next w hnx hcf hca h)
  subst hnx
  obtain ⟨d0, f0⟩ := blk_cells h
  unfold filesB at d0
  have d9 : w.cell? ⟨f, 9, none⟩ = some (.int .i64 0) := d0 9
  unfold opV at *
  clear d0 h hca
  go_enter Tryz.func28, Tryz.ntmps28
  go_wp2_with (go_at_call 40; refine HD.out.mono ?_; rintro e w2 ⟨rfl, v, h1, h2, h3⟩)
  go_end0
  exact ⟨rfl, v, h1, h2, h3⟩
end Go.Proofs.YtngbclffngediaaGreatDoor
