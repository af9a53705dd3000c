/- A client begins to read the root. -/
import Derived.Test.YtngbclffngediaaGreatDoorN8
set_option linter.unusedVariables false
namespace Go.Proofs.YtngbclffngediaaGreatDoor
open Go.RowKit
/-- A client's cells: what it calls, and what has come of it. -/
def filesB (c : Nat) (k : Int) (p : ByteArray) (busy : Bool) (tries : Int) (view : Value) (next out : Value) : Array Value := #[.pointer (some ⟨c, 0, none⟩), .int .i64 2, .int .i64 2, .int .i64 k, .string p, .string ⟨#[]⟩, .int .i64 0, .int .i64 0, .slice none 0 0, .int .i64 0, .bool busy, .bool false, .int .i64 0, .slice none 0 0, .slice none 0 0, .int .i64 0, .bool false, .int .u64 0, .int .i64 tries, view, .int .u64 0, .slice none 0 0, .bool false, next, out]

set_option maxRecDepth 100000 in
set_option maxHeartbeats 1600000 in
theorem told_1 (f c : Nat) (view next v : Value) (w : World) (hv : ∃ g m, v = .slice (some g) 1 m) (h : w.heap[f]? = some (.cells (filesB c 10 ⟨#[47]⟩ true 1 view next v) 63 (0, 0))) :
    Calls Tryz.prog 17 #[.pointer (some ⟨f, 0, none⟩)] w fun e w' => e = .returned v ∧ w' = w.setCell ⟨f, 24, none⟩ (.slice none 0 0) := by
  obtain ⟨g, m, rfl⟩ := hv
  obtain ⟨d0, f0⟩ := blk_cells h
  unfold filesB at d0
  have d24 : w.cell? ⟨f, 24, none⟩ = some (.slice (some g) 1 m) := d0 24
  clear d0 h
  go_enter Tryz.func17, Tryz.ntmps17
  go_wp2
  go_ret
  exact ⟨rfl, rfl⟩

/-- make(map[K]V). -/
theorem wp_makeMap {P : Program} {ops : Array Oper} {rest : List Oper} {o : Oper} {a : Act} {Q : Exit → Act → World → Prop} {W : World} (hgd : o.guard = none) (t : TypeId) (ho : o.op = .makeMap t none) (h : wpList P ops Q rest (a.put o.dst (.map (some W.heap.size))) (W.alloc (.map #[] 0))) : wpList P ops Q (o :: rest) a W := by
  refine wpList_plain hgd fun K hK => ?_
  unfold Oper.wp
  have hr := run_makeMap (P := P) t W
  simp [execOp, ho, hr, Result.andThen]
  exact hK _ _ h

set_option maxRecDepth 20000 in
set_option maxHeartbeats 800000 in
theorem plan_new (w : World) : Calls Tryz.prog 27 #[] w fun e w' => (∃ p, e = .returned (.pointer (some p))) ∧ Below w.heap.size w w' := by
  go_enter Tryz.func27, Tryz.ntmps27
  go_wp2_with (with_reducible refine wp_makeMap rfl 92 rfl ?_)
  go_ret
  exact ⟨⟨_, rfl⟩, ((Below.refl _ _).alloc (Nat.le_refl _) _).alloc (by simp) _⟩
end Go.Proofs.YtngbclffngediaaGreatDoor
