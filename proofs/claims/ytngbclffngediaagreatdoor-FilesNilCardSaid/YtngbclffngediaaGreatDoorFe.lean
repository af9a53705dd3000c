/- The last closed fact of the card of FilesNil: no body of the translation holds a go statement. -/
import Derived.Test.YtngbclffngediaaGreatDoorFd
namespace Go.Proofs.YtngbclffngediaaGreatDoor.filesNil
open Go
set_option maxRecDepth 100000
set_option maxHeartbeats 4000000
theorem nogo : (Tryz.prog.funcs.any Func.goes) = false := by kernel_rfl
theorem goes_of (P : Program) (h : P.funcs.any Func.goes = false) (f : FuncId) : P.goes f = false := by
  unfold Program.goes
  rw [h, Bool.and_false, Bool.or_false]
  have hall : ∀ (g : Nat), ((P.funcs[g]?).any Func.goes) = false := by
    intro g
    cases hg : P.funcs[g]? with
    | none => rfl
    | some fn =>
      have hm : fn ∈ P.funcs := Array.mem_of_getElem? hg
      rw [Array.any_eq_false'] at h
      simpa using h fn hm
  rw [Bool.eq_false_iff]
  intro hh
  simp only [List.any_eq_true] at hh
  obtain ⟨g, _, hg⟩ := hh
  rw [hall g] at hg
  cases hg
theorem goes3 : false = Rows.filesNilRow.goesBy Tryz.prog := by
  have h1 : Tryz.prog.funcNamed Rows.filesNilRow.func = some 3 := named3
  have h2 : Rows.filesNilRow.start = .entering := rfl
  unfold OpenClaim.goesBy Program.goesAt Program.goesFrom
  rw [h1, h2, Option.any_some, goes_of _ nogo]
  rfl
end Go.Proofs.YtngbclffngediaaGreatDoor.filesNil
