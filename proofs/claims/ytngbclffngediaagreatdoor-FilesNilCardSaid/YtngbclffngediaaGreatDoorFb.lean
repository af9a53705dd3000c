/- The other closed facts of the row of FilesNil. -/
import Derived.Test.YtngbclffngediaaGreatDoorFa
namespace Go.Proofs.YtngbclffngediaaGreatDoor.filesNil
open Go
set_option maxRecDepth 100000
set_option maxHeartbeats 4000000
theorem facts : joinedFacts Tryz.prog 3 Tryz.f3 Rows.filesNilSpec Rows.filesNilRow = true := by
  unfold joinedFacts
  repeat' (with_reducible refine Bool.and_eq_true_iff.2 ⟨?_, ?_⟩)
  · exact fact1
  · exact fact2
  · exact fact3
  · as_aux_lemma => kernel_rfl
  · exact fact5
  · as_aux_lemma => kernel_rfl
  · as_aux_lemma => kernel_rfl
  · as_aux_lemma => kernel_rfl
  · as_aux_lemma => kernel_rfl
  · exact fact10
  · exact fact11
  · exact fact12
  · exact fact13
  all_goals (as_aux_lemma => kernel_rfl)
theorem inst : Tryz.f3.isInstance Tryz.prog Rows.filesNilRow.origin Rows.filesNilRow.targs :=
  of_decide_eq_true (by kernel_rfl)
theorem wrap : Tryz.f3.isWrapper Tryz.prog Rows.filesNilRow.wrapper Rows.filesNilRow.mainSum := by
  unfold Func.isWrapper; first | (rw [if_pos (by decide +kernel)]; kernel_rfl) | (rw [if_neg (by decide +kernel)]; exact ⟨rfl, rfl⟩)
theorem named3 : Tryz.prog.funcNamed "catenary/catenarylaw33.FilesNil" = some 3 := by kernel_rfl
#print axioms facts
end Go.Proofs.YtngbclffngediaaGreatDoor.filesNil
