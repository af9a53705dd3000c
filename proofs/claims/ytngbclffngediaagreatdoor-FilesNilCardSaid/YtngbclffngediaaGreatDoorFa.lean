/- Closed facts of the row of FilesNil, one declaration each, so that the kernel gives its memory back. -/
import Derived.Test.YtngbclffngediaaGreatDoorRows
import Derived.JoinedOf
import Derived.KernelRfl
namespace Go.Proofs.YtngbclffngediaaGreatDoor.filesNil
open Go
set_option maxRecDepth 100000
set_option maxHeartbeats 4000000
theorem fact1 : OpenClaim.wf (OpenSpec.ofChange Rows.filesNilSpec) Rows.filesNilRow = true := by kernel_rfl
theorem fact2 : laidOutB Tryz.prog = true := by kernel_rfl
theorem fact3 : mapsRowed Tryz.prog = true := by kernel_rfl
theorem fact5 : namedTie Tryz.prog Rows.filesNilRow.named Rows.filesNilSpec.vars = true := by kernel_rfl
theorem fact10 : (Rows.filesNilRow.inPlace == Tryz.prog.inPlace 3) = true := by kernel_rfl
theorem fact11 : (Rows.filesNilRow.unfollowed == Tryz.prog.unfollowed 3) = true := by kernel_rfl
theorem fact12 : (Rows.filesNilRow.recurses == Tryz.prog.recurses 3) = true := by kernel_rfl
theorem fact13 : (Rows.filesNilRow.named == Tryz.prog.varsNamed 3) = true := by kernel_rfl
end Go.Proofs.YtngbclffngediaaGreatDoor.filesNil
