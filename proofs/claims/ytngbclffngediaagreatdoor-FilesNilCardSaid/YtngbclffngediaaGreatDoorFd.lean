/- More closed facts of the card of FilesNil. -/
import Derived.Test.YtngbclffngediaaGreatDoorFc
namespace Go.Proofs.YtngbclffngediaaGreatDoor.filesNil
open Go
set_option maxRecDepth 100000
set_option maxHeartbeats 4000000
theorem looks3 : true = Tryz.prog.looks [] := by kernel_rfl
end Go.Proofs.YtngbclffngediaaGreatDoor.filesNil
