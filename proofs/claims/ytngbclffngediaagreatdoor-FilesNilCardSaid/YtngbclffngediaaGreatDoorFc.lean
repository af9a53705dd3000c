/- The closed facts of the card of FilesNil. -/
import Derived.Test.YtngbclffngediaaGreatDoorFb
import Derived.Test.YtngbclffngediaaGreatDoorCards
import Derived.SevenTiedAt
import Derived.Stop.Joined
namespace Go.Proofs.YtngbclffngediaaGreatDoor.filesNil
open Go
set_option maxRecDepth 100000
set_option maxHeartbeats 4000000
theorem wft : OpenClaim.wfByText (OpenSpec.ofChange Rows.filesNilSpec) Rows.filesNilRow = true := by kernel_rfl
theorem main : Tryz.prog.mainIs = some (true, "e389a6817c78f06ee98f5b50103c732652a9dc76ac3ba74f973ce92acba43883".toList) := by kernel_rfl
theorem stand3 : ([24, 3].all fun u => !Tryz.prog.wantsStandIn u) = true := by kernel_rfl
end Go.Proofs.YtngbclffngediaaGreatDoor.filesNil
