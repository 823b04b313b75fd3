import Derived.Test.YtbippecchpaleaaGreatDoorBigIs
import Derived.RegionTactic
/- litmuslaw02.works returns true. -/
namespace Go.Proofs.YtbippecchpaleaaGreatDoor
open Go.RowKit Go.Num
attribute [local go_sem] Oper.semAt_some u64_mask
end Go.Proofs.YtbippecchpaleaaGreatDoor

