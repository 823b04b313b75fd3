import Derived.Test.YtbippecchpaleaaGreatDoorBigHelp
import Derived.Test.YtbippecchpaleaaGreatDoorGNat
/- big.Small: what it returns. -/
namespace Go.Proofs.YtbippecchpaleaaGreatDoor
open Go.RowKit Go.Num
attribute [local go_sem] Oper.semAt_some u64_mask

end Go.Proofs.YtbippecchpaleaaGreatDoor

