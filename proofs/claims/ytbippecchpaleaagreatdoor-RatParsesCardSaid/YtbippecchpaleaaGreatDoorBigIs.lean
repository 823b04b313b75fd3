import Derived.Test.YtbippecchpaleaaGreatDoorBigHelp
import Derived.Test.YtbippecchpaleaaGreatDoorBigText
import Derived.Test.YtbippecchpaleaaGreatDoorBigDm
/- big.Right, litmuslaw02.is, divs: what each returns. -/
namespace Go.Proofs.YtbippecchpaleaaGreatDoor
open Go.RowKit Go.Num
attribute [local go_sem] Oper.semAt_some u64_mask

end Go.Proofs.YtbippecchpaleaaGreatDoor

