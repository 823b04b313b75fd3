import Derived.Test.YtbippecchpaleaaGreatDoorGKept
/- A region that draws its order, whose first store (number n) may come up ahead of some operations (those of X): two stages. No program in sight. -/
namespace Go.Kp
open Go Go.RowKit
section
variable {P : Program} {ops : Array Oper} {Q : Exit → Act → World → Prop} {md : Region.Mode} {R : Nat → Value → World → Prop} {F : List Nat} {n : Nat} {b a : Act} {w0 w w' : World} {listed : Array Bool}

end
end Go.Kp

