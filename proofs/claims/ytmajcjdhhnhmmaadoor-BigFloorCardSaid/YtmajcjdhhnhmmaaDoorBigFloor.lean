import Derived.Test.YtmajcjdhhnhmmaaDoorBigFloorNeg
import Derived.Test.YtmajcjdhhnhmmaaDoorBigFloorZero
import Derived.Test.YtmajcjdhhnhmmaaDoorBigFloorPos
/- litmuslaw02.BigFloor returns true. -/
namespace Go.Proofs.YtmajcjdhhnhmmaaDoor
open Go.RowKit Go.Num Go.Kp
theorem bigFloor_any (w : World) (n0 : Bool) (m0 : Value) (l0 : List Nat) (n1 : Bool) (m1 : Value) (l1 : List Nat) (n2 : Bool) (m2 : Value) (l2 : List Nat) (h0 : Arg encU w m0 l0) (hl0 : Lim l0) (hn0 : l0.length ≤ 9223372036854775807) (h1 : Arg encU w m1 l1) (hl1 : Lim l1) (hn1 : l1.length ≤ 9223372036854775807) (h2 : Arg encU w m2 l2) (hl2 : Lim l2) (hn2 : l2.length ≤ 9223372036854775807) :
    Calls Tryd.prog 7 #[.agg #[.bool n0, m0, .bool n1, m1, .bool n2, m2]] w fun e w' => e = .returned (.bool true) ∧ Below w.heap.size w w' := by
  rcases Int.lt_trichotomy (sg n1 (val (l1.take 20))) 0 with hc | hc | hc
  · exact bigFloor_neg w n0 m0 l0 n1 m1 l1 n2 m2 l2 h0 hl0 hn0 h1 hl1 hn1 h2 hl2 hn2 hc
  · exact bigFloor_zero w n0 m0 l0 n1 m1 l1 n2 m2 l2 h0 hl0 hn0 h1 hl1 hn1 h2 hl2 hn2 hc
  · exact bigFloor_pos w n0 m0 l0 n1 m1 l1 n2 m2 l2 h0 hl0 hn0 h1 hl1 hn1 h2 hl2 hn2 hc
end Go.Proofs.YtmajcjdhhnhmmaaDoor
