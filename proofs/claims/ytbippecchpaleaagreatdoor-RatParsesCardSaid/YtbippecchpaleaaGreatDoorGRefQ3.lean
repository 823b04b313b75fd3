import Derived.Test.YtbippecchpaleaaGreatDoorGRatS
import Derived.Test.YtbippecchpaleaaGreatDoorGRefQ2
/- litmusref03.Right: what it returns. -/
namespace Go.Proofs.YtbippecchpaleaaGreatDoor
open Go.RowKit Go.Num Go.Kp
attribute [local go_sem] Oper.semAt_some u64_mask ev_const ev_func ev_global
end Go.Proofs.YtbippecchpaleaaGreatDoor
/- litmusref03.Neg, Add, Sub, Mul, Div: what each returns. -/
namespace Go.Num
open Go Go.RowKit Go.Kp
theorem QL.qp {w : World} {v : Value} {n : Bool} {l m : List Nat} (h : QL w v n l m) : QP w v (sg n (val l)) (val m) := by
  obtain ⟨A, c, B, d, e, h1, h2, h3, h4⟩ := h
  exact ⟨n, A, _, c, B, _, d, m, e, ⟨l, _, h1, h3, rfl⟩, h2, h4⟩
theorem RV.qp {w : World} {v : Value} {q : Rat} (h : RV w v q) : QP w v q.num q.den := by
  obtain ⟨n, A, k, c, B, j, d, e, h1, h2, h3⟩ := h
  exact ⟨n, A, k, c, B, j, d, _, e, h1.whole, h2, h3⟩
/-- How long the parts are. -/
def Psz (z : Int) (a k : Nat) : Prop := szz z ≤ k ∧ sz a ≤ k
theorem Psz.mk {z : Int} {a k : Nat} (h : Psz z a k) (hk : 1 ≤ k) : Qsz (mkRat z (dn a)) k := mkRat_sz (dn_ne a) h.1 (by have := dn_sz h.2 hk; unfold szz at this; rwa [Int.natAbs_natCast] at this)
end Go.Num
namespace Go.Proofs.YtbippecchpaleaaGreatDoor
open Go.RowKit Go.Num Go.Kp
attribute [local go_sem] Oper.semAt_some u64_mask ev_const ev_func ev_global
end Go.Proofs.YtbippecchpaleaaGreatDoor
/- litmusref03.Zero, Sign, Cmp: what each returns. -/
namespace Go.Num
end Go.Num
namespace Go.Proofs.YtbippecchpaleaaGreatDoor
open Go.RowKit Go.Num Go.Kp
attribute [local go_sem] Oper.semAt_some u64_mask ev_const ev_func ev_global
end Go.Proofs.YtbippecchpaleaaGreatDoor
