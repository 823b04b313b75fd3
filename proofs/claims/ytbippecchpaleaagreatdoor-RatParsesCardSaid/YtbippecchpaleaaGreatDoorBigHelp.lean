import Derived.Test.YtbippecchpaleaaGreatDoorGAr
import Derived.Test.YtbippecchpaleaaGreatDoorBigCmp
/- litmusref02.Same, litmuslaw02.same, few: what each returns. -/
namespace Go.Proofs.YtbippecchpaleaaGreatDoor
open Go.RowKit Go.Num
attribute [local go_sem] Oper.semAt_some u64_mask

theorem limbs_inj' {a b : Int} (h : limbs a.natAbs = limbs b.natAbs) (hs : decide (a < 0) = decide (b < 0)) : a = b := by
  have h1 : a.natAbs = b.natAbs := by rw [← val_limbs a.natAbs, h, val_limbs]
  rw [← sg_own a, ← sg_own b, h1, hs]
theorem alike {a b : Int} : (decide (a < 0) == decide (b < 0) && decide (limbs a.natAbs = limbs b.natAbs)) = decide (a = b) := by
  by_cases h : a = b
  · subst h; simp
  · rw [decide_eq_false h]
    by_cases hs : decide (a < 0) = decide (b < 0)
    · have : ¬ limbs a.natAbs = limbs b.natAbs := fun e => h (limbs_inj' e hs)
      simp [this]
    · have : (decide (a < 0) == decide (b < 0)) = false := by simpa using hs
      rw [this]; rfl
end Go.Proofs.YtbippecchpaleaaGreatDoor

