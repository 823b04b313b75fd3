import Derived.Test.YtbippecchpaleaaGreatDoorBigDiv
/- big.Div, big.Mod: what they return. -/
namespace Go.Proofs.YtbippecchpaleaaGreatDoor
open Go.RowKit Go.Num
attribute [local go_sem] Oper.semAt_some u64_mask

set_option maxHeartbeats 2000000 in
set_option maxRecDepth 100000 in
theorem bdiv_any (w : World) (n k : Bool) (m o : Value) (y z : Int) (h : Whole w n m y) (g : Whole w k o z) (hz0 : z ≠ 0) :
    Calls Tryz.prog 74 #[.agg #[.bool n, m], .agg #[.bool k, o]] w fun e w' => ∃ n' m', e = .returned (.tuple #[.agg #[.bool n', m'], .int .i64 0]) ∧ MadeZ 43 w w' n' m' (Int.fdiv y z) := by
  have HR := Lib.hid (Reg2.start w 24 (.bool n) m (.bool k) o)
  have HZ0 := Lib.hid hz0
  clear hz0
  go_enter Tryz.func74, Tryz.ntmps74
  go_wp2_with fail
  refine (divided_any _ n k m o y z (h.below HR.out.below) (g.below HR.out.below) HZ0.out).mono ?_
  rintro e w1 ⟨Q, R, vq, vr, rfl, hK, hb⟩
  have HK := Lib.hid hK
  have HKs := hK
  simp only [World.size_alloc] at HKs ⊢
  have HK2 := Lib.hid HKs
  clear hK HKs hb
  go_wp2_with fail
  refine (tell_any _ w1 _ Q R n k m o vq vr y z HZ0.out HK2.out).mono ?_
  rintro e w2 ⟨n1, m1, n2, m2, rfl, g1, g2⟩
  obtain ⟨A1, k1, c1, rfl⟩ := g1.shape
  obtain ⟨A2, k2, c2, rfl⟩ := g2.shape
  have R2 := HR.out.call g1.below
  have hal := ((Below.refl w2.heap.size w2).alloc (Nat.le_refl _) (.cells #[.bool n1, .slice A1 k1 c1] 24)).alloc (by simp) (.cells #[.bool n2, .slice A2 k2 c2] 24)
  have R3 := Lib.hid (R2.call hal)
  have M := Lib.hid ((g1.after HR.out.below).carry hal)
  clear hal
  obtain ⟨p1, p2, p3, p4, p5, p6, p7, p8, _⟩ := R3.out.facts
  go_wp2_with fail
  refine bodyPost_ret (v := .tuple #[.agg #[.bool n1, .slice A1 k1 c1], .int .i64 0]) (by simp [results, Tryz.results74, go_sem, R3.out.res.c0', R3.out.res.c1']) rfl ⟨_, _, rfl, ?_⟩
  obtain ⟨x, y', hx⟩ := R3.out.res
  exact M.out.put hx (by omega) (by decide) _ _

end Go.Proofs.YtbippecchpaleaaGreatDoor

