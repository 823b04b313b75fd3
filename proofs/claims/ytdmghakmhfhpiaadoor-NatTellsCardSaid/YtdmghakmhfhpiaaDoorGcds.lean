import Derived.Test.YtdmghakmhfhpiaaDoorTold
import Derived.Test.YtdmghakmhfhpiaaDoorRefGcd
/- litmuslaw01.NatGcds returns true. -/
namespace Go.Proofs.YtdmghakmhfhpiaaDoor
open Go.RowKit Go.Num
attribute [local go_sem] Oper.semAt_some u64_mask
theorem refSame_yes (w : World) (va vb : Value) (la lb : List Nat) {a b : Nat} (ha : Num w va la a) (hb : Num w vb lb b) (h : la = lb) :
    Calls Tryd.prog 15 #[va, vb] w fun e w' => e = .returned (.bool true) ∧ Below w.heap.size w w' := by
  refine (refSame_any w va vb la lb ha.arg hb.arg (Nat.le_trans ha.len (by decide))).mono ?_
  rintro e w1 ⟨rfl, h1⟩
  exact ⟨by rw [decide_eq_true h], h1⟩
set_option maxHeartbeats 4000000 in
set_option maxRecDepth 100000 in
theorem natGcds_any (w : World) (va vb : Value) (la lb : List Nat) (ha : Arg encU w va la) (hla : Lim la) (hna : la.length ≤ 9223372036854775807) (hb : Arg encU w vb lb) (hlb : Lim lb) (hnb : lb.length ≤ 9223372036854775807) :
    Calls Tryd.prog 3 #[va, vb] w fun e w' => e = .returned (.bool true) ∧ Below w.heap.size w w' := by
  go_enter Tryd.func3, Tryd.ntmps3
  have HB : Below w.heap.size w w := Below.refl _ _
  go_wp2_with fail
  refine (few_any _ _ la 5 ha (by decide) hna).mono ?_
  rintro e w9 ⟨ua, rfl, hw9, ga⟩
  subst w9
  obtain ⟨a, xa, na, ka⟩ : ∃ y x, Num w ua x y ∧ sz y ≤ 5 := ⟨_, _, num_few ga hla (by decide), sz_few 5 hla⟩
  clear ga ha hla hna
  go_wp2_with fail
  refine (few_any _ _ lb 5 hb (by decide) hnb).mono ?_
  rintro e w9 ⟨ub, rfl, hw9, gb⟩
  subst w9
  obtain ⟨b, xb, nb, kb⟩ : ∃ y x, Num w ub x y ∧ sz y ≤ 5 := ⟨_, _, num_few gb hlb (by decide), sz_few 5 hlb⟩
  clear gb hb hlb hnb
  go_wp2_with fail
  refine (gcd_any _ _ _ _ _ a b na nb).mono ?_
  rintro e w1_1 ⟨vs, rfl, gs⟩
  have hb1_1 := gs.below
  have ns1 := gs.num (Nat.le_trans (sz_gcd_le ka kb) (by decide))
  replace na := na.below hb1_1
  replace nb := nb.below hb1_1
  replace HB := HB.trans (hb1_1.mono HB.size)
  clear hb1_1
  clear gs
  go_wp2_with fail
  refine (rgcd_any _ _ _ _ _ a b na nb).mono ?_
  rintro e w1_2 ⟨vs, rfl, gs, hbs⟩
  have hb1_2 := hbs
  have nh := num_of gs (Nat.le_trans (sz_gcd_le ka kb) (by decide))
  clear na
  clear nb
  replace ns1 := ns1.below hb1_2
  replace HB := HB.trans (hb1_2.mono HB.size)
  clear hb1_2
  clear gs
  go_wp2_with fail
  refine (refSame_yes _ _ _ _ _ ns1 nh rfl).mono ?_
  rintro e w1_3 ⟨rfl, hbs⟩
  have hb1_3 := hbs
  clear ns1
  clear nh
  replace HB := HB.trans (hb1_3.mono HB.size)
  clear hb1_3
  go_wp2_with fail
  refine (works_any _).mono ?_
  rintro e w1_4 ⟨rfl, hbs⟩
  have hb1_4 := hbs
  replace HB := HB.trans (hb1_4.mono HB.size)
  clear hb1_4
  go_wp2_with fail
  go_ret
  exact ⟨rfl, HB⟩
end Go.Proofs.YtdmghakmhfhpiaaDoor
