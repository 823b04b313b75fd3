import Derived.Test.YtdmghakmhfhpiaaDoorTold
/- litmuslaw01.NatCommon returns true. -/
namespace Go.Proofs.YtdmghakmhfhpiaaDoor
open Go.RowKit Go.Num
attribute [local go_sem] Oper.semAt_some u64_mask

set_option maxHeartbeats 4000000 in
set_option maxRecDepth 100000 in
theorem natCommon_any (w : World) (va vb vc : Value) (la lb lc : List Nat) (ha : Arg encU w va la) (hla : Lim la) (hna : la.length ≤ 9223372036854775807) (hb : Arg encU w vb lb) (hlb : Lim lb) (hnb : lb.length ≤ 9223372036854775807) (hc : Arg encU w vc lc) (hlc : Lim lc) (hnc : lc.length ≤ 9223372036854775807) :
    Calls Tryd.prog 6 #[va, vb, vc] w fun e w' => e = .returned (.bool true) ∧ Below w.heap.size w w' := by
  go_enter Tryd.func6, Tryd.ntmps6
  have HB : Below w.heap.size w w := Below.refl _ _
  go_wp2_with fail
  refine (works_any _).mono ?_
  rintro e w0 ⟨rfl, hq⟩
  replace ha := ha.below hq
  replace hb := hb.below hq
  replace hc := hc.below hq
  replace HB := HB.trans (hq.mono HB.size)
  clear hq
  go_wp2_with fail
  refine (few_any _ _ la 8 ha (by decide) hna).mono ?_
  rintro e w9 ⟨ua, rfl, hw9, ga⟩
  subst w9
  obtain ⟨a, xa, na, ka⟩ : ∃ y x, Num w0 ua x y ∧ sz y ≤ 8 := ⟨_, _, num_few ga hla (by decide), sz_few 8 hla⟩
  clear ga ha hla hna
  go_wp2_with fail
  refine (few_any _ _ lb 8 hb (by decide) hnb).mono ?_
  rintro e w9 ⟨ub, rfl, hw9, gb⟩
  subst w9
  obtain ⟨b, xb, nb, kb⟩ : ∃ y x, Num w0 ub x y ∧ sz y ≤ 8 := ⟨_, _, num_few gb hlb (by decide), sz_few 8 hlb⟩
  clear gb hb hlb hnb
  go_wp2_with fail
  refine (few_any _ _ lc 8 hc (by decide) hnc).mono ?_
  rintro e w9 ⟨uc, rfl, hw9, gc⟩
  subst w9
  obtain ⟨c, xc, nc, kc⟩ : ∃ y x, Num w0 uc x y ∧ sz y ≤ 8 := ⟨_, _, num_few gc hlc (by decide), sz_few 8 hlc⟩
  clear gc hc hlc hnc
  go_wp2_with fail
  refine (gcd_any _ _ _ _ _ a b na nb).mono ?_
  rintro e w9_1 ⟨vs, rfl, gs⟩
  have hb9_1 := gs.below
  have ns1 := gs.num (Nat.le_trans (sz_gcd_le ka kb) (by decide))
  replace na := na.below hb9_1
  replace nb := nb.below hb9_1
  replace nc := nc.below hb9_1
  replace HB := HB.trans (hb9_1.mono HB.size)
  clear hb9_1
  clear gs
  go_wp2_with fail
  refine (gcd_any _ _ _ _ _ b a nb na).mono ?_
  rintro e w9_2 ⟨vs, rfl, gs⟩
  have hb9_2 := gs.below
  have ns2 := gs.num (Nat.le_trans (sz_gcd_le kb ka) (by decide))
  replace na := na.below hb9_2
  replace nb := nb.below hb9_2
  replace nc := nc.below hb9_2
  replace ns1 := ns1.below hb9_2
  replace HB := HB.trans (hb9_2.mono HB.size)
  clear hb9_2
  clear gs
  go_wp2_with fail
  refine (same_yes _ _ _ _ _ ns1 ns2 (congrArg limbs (Nat.gcd_comm a b))).mono ?_
  rintro e w9_3 ⟨rfl, hbs⟩
  have hb9_3 := hbs
  clear ns2
  replace na := na.below hb9_3
  replace nb := nb.below hb9_3
  replace nc := nc.below hb9_3
  replace ns1 := ns1.below hb9_3
  replace HB := HB.trans (hb9_3.mono HB.size)
  clear hb9_3
  go_wp2_with fail
  refine (mul_any _ _ _ _ _ a c na nc).mono ?_
  rintro e w9_4 ⟨vs, rfl, gs⟩
  have hb9_4 := gs.below
  have ns3 := gs.num (Nat.le_trans (sz_mul_le ka kc) (by decide))
  replace na := na.below hb9_4
  replace nb := nb.below hb9_4
  replace nc := nc.below hb9_4
  replace ns1 := ns1.below hb9_4
  replace HB := HB.trans (hb9_4.mono HB.size)
  clear hb9_4
  clear gs
  go_wp2_with fail
  refine (mul_any _ _ _ _ _ b c nb nc).mono ?_
  rintro e w9_5 ⟨vs, rfl, gs⟩
  have hb9_5 := gs.below
  have ns4 := gs.num (Nat.le_trans (sz_mul_le kb kc) (by decide))
  replace na := na.below hb9_5
  replace nb := nb.below hb9_5
  replace nc := nc.below hb9_5
  replace ns1 := ns1.below hb9_5
  replace ns3 := ns3.below hb9_5
  replace HB := HB.trans (hb9_5.mono HB.size)
  clear hb9_5
  clear gs
  go_wp2_with fail
  refine (gcd_any _ _ _ _ _ (a * c) (b * c) ns3 ns4).mono ?_
  rintro e w9_6 ⟨vs, rfl, gs⟩
  have hb9_6 := gs.below
  have ns5 := gs.num (Nat.le_trans (sz_gcd_le (sz_mul_le ka kc) (sz_mul_le kb kc)) (by decide))
  clear ns3
  clear ns4
  replace na := na.below hb9_6
  replace nb := nb.below hb9_6
  replace nc := nc.below hb9_6
  replace ns1 := ns1.below hb9_6
  replace HB := HB.trans (hb9_6.mono HB.size)
  clear hb9_6
  clear gs
  go_wp2_with fail
  refine (mul_any _ _ _ _ _ (Nat.gcd a b) c ns1 nc).mono ?_
  rintro e w9_7 ⟨vs, rfl, gs⟩
  have hb9_7 := gs.below
  have ns6 := gs.num (Nat.le_trans (sz_mul_le (sz_gcd_le ka kb) kc) (by decide))
  clear nc
  replace na := na.below hb9_7
  replace nb := nb.below hb9_7
  replace ns1 := ns1.below hb9_7
  replace ns5 := ns5.below hb9_7
  replace HB := HB.trans (hb9_7.mono HB.size)
  clear hb9_7
  clear gs
  go_wp2_with fail
  refine (same_yes _ _ _ _ _ ns5 ns6 (congrArg limbs (Nat.gcd_mul_right a c b))).mono ?_
  rintro e w9_8 ⟨rfl, hbs⟩
  have hb9_8 := hbs
  clear ns5
  clear ns6
  replace na := na.below hb9_8
  replace nb := nb.below hb9_8
  replace ns1 := ns1.below hb9_8
  replace HB := HB.trans (hb9_8.mono HB.size)
  clear hb9_8
  go_wp2_with fail
  refine (gcd_any _ _ _ _ _ a 0 na (num_nil _ _)).mono ?_
  rintro e w9_9 ⟨vs, rfl, gs⟩
  have hb9_9 := gs.below
  have ns8 := gs.num (Nat.le_trans (sz_gcd_le ka sz_nil) (by decide))
  replace na := na.below hb9_9
  replace nb := nb.below hb9_9
  replace ns1 := ns1.below hb9_9
  replace HB := HB.trans (hb9_9.mono HB.size)
  clear hb9_9
  clear gs
  go_wp2_with fail
  refine (trim_num _ _ _ a na).mono ?_
  rintro e w9_10 ⟨vs, rfl, gs⟩
  have hb9_10 := gs.below
  have ns9 := gs.num (Nat.le_trans ka (by decide))
  replace na := na.below hb9_10
  replace nb := nb.below hb9_10
  replace ns1 := ns1.below hb9_10
  replace ns8 := ns8.below hb9_10
  replace HB := HB.trans (hb9_10.mono HB.size)
  clear hb9_10
  clear gs
  go_wp2_with fail
  refine (same_yes _ _ _ _ _ ns8 ns9 (congrArg limbs (Nat.gcd_zero_right a))).mono ?_
  rintro e w9_11 ⟨rfl, hbs⟩
  have hb9_11 := hbs
  clear ns8
  clear ns9
  replace na := na.below hb9_11
  replace nb := nb.below hb9_11
  replace ns1 := ns1.below hb9_11
  replace HB := HB.trans (hb9_11.mono HB.size)
  clear hb9_11
  rcases Nat.eq_zero_or_pos (Nat.gcd a b) with h0 | h0
  · obtain ⟨ha0, hb0⟩ := Nat.gcd_eq_zero_iff.1 h0
    subst ha0
    subst hb0
    rw [Nat.gcd_zero_right] at ns1
    obtain ⟨Ac53, Cc53, rfl, _, _⟩ := ns1.arg.open_
    simp only [len_zero]
    clear ns1
    go_wp2_with fail
    refine (trim_num _ _ _ 0 na).mono ?_
    rintro e w53_1 ⟨vs, rfl, gs⟩
    have hb53_1 := gs.below
    have ns51 := gs.num (Nat.le_trans ka (by decide))
    clear na
    replace nb := nb.below hb53_1
    replace HB := HB.trans (hb53_1.mono HB.size)
    clear hb53_1
    clear gs
    obtain ⟨Ac54, Cc54, rfl, _, _⟩ := ns51.arg.open_
    simp only [len_zero]
    clear ns51
    go_wp2_with fail
    refine (trim_num _ _ _ 0 nb).mono ?_
    rintro e w54_2 ⟨vs, rfl, gs⟩
    have hb54_2 := gs.below
    have ns52 := gs.num (Nat.le_trans kb (by decide))
    clear nb
    replace HB := HB.trans (hb54_2.mono HB.size)
    clear hb54_2
    clear gs
    obtain ⟨Ac55, Cc55, rfl, _, _⟩ := ns52.arg.open_
    simp only [len_zero]
    clear ns52
    go_wp2_with fail
    go_ret
    exact ⟨rfl, HB⟩
  · have hl := len_limbs h0
    have e1 := Nat.mod_eq_zero_of_dvd (Nat.gcd_dvd_left a b)
    have e2 := Nat.mod_eq_zero_of_dvd (Nat.gcd_dvd_right a b)
    have e3 : Nat.gcd (a / Nat.gcd a b) (b / Nat.gcd a b) = 1 := Nat.coprime_div_gcd_div_gcd h0
    have hk := (sz_gcd_le ka kb)
    obtain ⟨g, hg⟩ : ∃ g, g = Nat.gcd a b := ⟨_, rfl⟩
    generalize Nat.gcd a b = g at ns1 h0 hl e1 e2 e3 hk
    have hl' := hl
    obtain ⟨Ag, Cg, eg, _, _⟩ := ns1.arg.open_
    subst eg
    go_wp2_with fail
    refine (div_any _ _ _ _ _ a g na ns1 h0).mono ?_
    rintro e w86_1 ⟨vq, vr, rfl, gq, gr, _⟩
    have hb86_1 := gr.below
    have nq81 := gq.num (Nat.le_trans (sz_div_le g ka) (by decide))
    have nr82 := gr.num (Nat.le_trans (sz_mod_le g ka) (by decide))
    clear na
    replace nb := nb.below hb86_1
    replace ns1 := ns1.below hb86_1
    replace HB := HB.trans (hb86_1.mono HB.size)
    clear hb86_1
    clear gq gr
    rw [e1] at nr82
    go_wp2_with fail
    refine (div_any _ _ _ _ _ b g nb ns1 h0).mono ?_
    rintro e w86_2 ⟨vq, vr, rfl, gq, gr, _⟩
    have hb86_2 := gr.below
    have nq83 := gq.num (Nat.le_trans (sz_div_le g kb) (by decide))
    have nr84 := gr.num (Nat.le_trans (sz_mod_le g kb) (by decide))
    clear nb
    clear ns1
    replace nq81 := nq81.below hb86_2
    replace nr82 := nr82.below hb86_2
    replace HB := HB.trans (hb86_2.mono HB.size)
    clear hb86_2
    clear gq gr
    rw [e2] at nr84
    obtain ⟨Ac87, Cc87, rfl, _, _⟩ := nr82.arg.open_
    simp only [len_zero]
    clear nr82
    obtain ⟨Ac88, Cc88, rfl, _, _⟩ := nr84.arg.open_
    simp only [len_zero]
    clear nr84
    go_wp2_with fail
    refine (gcd_any _ _ _ _ _ (a / g) (b / g) nq81 nq83).mono ?_
    rintro e w88_3 ⟨vs, rfl, gs⟩
    have hb88_3 := gs.below
    have ns85 := gs.num (Nat.le_trans (sz_gcd_le (sz_div_le g ka) (sz_div_le g kb)) (by decide))
    clear nq81
    clear nq83
    replace HB := HB.trans (hb88_3.mono HB.size)
    clear hb88_3
    clear gs
    have hb88_4 := (Below.refl (w88_3).heap.size (w88_3)).alloc (Nat.le_refl _) (.cells #[.int .u32 1] 39)
    have nt86 : Num ((w88_3).alloc (.cells #[.int .u32 1] 39)) (.slice (some ⟨w88_3.heap.size, 0, none⟩) 1 1) [1] 1 := lit_at _ _ rfl _ _ _ (by simp) rfl (by decide) (by decide) (by decide)
    replace ns85 := ns85.below hb88_4
    replace HB := HB.trans (hb88_4.mono HB.size)
    clear hb88_4
    go_wp2_with fail
    refine (same_yes _ _ _ _ _ ns85 nt86 ((congrArg limbs e3).trans (limbs_of (lim_of (by decide)) (by decide) (by decide)))).mono ?_
    rintro e w88_5 ⟨rfl, hbs⟩
    have hb88_5 := hbs
    clear ns85
    clear nt86
    replace HB := HB.trans (hb88_5.mono HB.size)
    clear hb88_5
    go_wp2_with fail
    go_ret
    exact ⟨rfl, HB⟩
end Go.Proofs.YtdmghakmhfhpiaaDoor
