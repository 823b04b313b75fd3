import Derived.Test.YtdmghakmhfhpiaaDoorTold
/- litmuslaw01.NatRing returns true. -/
namespace Go.Proofs.YtdmghakmhfhpiaaDoor
open Go.RowKit Go.Num
attribute [local go_sem] Oper.semAt_some u64_mask

set_option maxHeartbeats 4000000 in
set_option maxRecDepth 100000 in
theorem natRing_any (w : World) (va vb vc : Value) (la lb lc : List Nat) (ha : Arg encU w va la) (hla : Lim la) (hna : la.length ≤ 9223372036854775807) (hb : Arg encU w vb lb) (hlb : Lim lb) (hnb : lb.length ≤ 9223372036854775807) (hc : Arg encU w vc lc) (hlc : Lim lc) (hnc : lc.length ≤ 9223372036854775807) :
    Calls Tryd.prog 10 #[va, vb, vc] w fun e w' => e = .returned (.bool true) ∧ Below w.heap.size w w' := by
  go_enter Tryd.func10, Tryd.ntmps10
  have HB : Below w.heap.size w w := Below.refl _ _
  go_wp2_with fail
  refine (works_any _).mono ?_
  rintro e w0 ⟨rfl, hq⟩
  replace ha := ha.below hq
  replace hb := hb.below hq
  replace hc := hc.below hq
  replace HB := HB.trans (hq.mono HB.size)
  clear hq
  go_wp2_with fail
  refine (few_any _ _ la 20 ha (by decide) hna).mono ?_
  rintro e w9 ⟨ua, rfl, hw9, ga⟩
  subst w9
  obtain ⟨a, xa, na, ka⟩ : ∃ y x, Num w0 ua x y ∧ sz y ≤ 20 := ⟨_, _, num_few ga hla (by decide), sz_few 20 hla⟩
  clear ga ha hla hna
  go_wp2_with fail
  refine (few_any _ _ lb 20 hb (by decide) hnb).mono ?_
  rintro e w9 ⟨ub, rfl, hw9, gb⟩
  subst w9
  obtain ⟨b, xb, nb, kb⟩ : ∃ y x, Num w0 ub x y ∧ sz y ≤ 20 := ⟨_, _, num_few gb hlb (by decide), sz_few 20 hlb⟩
  clear gb hb hlb hnb
  go_wp2_with fail
  refine (few_any _ _ lc 20 hc (by decide) hnc).mono ?_
  rintro e w9 ⟨uc, rfl, hw9, gc⟩
  subst w9
  obtain ⟨c, xc, nc, kc⟩ : ∃ y x, Num w0 uc x y ∧ sz y ≤ 20 := ⟨_, _, num_few gc hlc (by decide), sz_few 20 hlc⟩
  clear gc hc hlc hnc
  go_wp2_with fail
  refine (add_any _ _ _ _ _ a b na nb).mono ?_
  rintro e w28_1 ⟨vs, rfl, gs⟩
  have hb28_1 := gs.below
  have ns1 := gs.num (Nat.le_trans (sz_add_le ka kb) (by decide))
  replace na := na.below hb28_1
  replace nb := nb.below hb28_1
  replace nc := nc.below hb28_1
  replace HB := HB.trans (hb28_1.mono HB.size)
  clear hb28_1
  clear gs
  go_wp2_with fail
  refine (sub_yes _ _ _ _ _ (a + b) b ns1 nb (Nat.le_add_left b a)).mono ?_
  rintro e w28_2 ⟨vs, rfl, gs⟩
  have hb28_2 := gs.below
  have ns2 := gs.num (Nat.le_trans (sz_sub_le b (sz_add_le ka kb)) (by decide))
  clear ns1
  replace na := na.below hb28_2
  replace nb := nb.below hb28_2
  replace nc := nc.below hb28_2
  replace HB := HB.trans (hb28_2.mono HB.size)
  clear hb28_2
  clear gs
  go_wp2_with fail
  refine (trim_num _ _ _ a na).mono ?_
  rintro e w28_3 ⟨vs, rfl, gs⟩
  have hb28_3 := gs.below
  have ns3 := gs.num (Nat.le_trans ka (by decide))
  replace na := na.below hb28_3
  replace nb := nb.below hb28_3
  replace nc := nc.below hb28_3
  replace ns2 := ns2.below hb28_3
  replace HB := HB.trans (hb28_3.mono HB.size)
  clear hb28_3
  clear gs
  go_wp2_with fail
  refine (same_yes _ _ _ _ _ ns2 ns3 (congrArg limbs (Nat.add_sub_cancel a b))).mono ?_
  rintro e w28_4 ⟨rfl, hbs⟩
  have hb28_4 := hbs
  clear ns2
  clear ns3
  replace na := na.below hb28_4
  replace nb := nb.below hb28_4
  replace nc := nc.below hb28_4
  replace HB := HB.trans (hb28_4.mono HB.size)
  clear hb28_4
  go_wp2_with fail
  refine (add_any _ _ _ _ _ a b na nb).mono ?_
  rintro e w28_5 ⟨vs, rfl, gs⟩
  have hb28_5 := gs.below
  have ns4 := gs.num (Nat.le_trans (sz_add_le ka kb) (by decide))
  replace na := na.below hb28_5
  replace nb := nb.below hb28_5
  replace nc := nc.below hb28_5
  replace HB := HB.trans (hb28_5.mono HB.size)
  clear hb28_5
  clear gs
  go_wp2_with fail
  refine (add_any _ _ _ _ _ b a nb na).mono ?_
  rintro e w28_6 ⟨vs, rfl, gs⟩
  have hb28_6 := gs.below
  have ns5 := gs.num (Nat.le_trans (sz_add_le kb ka) (by decide))
  replace na := na.below hb28_6
  replace nb := nb.below hb28_6
  replace nc := nc.below hb28_6
  replace ns4 := ns4.below hb28_6
  replace HB := HB.trans (hb28_6.mono HB.size)
  clear hb28_6
  clear gs
  go_wp2_with fail
  refine (same_yes _ _ _ _ _ ns4 ns5 (congrArg limbs (Nat.add_comm a b))).mono ?_
  rintro e w28_7 ⟨rfl, hbs⟩
  have hb28_7 := hbs
  clear ns4
  clear ns5
  replace na := na.below hb28_7
  replace nb := nb.below hb28_7
  replace nc := nc.below hb28_7
  replace HB := HB.trans (hb28_7.mono HB.size)
  clear hb28_7
  go_wp2_with fail
  refine (mul_any _ _ _ _ _ a b na nb).mono ?_
  rintro e w28_8 ⟨vs, rfl, gs⟩
  have hb28_8 := gs.below
  have ns6 := gs.num (Nat.le_trans (sz_mul_le ka kb) (by decide))
  replace na := na.below hb28_8
  replace nb := nb.below hb28_8
  replace nc := nc.below hb28_8
  replace HB := HB.trans (hb28_8.mono HB.size)
  clear hb28_8
  clear gs
  go_wp2_with fail
  refine (mul_any _ _ _ _ _ b a nb na).mono ?_
  rintro e w28_9 ⟨vs, rfl, gs⟩
  have hb28_9 := gs.below
  have ns7 := gs.num (Nat.le_trans (sz_mul_le kb ka) (by decide))
  replace na := na.below hb28_9
  replace nb := nb.below hb28_9
  replace nc := nc.below hb28_9
  replace ns6 := ns6.below hb28_9
  replace HB := HB.trans (hb28_9.mono HB.size)
  clear hb28_9
  clear gs
  go_wp2_with fail
  refine (same_yes _ _ _ _ _ ns6 ns7 (congrArg limbs (Nat.mul_comm a b))).mono ?_
  rintro e w28_10 ⟨rfl, hbs⟩
  have hb28_10 := hbs
  clear ns6
  clear ns7
  replace na := na.below hb28_10
  replace nb := nb.below hb28_10
  replace nc := nc.below hb28_10
  replace HB := HB.trans (hb28_10.mono HB.size)
  clear hb28_10
  go_wp2_with fail
  refine (add_any _ _ _ _ _ a b na nb).mono ?_
  rintro e w28_11 ⟨vs, rfl, gs⟩
  have hb28_11 := gs.below
  have ns8 := gs.num (Nat.le_trans (sz_add_le ka kb) (by decide))
  replace na := na.below hb28_11
  replace nb := nb.below hb28_11
  replace nc := nc.below hb28_11
  replace HB := HB.trans (hb28_11.mono HB.size)
  clear hb28_11
  clear gs
  go_wp2_with fail
  refine (add_any _ _ _ _ _ (a + b) c ns8 nc).mono ?_
  rintro e w28_12 ⟨vs, rfl, gs⟩
  have hb28_12 := gs.below
  have ns9 := gs.num (Nat.le_trans (sz_add_le (sz_add_le ka kb) kc) (by decide))
  clear ns8
  replace na := na.below hb28_12
  replace nb := nb.below hb28_12
  replace nc := nc.below hb28_12
  replace HB := HB.trans (hb28_12.mono HB.size)
  clear hb28_12
  clear gs
  go_wp2_with fail
  refine (add_any _ _ _ _ _ b c nb nc).mono ?_
  rintro e w28_13 ⟨vs, rfl, gs⟩
  have hb28_13 := gs.below
  have ns10 := gs.num (Nat.le_trans (sz_add_le kb kc) (by decide))
  replace na := na.below hb28_13
  replace nb := nb.below hb28_13
  replace nc := nc.below hb28_13
  replace ns9 := ns9.below hb28_13
  replace HB := HB.trans (hb28_13.mono HB.size)
  clear hb28_13
  clear gs
  go_wp2_with fail
  refine (add_any _ _ _ _ _ a (b + c) na ns10).mono ?_
  rintro e w28_14 ⟨vs, rfl, gs⟩
  have hb28_14 := gs.below
  have ns11 := gs.num (Nat.le_trans (sz_add_le ka (sz_add_le kb kc)) (by decide))
  clear ns10
  replace na := na.below hb28_14
  replace nb := nb.below hb28_14
  replace nc := nc.below hb28_14
  replace ns9 := ns9.below hb28_14
  replace HB := HB.trans (hb28_14.mono HB.size)
  clear hb28_14
  clear gs
  go_wp2_with fail
  refine (same_yes _ _ _ _ _ ns9 ns11 (congrArg limbs (Nat.add_assoc a b c))).mono ?_
  rintro e w28_15 ⟨rfl, hbs⟩
  have hb28_15 := hbs
  clear ns9
  clear ns11
  replace na := na.below hb28_15
  replace nb := nb.below hb28_15
  replace nc := nc.below hb28_15
  replace HB := HB.trans (hb28_15.mono HB.size)
  clear hb28_15
  go_wp2_with fail
  refine (mul_any _ _ _ _ _ a b na nb).mono ?_
  rintro e w28_16 ⟨vs, rfl, gs⟩
  have hb28_16 := gs.below
  have ns12 := gs.num (Nat.le_trans (sz_mul_le ka kb) (by decide))
  replace na := na.below hb28_16
  replace nb := nb.below hb28_16
  replace nc := nc.below hb28_16
  replace HB := HB.trans (hb28_16.mono HB.size)
  clear hb28_16
  clear gs
  go_wp2_with fail
  refine (mul_any _ _ _ _ _ (a * b) c ns12 nc).mono ?_
  rintro e w28_17 ⟨vs, rfl, gs⟩
  have hb28_17 := gs.below
  have ns13 := gs.num (Nat.le_trans (sz_mul_le (sz_mul_le ka kb) kc) (by decide))
  clear ns12
  replace na := na.below hb28_17
  replace nb := nb.below hb28_17
  replace nc := nc.below hb28_17
  replace HB := HB.trans (hb28_17.mono HB.size)
  clear hb28_17
  clear gs
  go_wp2_with fail
  refine (mul_any _ _ _ _ _ b c nb nc).mono ?_
  rintro e w28_18 ⟨vs, rfl, gs⟩
  have hb28_18 := gs.below
  have ns14 := gs.num (Nat.le_trans (sz_mul_le kb kc) (by decide))
  replace na := na.below hb28_18
  replace nb := nb.below hb28_18
  replace nc := nc.below hb28_18
  replace ns13 := ns13.below hb28_18
  replace HB := HB.trans (hb28_18.mono HB.size)
  clear hb28_18
  clear gs
  go_wp2_with fail
  refine (mul_any _ _ _ _ _ a (b * c) na ns14).mono ?_
  rintro e w28_19 ⟨vs, rfl, gs⟩
  have hb28_19 := gs.below
  have ns15 := gs.num (Nat.le_trans (sz_mul_le ka (sz_mul_le kb kc)) (by decide))
  clear ns14
  replace na := na.below hb28_19
  replace nb := nb.below hb28_19
  replace nc := nc.below hb28_19
  replace ns13 := ns13.below hb28_19
  replace HB := HB.trans (hb28_19.mono HB.size)
  clear hb28_19
  clear gs
  go_wp2_with fail
  refine (same_yes _ _ _ _ _ ns13 ns15 (congrArg limbs (Nat.mul_assoc a b c))).mono ?_
  rintro e w28_20 ⟨rfl, hbs⟩
  have hb28_20 := hbs
  clear ns13
  clear ns15
  replace na := na.below hb28_20
  replace nb := nb.below hb28_20
  replace nc := nc.below hb28_20
  replace HB := HB.trans (hb28_20.mono HB.size)
  clear hb28_20
  go_wp2_with fail
  refine (add_any _ _ _ _ _ b c nb nc).mono ?_
  rintro e w28_21 ⟨vs, rfl, gs⟩
  have hb28_21 := gs.below
  have ns16 := gs.num (Nat.le_trans (sz_add_le kb kc) (by decide))
  replace na := na.below hb28_21
  replace nb := nb.below hb28_21
  replace nc := nc.below hb28_21
  replace HB := HB.trans (hb28_21.mono HB.size)
  clear hb28_21
  clear gs
  go_wp2_with fail
  refine (mul_any _ _ _ _ _ a (b + c) na ns16).mono ?_
  rintro e w28_22 ⟨vs, rfl, gs⟩
  have hb28_22 := gs.below
  have ns17 := gs.num (Nat.le_trans (sz_mul_le ka (sz_add_le kb kc)) (by decide))
  clear ns16
  replace na := na.below hb28_22
  replace nb := nb.below hb28_22
  replace nc := nc.below hb28_22
  replace HB := HB.trans (hb28_22.mono HB.size)
  clear hb28_22
  clear gs
  go_wp2_with fail
  refine (mul_any _ _ _ _ _ a b na nb).mono ?_
  rintro e w28_23 ⟨vs, rfl, gs⟩
  have hb28_23 := gs.below
  have ns18 := gs.num (Nat.le_trans (sz_mul_le ka kb) (by decide))
  clear nb
  replace na := na.below hb28_23
  replace nc := nc.below hb28_23
  replace ns17 := ns17.below hb28_23
  replace HB := HB.trans (hb28_23.mono HB.size)
  clear hb28_23
  clear gs
  go_wp2_with fail
  refine (mul_any _ _ _ _ _ a c na nc).mono ?_
  rintro e w28_24 ⟨vs, rfl, gs⟩
  have hb28_24 := gs.below
  have ns19 := gs.num (Nat.le_trans (sz_mul_le ka kc) (by decide))
  clear nc
  replace na := na.below hb28_24
  replace ns17 := ns17.below hb28_24
  replace ns18 := ns18.below hb28_24
  replace HB := HB.trans (hb28_24.mono HB.size)
  clear hb28_24
  clear gs
  go_wp2_with fail
  refine (add_any _ _ _ _ _ (a * b) (a * c) ns18 ns19).mono ?_
  rintro e w28_25 ⟨vs, rfl, gs⟩
  have hb28_25 := gs.below
  have ns20 := gs.num (Nat.le_trans (sz_add_le (sz_mul_le ka kb) (sz_mul_le ka kc)) (by decide))
  clear ns18
  clear ns19
  replace na := na.below hb28_25
  replace ns17 := ns17.below hb28_25
  replace HB := HB.trans (hb28_25.mono HB.size)
  clear hb28_25
  clear gs
  go_wp2_with fail
  refine (same_yes _ _ _ _ _ ns17 ns20 (congrArg limbs (Nat.mul_add a b c))).mono ?_
  rintro e w28_26 ⟨rfl, hbs⟩
  have hb28_26 := hbs
  clear ns17
  clear ns20
  replace na := na.below hb28_26
  replace HB := HB.trans (hb28_26.mono HB.size)
  clear hb28_26
  go_wp2_with fail
  refine (add_any _ _ _ _ _ a 0 na (num_nil _ _)).mono ?_
  rintro e w28_27 ⟨vs, rfl, gs⟩
  have hb28_27 := gs.below
  have ns22 := gs.num (Nat.le_trans (sz_add_le ka sz_nil) (by decide))
  replace na := na.below hb28_27
  replace HB := HB.trans (hb28_27.mono HB.size)
  clear hb28_27
  clear gs
  go_wp2_with fail
  refine (trim_num _ _ _ a na).mono ?_
  rintro e w28_28 ⟨vs, rfl, gs⟩
  have hb28_28 := gs.below
  have ns23 := gs.num (Nat.le_trans ka (by decide))
  replace na := na.below hb28_28
  replace ns22 := ns22.below hb28_28
  replace HB := HB.trans (hb28_28.mono HB.size)
  clear hb28_28
  clear gs
  go_wp2_with fail
  refine (same_yes _ _ _ _ _ ns22 ns23 (congrArg limbs (Nat.add_zero a))).mono ?_
  rintro e w28_29 ⟨rfl, hbs⟩
  have hb28_29 := hbs
  clear ns22
  clear ns23
  replace na := na.below hb28_29
  replace HB := HB.trans (hb28_29.mono HB.size)
  clear hb28_29
  have hb28_30 := (Below.refl (w28_29).heap.size (w28_29)).alloc (Nat.le_refl _) (.cells #[.int .u32 1, .int .u32 0] 39)
  have nt24 : Num ((w28_29).alloc (.cells #[.int .u32 1, .int .u32 0] 39)) (.slice (some ⟨w28_29.heap.size, 0, none⟩) 2 2) [1, 0] 1 := lit_at _ _ rfl _ _ _ (by simp) rfl (by decide) (by decide) (by decide)
  replace na := na.below hb28_30
  replace HB := HB.trans (hb28_30.mono HB.size)
  clear hb28_30
  go_wp2_with fail
  refine (mul_any _ _ _ _ _ a 1 na nt24).mono ?_
  rintro e w28_31 ⟨vs, rfl, gs⟩
  have hb28_31 := gs.below
  have ns25 := gs.num (Nat.le_trans (sz_mul_le ka (sz_lit [1, 0] (by decide) (by decide))) (by decide))
  clear nt24
  replace na := na.below hb28_31
  replace HB := HB.trans (hb28_31.mono HB.size)
  clear hb28_31
  clear gs
  go_wp2_with fail
  refine (trim_num _ _ _ a na).mono ?_
  rintro e w28_32 ⟨vs, rfl, gs⟩
  have hb28_32 := gs.below
  have ns26 := gs.num (Nat.le_trans ka (by decide))
  replace na := na.below hb28_32
  replace ns25 := ns25.below hb28_32
  replace HB := HB.trans (hb28_32.mono HB.size)
  clear hb28_32
  clear gs
  go_wp2_with fail
  refine (same_yes _ _ _ _ _ ns25 ns26 (congrArg limbs (Nat.mul_one a))).mono ?_
  rintro e w28_33 ⟨rfl, hbs⟩
  have hb28_33 := hbs
  clear ns25
  clear ns26
  replace na := na.below hb28_33
  replace HB := HB.trans (hb28_33.mono HB.size)
  clear hb28_33
  have hb28_34 := (Below.refl (w28_33).heap.size (w28_33)).alloc (Nat.le_refl _) (.cells #[.int .u32 0] 39)
  have nt27 : Num ((w28_33).alloc (.cells #[.int .u32 0] 39)) (.slice (some ⟨w28_33.heap.size, 0, none⟩) 1 1) [0] 0 := lit_at _ _ rfl _ _ _ (by simp) rfl (by decide) (by decide) (by decide)
  replace na := na.below hb28_34
  replace HB := HB.trans (hb28_34.mono HB.size)
  clear hb28_34
  go_wp2_with fail
  refine (mul_any _ _ _ _ _ a 0 na nt27).mono ?_
  rintro e w28_35 ⟨vs, rfl, gs⟩
  have hb28_35 := gs.below
  have ns28 := gs.num (Nat.le_trans (sz_mul_le ka (sz_lit [0] (by decide) (by decide))) (by decide))
  clear na
  clear nt27
  replace HB := HB.trans (hb28_35.mono HB.size)
  clear hb28_35
  clear gs
  obtain ⟨Ac29, Cc29, rfl, _, _⟩ := ns28.arg.open_
  simp only [Nat.mul_zero, len_zero]
  clear ns28
  go_wp2_with fail
  go_ret
  exact ⟨rfl, HB⟩
end Go.Proofs.YtdmghakmhfhpiaaDoor
