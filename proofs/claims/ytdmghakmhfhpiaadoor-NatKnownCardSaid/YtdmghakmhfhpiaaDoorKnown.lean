import Derived.Test.YtdmghakmhfhpiaaDoorTold
/- litmuslaw01.NatKnown returns true. -/
namespace Go.Proofs.YtdmghakmhfhpiaaDoor
open Go.RowKit Go.Num
attribute [local go_sem] Oper.semAt_some u64_mask

theorem dec_c : dec 1000000000 = [49, 48, 48, 48, 48, 48, 48, 48, 48, 48] := by simp [dec, decs, vdig_pos, vdig_zero, Num.byteOf]
theorem dec_d : dec 18446744073709551615 = [49, 56, 52, 52, 54, 55, 52, 52, 48, 55, 51, 55, 48, 57, 53, 53, 49, 54, 49, 53] := by simp [dec, decs, vdig_pos, vdig_zero, Num.byteOf]
set_option maxHeartbeats 16000000 in
set_option maxRecDepth 100000 in
theorem natKnown_any (w : World) :
    Calls Tryd.prog 13 #[] w fun e w' => e = .returned (.bool true) ∧ Below w.heap.size w w' := by
  go_enter Tryd.func13, Tryd.ntmps13
  have HB : Below w.heap.size w w := Below.refl _ _
  have hb29_1 := (Below.refl (w).heap.size (w)).alloc (Nat.le_refl _) (.cells #[.int .u32 0, .int .u32 0, .int .u32 2147483648] 39)
  have nt1 : Num ((w).alloc (.cells #[.int .u32 0, .int .u32 0, .int .u32 2147483648] 39)) (.slice (some ⟨w.heap.size, 0, none⟩) 3 3) [0, 0, 2147483648] 39614081257132168796771975168 := lit_at _ _ rfl _ _ _ (by simp) rfl (by decide) (by decide) (by decide)
  replace HB := HB.trans (hb29_1.mono HB.size)
  clear hb29_1
  have hb29_2 := (Below.refl ((w).alloc (.cells #[.int .u32 0, .int .u32 0, .int .u32 2147483648] 39)).heap.size ((w).alloc (.cells #[.int .u32 0, .int .u32 0, .int .u32 2147483648] 39))).alloc (Nat.le_refl _) (.cells #[.int .u32 4294967295, .int .u32 2147483648] 39)
  have nt2 : Num (((w).alloc (.cells #[.int .u32 0, .int .u32 0, .int .u32 2147483648] 39)).alloc (.cells #[.int .u32 4294967295, .int .u32 2147483648] 39)) (.slice (some ⟨w.heap.size + 1, 0, none⟩) 2 2) [4294967295, 2147483648] 9223372041149743103 := lit_at _ _ (by simp only [size_alloc]) _ _ _ (by simp) rfl (by decide) (by decide) (by decide)
  replace nt1 := nt1.below hb29_2
  replace HB := HB.trans (hb29_2.mono HB.size)
  clear hb29_2
  go_wp2_with fail
  refine (div_any _ _ _ _ _ 39614081257132168796771975168 9223372041149743103 nt1 nt2 (by decide)).mono ?_
  rintro e w29_3 ⟨vq, vr, rfl, gq, gr, _⟩
  have hb29_3 := gr.below
  have nq3 := gq.num (Nat.le_trans (sz_div_le 9223372041149743103 (sz_lit [0, 0, 2147483648] (by decide) (by decide))) (by decide))
  have nr4 := gr.num (Nat.le_trans (sz_mod_le 9223372041149743103 (sz_lit [0, 0, 2147483648] (by decide) (by decide))) (by decide))
  clear nt1
  clear nt2
  replace HB := HB.trans (hb29_3.mono HB.size)
  clear hb29_3
  clear gq gr
  have hb29_4 := (Below.refl (w29_3).heap.size (w29_3)).alloc (Nat.le_refl _) (.cells #[.int .u32 4294967294] 39)
  have nt5 : Num ((w29_3).alloc (.cells #[.int .u32 4294967294] 39)) (.slice (some ⟨w29_3.heap.size, 0, none⟩) 1 1) [4294967294] 4294967294 := lit_at _ _ rfl _ _ _ (by simp) rfl (by decide) (by decide) (by decide)
  replace nq3 := nq3.below hb29_4
  replace nr4 := nr4.below hb29_4
  replace HB := HB.trans (hb29_4.mono HB.size)
  clear hb29_4
  go_wp2_with fail
  refine (same_yes _ _ _ _ _ nq3 nt5 ((limbs_of (lim_of (by decide)) (by decide) (by decide)))).mono ?_
  rintro e w29_5 ⟨rfl, hbs⟩
  have hb29_5 := hbs
  clear nq3
  clear nt5
  replace nr4 := nr4.below hb29_5
  replace HB := HB.trans (hb29_5.mono HB.size)
  clear hb29_5
  have hb29_6 := (Below.refl (w29_5).heap.size (w29_5)).alloc (Nat.le_refl _) (.cells #[.int .u32 4294967294, .int .u32 2] 39)
  have nt6 : Num ((w29_5).alloc (.cells #[.int .u32 4294967294, .int .u32 2] 39)) (.slice (some ⟨w29_5.heap.size, 0, none⟩) 2 2) [4294967294, 2] 12884901886 := lit_at _ _ rfl _ _ _ (by simp) rfl (by decide) (by decide) (by decide)
  replace nr4 := nr4.below hb29_6
  replace HB := HB.trans (hb29_6.mono HB.size)
  clear hb29_6
  go_wp2_with fail
  refine (same_yes _ _ _ _ _ nr4 nt6 ((limbs_of (lim_of (by decide)) (by decide) (by decide)))).mono ?_
  rintro e w29_7 ⟨rfl, hbs⟩
  have hb29_7 := hbs
  clear nr4
  clear nt6
  replace HB := HB.trans (hb29_7.mono HB.size)
  clear hb29_7
  have hb29_8 := (Below.refl (w29_7).heap.size (w29_7)).alloc (Nat.le_refl _) (.cells #[.int .u32 0, .int .u32 4294967294, .int .u32 2147483648] 39)
  have nt7 : Num ((w29_7).alloc (.cells #[.int .u32 0, .int .u32 4294967294, .int .u32 2147483648] 39)) (.slice (some ⟨w29_7.heap.size, 0, none⟩) 3 3) [0, 4294967294, 2147483648] 39614081275578912861891592192 := lit_at _ _ rfl _ _ _ (by simp) rfl (by decide) (by decide) (by decide)
  replace HB := HB.trans (hb29_8.mono HB.size)
  clear hb29_8
  have hb29_9 := (Below.refl ((w29_7).alloc (.cells #[.int .u32 0, .int .u32 4294967294, .int .u32 2147483648] 39)).heap.size ((w29_7).alloc (.cells #[.int .u32 0, .int .u32 4294967294, .int .u32 2147483648] 39))).alloc (Nat.le_refl _) (.cells #[.int .u32 65535, .int .u32 2147483648] 39)
  have nt8 : Num (((w29_7).alloc (.cells #[.int .u32 0, .int .u32 4294967294, .int .u32 2147483648] 39)).alloc (.cells #[.int .u32 65535, .int .u32 2147483648] 39)) (.slice (some ⟨w29_7.heap.size + 1, 0, none⟩) 2 2) [65535, 2147483648] 9223372036854841343 := lit_at _ _ (by simp only [size_alloc]) _ _ _ (by simp) rfl (by decide) (by decide) (by decide)
  replace nt7 := nt7.below hb29_9
  replace HB := HB.trans (hb29_9.mono HB.size)
  clear hb29_9
  go_wp2_with fail
  refine (div_any _ _ _ _ _ 39614081275578912861891592192 9223372036854841343 nt7 nt8 (by decide)).mono ?_
  rintro e w29_10 ⟨vq, vr, rfl, gq, gr, _⟩
  have hb29_10 := gr.below
  have nq9 := gq.num (Nat.le_trans (sz_div_le 9223372036854841343 (sz_lit [0, 4294967294, 2147483648] (by decide) (by decide))) (by decide))
  have nr10 := gr.num (Nat.le_trans (sz_mod_le 9223372036854841343 (sz_lit [0, 4294967294, 2147483648] (by decide) (by decide))) (by decide))
  clear nt7
  clear nt8
  replace HB := HB.trans (hb29_10.mono HB.size)
  clear hb29_10
  clear gq gr
  have hb29_11 := (Below.refl (w29_10).heap.size (w29_10)).alloc (Nat.le_refl _) (.cells #[.int .u32 65535, .int .u32 2147483648] 39)
  have nt11 : Num ((w29_10).alloc (.cells #[.int .u32 65535, .int .u32 2147483648] 39)) (.slice (some ⟨w29_10.heap.size, 0, none⟩) 2 2) [65535, 2147483648] 9223372036854841343 := lit_at _ _ rfl _ _ _ (by simp) rfl (by decide) (by decide) (by decide)
  replace nq9 := nq9.below hb29_11
  replace nr10 := nr10.below hb29_11
  replace HB := HB.trans (hb29_11.mono HB.size)
  clear hb29_11
  go_wp2_with fail
  refine (mul_any _ _ _ _ _ (39614081275578912861891592192 / 9223372036854841343) 9223372036854841343 nq9 nt11).mono ?_
  rintro e w29_12 ⟨vs, rfl, gs⟩
  have hb29_12 := gs.below
  have ns12 := gs.num (Nat.le_trans (sz_mul_le (sz_div_le 9223372036854841343 (sz_lit [0, 4294967294, 2147483648] (by decide) (by decide))) (sz_lit [65535, 2147483648] (by decide) (by decide))) (by decide))
  clear nq9
  clear nt11
  replace nr10 := nr10.below hb29_12
  replace HB := HB.trans (hb29_12.mono HB.size)
  clear hb29_12
  clear gs
  go_wp2_with fail
  refine (add_any _ _ _ _ _ ((39614081275578912861891592192 / 9223372036854841343) * 9223372036854841343) (39614081275578912861891592192 % 9223372036854841343) ns12 nr10).mono ?_
  rintro e w29_13 ⟨vs, rfl, gs⟩
  have hb29_13 := gs.below
  have ns13 := gs.num (Nat.le_trans (sz_add_le (sz_mul_le (sz_div_le 9223372036854841343 (sz_lit [0, 4294967294, 2147483648] (by decide) (by decide))) (sz_lit [65535, 2147483648] (by decide) (by decide))) (sz_mod_le 9223372036854841343 (sz_lit [0, 4294967294, 2147483648] (by decide) (by decide)))) (by decide))
  clear ns12
  replace nr10 := nr10.below hb29_13
  replace HB := HB.trans (hb29_13.mono HB.size)
  clear hb29_13
  clear gs
  have hb29_14 := (Below.refl (w29_13).heap.size (w29_13)).alloc (Nat.le_refl _) (.cells #[.int .u32 0, .int .u32 4294967294, .int .u32 2147483648] 39)
  have nt14 : Num ((w29_13).alloc (.cells #[.int .u32 0, .int .u32 4294967294, .int .u32 2147483648] 39)) (.slice (some ⟨w29_13.heap.size, 0, none⟩) 3 3) [0, 4294967294, 2147483648] 39614081275578912861891592192 := lit_at _ _ rfl _ _ _ (by simp) rfl (by decide) (by decide) (by decide)
  replace nr10 := nr10.below hb29_14
  replace ns13 := ns13.below hb29_14
  replace HB := HB.trans (hb29_14.mono HB.size)
  clear hb29_14
  go_wp2_with fail
  refine (same_yes _ _ _ _ _ ns13 nt14 ((limbs_of (lim_of (by decide)) (by decide) (by decide)))).mono ?_
  rintro e w29_15 ⟨rfl, hbs⟩
  have hb29_15 := hbs
  clear ns13
  clear nt14
  replace nr10 := nr10.below hb29_15
  replace HB := HB.trans (hb29_15.mono HB.size)
  clear hb29_15
  have hb29_16 := (Below.refl (w29_15).heap.size (w29_15)).alloc (Nat.le_refl _) (.cells #[.int .u32 65535, .int .u32 2147483648] 39)
  have nt15 : Num ((w29_15).alloc (.cells #[.int .u32 65535, .int .u32 2147483648] 39)) (.slice (some ⟨w29_15.heap.size, 0, none⟩) 2 2) [65535, 2147483648] 9223372036854841343 := lit_at _ _ rfl _ _ _ (by simp) rfl (by decide) (by decide) (by decide)
  replace nr10 := nr10.below hb29_16
  replace HB := HB.trans (hb29_16.mono HB.size)
  clear hb29_16
  go_wp2_with fail
  refine (cmp_any _ _ _ _ _ (39614081275578912861891592192 % 9223372036854841343) 9223372036854841343 nr10 nt15).mono ?_
  rintro e w29_17 ⟨rfl, hbs⟩
  have hb29_17 := hbs
  clear nr10
  clear nt15
  replace HB := HB.trans (hb29_17.mono HB.size)
  clear hb29_17
  rw [(cmpN_lt (by decide))]
  have hb29_18 := (Below.refl (w29_17).heap.size (w29_17)).alloc (Nat.le_refl _) (.cells #[.int .u32 5] 39)
  have nt16 : Num ((w29_17).alloc (.cells #[.int .u32 5] 39)) (.slice (some ⟨w29_17.heap.size, 0, none⟩) 1 1) [5] 5 := lit_at _ _ rfl _ _ _ (by simp) rfl (by decide) (by decide) (by decide)
  replace HB := HB.trans (hb29_18.mono HB.size)
  clear hb29_18
  have hb29_19 := (Below.refl ((w29_17).alloc (.cells #[.int .u32 5] 39)).heap.size ((w29_17).alloc (.cells #[.int .u32 5] 39))).alloc (Nat.le_refl _) (.cells #[.int .u32 0, .int .u32 0] 39)
  have nt17 : Num (((w29_17).alloc (.cells #[.int .u32 5] 39)).alloc (.cells #[.int .u32 0, .int .u32 0] 39)) (.slice (some ⟨w29_17.heap.size + 1, 0, none⟩) 2 2) [0, 0] 0 := lit_at _ _ (by simp only [size_alloc]) _ _ _ (by simp) rfl (by decide) (by decide) (by decide)
  replace nt16 := nt16.below hb29_19
  replace HB := HB.trans (hb29_19.mono HB.size)
  clear hb29_19
  go_wp2_with fail
  refine (div_zero _ _ _ _ _ 5 nt16 nt17).mono ?_
  rintro e w29_20 ⟨rfl, hbs⟩
  have hb29_20 := hbs
  clear nt16
  clear nt17
  replace HB := HB.trans (hb29_20.mono HB.size)
  clear hb29_20
  have hb29_21 := (Below.refl (w29_20).heap.size (w29_20)).alloc (Nat.le_refl _) (.cells #[.int .u32 4, .int .u32 1] 39)
  have nt18 : Num ((w29_20).alloc (.cells #[.int .u32 4, .int .u32 1] 39)) (.slice (some ⟨w29_20.heap.size, 0, none⟩) 2 2) [4, 1] 4294967300 := lit_at _ _ rfl _ _ _ (by simp) rfl (by decide) (by decide) (by decide)
  replace HB := HB.trans (hb29_21.mono HB.size)
  clear hb29_21
  have hb29_22 := (Below.refl ((w29_20).alloc (.cells #[.int .u32 4, .int .u32 1] 39)).heap.size ((w29_20).alloc (.cells #[.int .u32 4, .int .u32 1] 39))).alloc (Nat.le_refl _) (.cells #[.int .u32 5, .int .u32 1] 39)
  have nt19 : Num (((w29_20).alloc (.cells #[.int .u32 4, .int .u32 1] 39)).alloc (.cells #[.int .u32 5, .int .u32 1] 39)) (.slice (some ⟨w29_20.heap.size + 1, 0, none⟩) 2 2) [5, 1] 4294967301 := lit_at _ _ (by simp only [size_alloc]) _ _ _ (by simp) rfl (by decide) (by decide) (by decide)
  replace nt18 := nt18.below hb29_22
  replace HB := HB.trans (hb29_22.mono HB.size)
  clear hb29_22
  go_wp2_with fail
  refine (sub_no _ _ _ _ _ 4294967300 4294967301 nt18 nt19 (by decide)).mono ?_
  rintro e w29_23 ⟨rfl, hbs⟩
  have hb29_23 := hbs
  clear nt18
  clear nt19
  replace HB := HB.trans (hb29_23.mono HB.size)
  clear hb29_23
  have hb29_24 := (Below.refl (w29_23).heap.size (w29_23)).alloc (Nat.le_refl _) (.cells #[.int .u32 0, .int .u32 0, .int .u32 1] 39)
  have nt20 : Num ((w29_23).alloc (.cells #[.int .u32 0, .int .u32 0, .int .u32 1] 39)) (.slice (some ⟨w29_23.heap.size, 0, none⟩) 3 3) [0, 0, 1] 18446744073709551616 := lit_at _ _ rfl _ _ _ (by simp) rfl (by decide) (by decide) (by decide)
  replace HB := HB.trans (hb29_24.mono HB.size)
  clear hb29_24
  have hb29_25 := (Below.refl ((w29_23).alloc (.cells #[.int .u32 0, .int .u32 0, .int .u32 1] 39)).heap.size ((w29_23).alloc (.cells #[.int .u32 0, .int .u32 0, .int .u32 1] 39))).alloc (Nat.le_refl _) (.cells #[.int .u32 1] 39)
  have nt21 : Num (((w29_23).alloc (.cells #[.int .u32 0, .int .u32 0, .int .u32 1] 39)).alloc (.cells #[.int .u32 1] 39)) (.slice (some ⟨w29_23.heap.size + 1, 0, none⟩) 1 1) [1] 1 := lit_at _ _ (by simp only [size_alloc]) _ _ _ (by simp) rfl (by decide) (by decide) (by decide)
  replace nt20 := nt20.below hb29_25
  replace HB := HB.trans (hb29_25.mono HB.size)
  clear hb29_25
  go_wp2_with fail
  refine (sub_yes _ _ _ _ _ 18446744073709551616 1 nt20 nt21 (by decide)).mono ?_
  rintro e w29_26 ⟨vs, rfl, gs⟩
  have hb29_26 := gs.below
  have ns22 := gs.num (Nat.le_trans (sz_sub_le 1 (sz_lit [0, 0, 1] (by decide) (by decide))) (by decide))
  clear nt20
  clear nt21
  replace HB := HB.trans (hb29_26.mono HB.size)
  clear hb29_26
  clear gs
  have hb29_27 := (Below.refl (w29_26).heap.size (w29_26)).alloc (Nat.le_refl _) (.cells #[.int .u32 4294967295, .int .u32 4294967295, .int .u32 0] 39)
  have nt23 : Num ((w29_26).alloc (.cells #[.int .u32 4294967295, .int .u32 4294967295, .int .u32 0] 39)) (.slice (some ⟨w29_26.heap.size, 0, none⟩) 3 3) [4294967295, 4294967295, 0] 18446744073709551615 := lit_at _ _ rfl _ _ _ (by simp) rfl (by decide) (by decide) (by decide)
  replace ns22 := ns22.below hb29_27
  replace HB := HB.trans (hb29_27.mono HB.size)
  clear hb29_27
  go_wp2_with fail
  refine (small_yes _ _ _ 18446744073709551615 nt23 (by decide)).mono ?_
  rintro e w29_28 ⟨rfl, hbs⟩
  have hb29_28 := hbs
  clear nt23
  replace ns22 := ns22.below hb29_28
  replace HB := HB.trans (hb29_28.mono HB.size)
  clear hb29_28
  have hb29_29 := (Below.refl (w29_28).heap.size (w29_28)).alloc (Nat.le_refl _) (.cells #[.int .u32 0, .int .u32 0, .int .u32 1] 39)
  have nt24 : Num ((w29_28).alloc (.cells #[.int .u32 0, .int .u32 0, .int .u32 1] 39)) (.slice (some ⟨w29_28.heap.size, 0, none⟩) 3 3) [0, 0, 1] 18446744073709551616 := lit_at _ _ rfl _ _ _ (by simp) rfl (by decide) (by decide) (by decide)
  replace ns22 := ns22.below hb29_29
  replace HB := HB.trans (hb29_29.mono HB.size)
  clear hb29_29
  go_wp2_with fail
  refine (small_no _ _ _ 18446744073709551616 nt24 (by decide)).mono ?_
  rintro e w29_30 ⟨rfl, hbs⟩
  have hb29_30 := hbs
  clear nt24
  replace ns22 := ns22.below hb29_30
  replace HB := HB.trans (hb29_30.mono HB.size)
  clear hb29_30
  go_wp2_with fail
  refine (parse_no _ [] (by decide) (by decide)).mono ?_
  rintro e w29_31 ⟨rfl, hbs⟩
  have hb29_31 := hbs
  replace ns22 := ns22.below hb29_31
  replace HB := HB.trans (hb29_31.mono HB.size)
  clear hb29_31
  go_wp2_with fail
  refine (parse_no _ [45, 49] (by decide) (by decide)).mono ?_
  rintro e w29_32 ⟨rfl, hbs⟩
  have hb29_32 := hbs
  replace ns22 := ns22.below hb29_32
  replace HB := HB.trans (hb29_32.mono HB.size)
  clear hb29_32
  go_wp2_with fail
  refine (parse_no _ [48, 48] (by decide) (by decide)).mono ?_
  rintro e w29_33 ⟨rfl, hbs⟩
  have hb29_33 := hbs
  replace ns22 := ns22.below hb29_33
  replace HB := HB.trans (hb29_33.mono HB.size)
  clear hb29_33
  go_wp2_with fail
  refine (parse_yes _ [48] (by decide) (by decide)).mono ?_
  rintro e w29_34 ⟨vs, rfl, gs⟩
  have hb29_34 := gs.below
  rw [show tval 0 [48] = 0 from by decide] at gs
  have nd := gs.num (Nat.le_trans sz_nil (by decide))
  replace ns22 := ns22.below hb29_34
  replace HB := HB.trans (hb29_34.mono HB.size)
  clear hb29_34
  clear gs
  go_wp2_with fail
  refine (works_any _).mono ?_
  rintro e w29_35 ⟨rfl, hbs⟩
  have hb29_35 := hbs
  replace ns22 := ns22.below hb29_35
  replace nd := nd.below hb29_35
  replace HB := HB.trans (hb29_35.mono HB.size)
  clear hb29_35
  have hb29_36 := (Below.refl (w29_35).heap.size (w29_35)).alloc (Nat.le_refl _) (.cells #[.int .u32 4294967295, .int .u32 4294967295] 39)
  have nt25 : Num ((w29_35).alloc (.cells #[.int .u32 4294967295, .int .u32 4294967295] 39)) (.slice (some ⟨w29_35.heap.size, 0, none⟩) 2 2) [4294967295, 4294967295] 18446744073709551615 := lit_at _ _ rfl _ _ _ (by simp) rfl (by decide) (by decide) (by decide)
  replace ns22 := ns22.below hb29_36
  replace nd := nd.below hb29_36
  replace HB := HB.trans (hb29_36.mono HB.size)
  clear hb29_36
  go_wp2_with fail
  refine (same_yes _ _ _ _ _ ns22 nt25 ((limbs_of (lim_of (by decide)) (by decide) (by decide)))).mono ?_
  rintro e w29_37 ⟨rfl, hbs⟩
  have hb29_37 := hbs
  clear ns22
  clear nt25
  replace nd := nd.below hb29_37
  replace HB := HB.trans (hb29_37.mono HB.size)
  clear hb29_37
  obtain ⟨Ac30, Cc30, rfl, _, _⟩ := nd.arg.open_
  simp only [len_zero]
  clear nd
  have hb30_38 := (Below.refl (w29_37).heap.size (w29_37)).alloc (Nat.le_refl _) (.cells #[.int .u32 1000000000, .int .u32 0] 39)
  have nt26 : Num ((w29_37).alloc (.cells #[.int .u32 1000000000, .int .u32 0] 39)) (.slice (some ⟨w29_37.heap.size, 0, none⟩) 2 2) [1000000000, 0] 1000000000 := lit_at _ _ rfl _ _ _ (by simp) rfl (by decide) (by decide) (by decide)
  replace HB := HB.trans (hb30_38.mono HB.size)
  clear hb30_38
  go_wp2_with fail
  refine (text_any _ _ _ 1000000000 nt26).mono ?_
  rintro e w30_39 ⟨rfl, hbs⟩
  have hb30_39 := hbs
  clear nt26
  replace HB := HB.trans (hb30_39.mono HB.size)
  clear hb30_39
  rw [dec_c]
  have hb30_40 := (Below.refl (w30_39).heap.size (w30_39)).alloc (Nat.le_refl _) (.cells #[.int .u32 4294967295, .int .u32 4294967295] 39)
  have nt27 : Num ((w30_39).alloc (.cells #[.int .u32 4294967295, .int .u32 4294967295] 39)) (.slice (some ⟨w30_39.heap.size, 0, none⟩) 2 2) [4294967295, 4294967295] 18446744073709551615 := lit_at _ _ rfl _ _ _ (by simp) rfl (by decide) (by decide) (by decide)
  replace HB := HB.trans (hb30_40.mono HB.size)
  clear hb30_40
  go_wp2_with fail
  refine (text_any _ _ _ 18446744073709551615 nt27).mono ?_
  rintro e w30_41 ⟨rfl, hbs⟩
  have hb30_41 := hbs
  clear nt27
  replace HB := HB.trans (hb30_41.mono HB.size)
  clear hb30_41
  rw [dec_d]
  go_wp2_with fail
  refine (from_any _ 0 (by decide)).mono ?_
  rintro e w30_42 ⟨vs, rfl, gs⟩
  have hb30_42 := gs.below
  have nz9 := gs.num (Nat.le_trans sz_nil (by decide))
  replace HB := HB.trans (hb30_42.mono HB.size)
  clear hb30_42
  clear gs
  obtain ⟨Ac31, Cc31, rfl, _, _⟩ := nz9.arg.open_
  simp only [len_zero]
  clear nz9
  have hb31_43 := (Below.refl (w30_42).heap.size (w30_42)).alloc (Nat.le_refl _) (.cells #[.int .u32 1, .int .u32 0] 39)
  have nt28 : Num ((w30_42).alloc (.cells #[.int .u32 1, .int .u32 0] 39)) (.slice (some ⟨w30_42.heap.size, 0, none⟩) 2 2) [1, 0] 1 := lit_at _ _ rfl _ _ _ (by simp) rfl (by decide) (by decide) (by decide)
  replace HB := HB.trans (hb31_43.mono HB.size)
  clear hb31_43
  have hb31_44 := (Below.refl ((w30_42).alloc (.cells #[.int .u32 1, .int .u32 0] 39)).heap.size ((w30_42).alloc (.cells #[.int .u32 1, .int .u32 0] 39))).alloc (Nat.le_refl _) (.cells #[.int .u32 1] 39)
  have nt29 : Num (((w30_42).alloc (.cells #[.int .u32 1, .int .u32 0] 39)).alloc (.cells #[.int .u32 1] 39)) (.slice (some ⟨w30_42.heap.size + 1, 0, none⟩) 1 1) [1] 1 := lit_at _ _ (by simp only [size_alloc]) _ _ _ (by simp) rfl (by decide) (by decide) (by decide)
  replace nt28 := nt28.below hb31_44
  replace HB := HB.trans (hb31_44.mono HB.size)
  clear hb31_44
  go_wp2_with fail
  refine (cmp_any _ _ _ _ _ 1 1 nt28 nt29).mono ?_
  rintro e w31_45 ⟨rfl, hbs⟩
  have hb31_45 := hbs
  clear nt28
  clear nt29
  replace HB := HB.trans (hb31_45.mono HB.size)
  clear hb31_45
  rw [cmpN_eq rfl]
  go_wp2_with fail
  go_ret
  exact ⟨rfl, HB⟩
end Go.Proofs.YtdmghakmhfhpiaaDoor
