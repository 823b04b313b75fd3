import Derived.Test.YtdmghakmhfhpiaaDoorTold
/- litmuslaw01.NatSmall returns true. -/
namespace Go.Proofs.YtdmghakmhfhpiaaDoor
open Go.RowKit Go.Num
attribute [local go_sem] Oper.semAt_some u64_mask
theorem over_two {a : Nat} (h : 18446744073709551616 ≤ a) : 2 < (limbs a).length := by
  refine Nat.lt_of_not_le fun hl => ?_
  have h2 := (limbs_length_le a 2).1 hl
  have h3 : 4294967296 ^ 2 = 18446744073709551616 := by decide
  omega
theorem wrap_over {n m : Nat} (hn : n < 18446744073709551616) (hm : m < 18446744073709551616) (h : 18446744073709551616 ≤ n + m) : decide ((n : Int) ≤ IntKind.u64.wrap ((n : Int) + m)) = false := by
  rw [decide_eq_false_iff_not]
  simp [IntKind.wrap, IntKind.signed, IntKind.bits]
  omega
set_option maxHeartbeats 4000000 in
set_option maxRecDepth 100000 in
theorem natSmall_any (w : World) (n m : Nat) (va : Value) (la : List Nat) (hn : n < 18446744073709551616) (hm : m < 18446744073709551616) (ha : Arg encU w va la) (hla : Lim la) (hna : la.length ≤ 9223372036854775807) :
    Calls Tryd.prog 8 #[.int .u64 n, .int .u64 m, va] w fun e w' => e = .returned (.bool true) ∧ Below w.heap.size w w' := by
  go_enter Tryd.func8, Tryd.ntmps8
  have HB : Below w.heap.size w w := Below.refl _ _
  go_wp2_with fail
  refine (works_any _).mono ?_
  rintro e w0 ⟨rfl, hq⟩
  replace ha := ha.below hq
  replace HB := HB.trans (hq.mono HB.size)
  clear hq
  go_wp2_with fail
  refine (few_any _ _ la 6 ha (by decide) hna).mono ?_
  rintro e w9 ⟨ua, rfl, hw9, ga⟩
  subst w9
  obtain ⟨a, xa, na, ka⟩ : ∃ y x, Num w0 ua x y ∧ sz y ≤ 6 := ⟨_, _, num_few ga hla (by decide), sz_few 6 hla⟩
  clear ga ha hla hna
  go_wp2_with fail
  refine (from_any _ n hn).mono ?_
  rintro e w4_1 ⟨vs, rfl, gs⟩
  have hb4_1 := gs.below
  have nf1 := gs.num (Nat.le_trans (sz_u64 hn) (by decide))
  replace na := na.below hb4_1
  replace HB := HB.trans (hb4_1.mono HB.size)
  clear hb4_1
  clear gs
  go_wp2_with fail
  refine (small_yes _ _ _ n nf1 hn).mono ?_
  rintro e w4_2 ⟨rfl, hbs⟩
  have hb4_2 := hbs
  clear nf1
  replace na := na.below hb4_2
  replace HB := HB.trans (hb4_2.mono HB.size)
  clear hb4_2
  go_wp2_with fail
  refine (from_any _ n hn).mono ?_
  rintro e w4_3 ⟨vs, rfl, gs⟩
  have hb4_3 := gs.below
  have nf2 := gs.num (Nat.le_trans (sz_u64 hn) (by decide))
  replace na := na.below hb4_3
  replace HB := HB.trans (hb4_3.mono HB.size)
  clear hb4_3
  clear gs
  go_wp2_with fail
  refine (from_any _ m hm).mono ?_
  rintro e w4_4 ⟨vs, rfl, gs⟩
  have hb4_4 := gs.below
  have nf3 := gs.num (Nat.le_trans (sz_u64 hm) (by decide))
  replace na := na.below hb4_4
  replace nf2 := nf2.below hb4_4
  replace HB := HB.trans (hb4_4.mono HB.size)
  clear hb4_4
  clear gs
  go_wp2_with fail
  refine (add_any _ _ _ _ _ n m nf2 nf3).mono ?_
  rintro e w4_5 ⟨vs, rfl, gs⟩
  have hb4_5 := gs.below
  have ns4 := gs.num (Nat.le_trans (sz_add_le (sz_u64 hn) (sz_u64 hm)) (by decide))
  clear nf2
  clear nf3
  replace na := na.below hb4_5
  replace HB := HB.trans (hb4_5.mono HB.size)
  clear hb4_5
  clear gs
  rcases Nat.lt_or_ge (n + m) 18446744073709551616 with h0 | h0
  · rcases Nat.lt_or_ge a 18446744073709551616 with h1 | h1
    · go_wp2_with fail
      refine (small_yes _ _ _ (n + m) ns4 h0).mono ?_
      rintro e w703_1 ⟨rfl, hbs⟩
      have hb703_1 := hbs
      clear ns4
      replace na := na.below hb703_1
      replace HB := HB.trans (hb703_1.mono HB.size)
      clear hb703_1
      go_wp2_with fail
      refine (small_yes _ _ _ a na h1).mono ?_
      rintro e w703_2 ⟨rfl, hbs⟩
      have hb703_2 := hbs
      replace na := na.below hb703_2
      replace HB := HB.trans (hb703_2.mono HB.size)
      clear hb703_2
      go_wp2_with fail
      refine (trim_num _ _ _ a na).mono ?_
      rintro e w703_3 ⟨vs, rfl, gs⟩
      have hb703_3 := gs.below
      have ns701 := gs.num (Nat.le_trans ka (by decide))
      replace na := na.below hb703_3
      replace HB := HB.trans (hb703_3.mono HB.size)
      clear hb703_3
      clear gs
      obtain ⟨k, hk, hk2⟩ : ∃ k, (limbs a).length = k ∧ k ≤ 2 := ⟨_, rfl, sz_u64 h1⟩
      obtain ⟨Ac704, Cc704, rfl, _, _⟩ := ns701.arg.open_
      simp only [hk]
      clear ns701
      clear hk
      go_wp2_with fail
      refine (from_any _ a h1).mono ?_
      rintro e w704_4 ⟨vs, rfl, gs⟩
      have hb704_4 := gs.below
      have nf702 := gs.num (Nat.le_trans (sz_u64 h1) (by decide))
      replace na := na.below hb704_4
      replace HB := HB.trans (hb704_4.mono HB.size)
      clear hb704_4
      clear gs
      go_wp2_with fail
      refine (trim_num _ _ _ a na).mono ?_
      rintro e w704_5 ⟨vs, rfl, gs⟩
      have hb704_5 := gs.below
      have ns703 := gs.num (Nat.le_trans ka (by decide))
      clear na
      replace nf702 := nf702.below hb704_5
      replace HB := HB.trans (hb704_5.mono HB.size)
      clear hb704_5
      clear gs
      go_wp2_with fail
      refine (same_yes _ _ _ _ _ nf702 ns703 rfl).mono ?_
      rintro e w704_6 ⟨rfl, hbs⟩
      have hb704_6 := hbs
      clear nf702
      clear ns703
      replace HB := HB.trans (hb704_6.mono HB.size)
      clear hb704_6
      go_wp2_with fail
      go_ret
      exact ⟨rfl, HB⟩
    · go_wp2_with fail
      refine (small_yes _ _ _ (n + m) ns4 h0).mono ?_
      rintro e w301_1 ⟨rfl, hbs⟩
      have hb301_1 := hbs
      clear ns4
      replace na := na.below hb301_1
      replace HB := HB.trans (hb301_1.mono HB.size)
      clear hb301_1
      go_wp2_with fail
      refine (small_no _ _ _ a na h1).mono ?_
      rintro e w301_2 ⟨rfl, hbs⟩
      have hb301_2 := hbs
      replace na := na.below hb301_2
      replace HB := HB.trans (hb301_2.mono HB.size)
      clear hb301_2
      go_wp2_with fail
      refine (trim_num _ _ _ a na).mono ?_
      rintro e w301_3 ⟨vs, rfl, gs⟩
      have hb301_3 := gs.below
      have ns301 := gs.num (Nat.le_trans ka (by decide))
      clear na
      replace HB := HB.trans (hb301_3.mono HB.size)
      clear hb301_3
      clear gs
      obtain ⟨k, hk, hk2⟩ : ∃ k, (limbs a).length = k ∧ 2 < k := ⟨_, rfl, over_two h1⟩
      obtain ⟨Ac302, Cc302, rfl, _, _⟩ := ns301.arg.open_
      simp only [hk]
      clear ns301
      clear hk
      go_wp2_with fail
      go_ret
      exact ⟨rfl, HB⟩
  · rcases Nat.lt_or_ge a 18446744073709551616 with h1 | h1
    · have hwr := wrap_over hn hm h0
      go_wp2_with fail
      refine (small_no _ _ _ (n + m) ns4 h0).mono ?_
      rintro e w503_1 ⟨rfl, hbs⟩
      have hb503_1 := hbs
      clear ns4
      replace na := na.below hb503_1
      replace HB := HB.trans (hb503_1.mono HB.size)
      clear hb503_1
      go_wp2_with fail
      refine (small_yes _ _ _ a na h1).mono ?_
      rintro e w503_2 ⟨rfl, hbs⟩
      have hb503_2 := hbs
      replace na := na.below hb503_2
      replace HB := HB.trans (hb503_2.mono HB.size)
      clear hb503_2
      go_wp2_with fail
      refine (trim_num _ _ _ a na).mono ?_
      rintro e w503_3 ⟨vs, rfl, gs⟩
      have hb503_3 := gs.below
      have ns501 := gs.num (Nat.le_trans ka (by decide))
      replace na := na.below hb503_3
      replace HB := HB.trans (hb503_3.mono HB.size)
      clear hb503_3
      clear gs
      obtain ⟨k, hk, hk2⟩ : ∃ k, (limbs a).length = k ∧ k ≤ 2 := ⟨_, rfl, sz_u64 h1⟩
      obtain ⟨Ac504, Cc504, rfl, _, _⟩ := ns501.arg.open_
      simp only [hk]
      clear ns501
      clear hk
      go_wp2_with fail
      refine (from_any _ a h1).mono ?_
      rintro e w504_4 ⟨vs, rfl, gs⟩
      have hb504_4 := gs.below
      have nf502 := gs.num (Nat.le_trans (sz_u64 h1) (by decide))
      replace na := na.below hb504_4
      replace HB := HB.trans (hb504_4.mono HB.size)
      clear hb504_4
      clear gs
      go_wp2_with fail
      refine (trim_num _ _ _ a na).mono ?_
      rintro e w504_5 ⟨vs, rfl, gs⟩
      have hb504_5 := gs.below
      have ns503 := gs.num (Nat.le_trans ka (by decide))
      clear na
      replace nf502 := nf502.below hb504_5
      replace HB := HB.trans (hb504_5.mono HB.size)
      clear hb504_5
      clear gs
      go_wp2_with fail
      refine (same_yes _ _ _ _ _ nf502 ns503 rfl).mono ?_
      rintro e w504_6 ⟨rfl, hbs⟩
      have hb504_6 := hbs
      clear nf502
      clear ns503
      replace HB := HB.trans (hb504_6.mono HB.size)
      clear hb504_6
      go_wp2_with fail
      go_ret
      exact ⟨rfl, HB⟩
    · have hwr := wrap_over hn hm h0
      go_wp2_with fail
      refine (small_no _ _ _ (n + m) ns4 h0).mono ?_
      rintro e w101_1 ⟨rfl, hbs⟩
      have hb101_1 := hbs
      clear ns4
      replace na := na.below hb101_1
      replace HB := HB.trans (hb101_1.mono HB.size)
      clear hb101_1
      go_wp2_with fail
      refine (small_no _ _ _ a na h1).mono ?_
      rintro e w101_2 ⟨rfl, hbs⟩
      have hb101_2 := hbs
      replace na := na.below hb101_2
      replace HB := HB.trans (hb101_2.mono HB.size)
      clear hb101_2
      go_wp2_with fail
      refine (trim_num _ _ _ a na).mono ?_
      rintro e w101_3 ⟨vs, rfl, gs⟩
      have hb101_3 := gs.below
      have ns101 := gs.num (Nat.le_trans ka (by decide))
      clear na
      replace HB := HB.trans (hb101_3.mono HB.size)
      clear hb101_3
      clear gs
      obtain ⟨k, hk, hk2⟩ : ∃ k, (limbs a).length = k ∧ 2 < k := ⟨_, rfl, over_two h1⟩
      obtain ⟨Ac102, Cc102, rfl, _, _⟩ := ns101.arg.open_
      simp only [hk]
      clear ns101
      clear hk
      go_wp2_with fail
      go_ret
      exact ⟨rfl, HB⟩
end Go.Proofs.YtdmghakmhfhpiaaDoor
