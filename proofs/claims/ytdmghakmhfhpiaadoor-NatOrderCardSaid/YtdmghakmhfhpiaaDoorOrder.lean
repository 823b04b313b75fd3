import Derived.Test.YtdmghakmhfhpiaaDoorTold
/- litmuslaw01.NatOrder returns true. -/
namespace Go.Proofs.YtdmghakmhfhpiaaDoor
open Go.RowKit Go.Num
attribute [local go_sem] Oper.semAt_some u64_mask

set_option maxHeartbeats 4000000 in
set_option maxRecDepth 100000 in
theorem natOrder_any (w : World) (va vb vc : Value) (la lb lc : List Nat) (ha : Arg encU w va la) (hla : Lim la) (hna : la.length ≤ 9223372036854775807) (hb : Arg encU w vb lb) (hlb : Lim lb) (hnb : lb.length ≤ 9223372036854775807) (hc : Arg encU w vc lc) (hlc : Lim lc) (hnc : lc.length ≤ 9223372036854775807) :
    Calls Tryd.prog 11 #[va, vb, vc] w fun e w' => e = .returned (.bool true) ∧ Below w.heap.size w w' := by
  go_enter Tryd.func11, Tryd.ntmps11
  have HB : Below w.heap.size w w := Below.refl _ _
  go_wp2_with fail
  refine (works_any _).mono ?_
  rintro e w0 ⟨rfl, hq⟩
  replace ha := ha.below hq
  replace hb := hb.below hq
  replace hc := hc.below hq
  replace HB := HB.trans (hq.mono HB.size)
  clear hq
  go_wp2_with fail
  refine (few_any _ _ la 20 ha (by decide) hna).mono ?_
  rintro e w9 ⟨ua, rfl, hw9, ga⟩
  subst w9
  obtain ⟨a, xa, na, ka⟩ : ∃ y x, Num w0 ua x y ∧ sz y ≤ 20 := ⟨_, _, num_few ga hla (by decide), sz_few 20 hla⟩
  clear ga ha hla hna
  go_wp2_with fail
  refine (few_any _ _ lb 20 hb (by decide) hnb).mono ?_
  rintro e w9 ⟨ub, rfl, hw9, gb⟩
  subst w9
  obtain ⟨b, xb, nb, kb⟩ : ∃ y x, Num w0 ub x y ∧ sz y ≤ 20 := ⟨_, _, num_few gb hlb (by decide), sz_few 20 hlb⟩
  clear gb hb hlb hnb
  go_wp2_with fail
  refine (few_any _ _ lc 20 hc (by decide) hnc).mono ?_
  rintro e w9 ⟨uc, rfl, hw9, gc⟩
  subst w9
  obtain ⟨c, xc, nc, kc⟩ : ∃ y x, Num w0 uc x y ∧ sz y ≤ 20 := ⟨_, _, num_few gc hlc (by decide), sz_few 20 hlc⟩
  clear gc hc hlc hnc
  rcases Nat.lt_trichotomy a b with h0 | h0 | h0
  · go_wp2_with fail
    refine (cmp_any _ _ _ _ _ a b na nb).mono ?_
    rintro e w4_1 ⟨rfl, hbs⟩
    have hb4_1 := hbs
    replace na := na.below hb4_1
    replace nb := nb.below hb4_1
    replace nc := nc.below hb4_1
    replace HB := HB.trans (hb4_1.mono HB.size)
    clear hb4_1
    rw [cmpN_lt h0]
    go_wp2_with fail
    refine (sub_no _ _ _ _ _ a b na nb h0).mono ?_
    rintro e w4_2 ⟨rfl, hbs⟩
    have hb4_2 := hbs
    replace na := na.below hb4_2
    replace nb := nb.below hb4_2
    replace nc := nc.below hb4_2
    replace HB := HB.trans (hb4_2.mono HB.size)
    clear hb4_2
    go_wp2_with fail
    refine (cmp_any _ _ _ _ _ b a nb na).mono ?_
    rintro e w4_3 ⟨rfl, hbs⟩
    have hb4_3 := hbs
    replace na := na.below hb4_3
    replace nb := nb.below hb4_3
    replace nc := nc.below hb4_3
    replace HB := HB.trans (hb4_3.mono HB.size)
    clear hb4_3
    rw [cmpN_gt (h0)]
    go_wp2_with fail
    refine (trim_num _ _ _ a na).mono ?_
    rintro e w4_4 ⟨vs, rfl, gs⟩
    have hb4_4 := gs.below
    have ns1 := gs.num (Nat.le_trans ka (by decide))
    replace na := na.below hb4_4
    replace nb := nb.below hb4_4
    replace nc := nc.below hb4_4
    replace HB := HB.trans (hb4_4.mono HB.size)
    clear hb4_4
    clear gs
    go_wp2_with fail
    refine (trim_num _ _ _ b nb).mono ?_
    rintro e w4_5 ⟨vs, rfl, gs⟩
    have hb4_5 := gs.below
    have ns2 := gs.num (Nat.le_trans kb (by decide))
    replace na := na.below hb4_5
    replace nb := nb.below hb4_5
    replace nc := nc.below hb4_5
    replace ns1 := ns1.below hb4_5
    replace HB := HB.trans (hb4_5.mono HB.size)
    clear hb4_5
    clear gs
    go_wp2_with fail
    refine (same_no _ _ _ _ _ ns1 ns2 (fun e => absurd (limbs_inj e) (by omega))).mono ?_
    rintro e w4_6 ⟨rfl, hbs⟩
    have hb4_6 := hbs
    clear ns1
    clear ns2
    replace na := na.below hb4_6
    replace nb := nb.below hb4_6
    replace nc := nc.below hb4_6
    replace HB := HB.trans (hb4_6.mono HB.size)
    clear hb4_6
    go_wp2_with fail
    refine (add_any _ _ _ _ _ a c na nc).mono ?_
    rintro e w4_7 ⟨vs, rfl, gs⟩
    have hb4_7 := gs.below
    have ns3 := gs.num (Nat.le_trans (sz_add_le ka kc) (by decide))
    replace na := na.below hb4_7
    replace nb := nb.below hb4_7
    replace nc := nc.below hb4_7
    replace HB := HB.trans (hb4_7.mono HB.size)
    clear hb4_7
    clear gs
    go_wp2_with fail
    refine (add_any _ _ _ _ _ b c nb nc).mono ?_
    rintro e w4_8 ⟨vs, rfl, gs⟩
    have hb4_8 := gs.below
    have ns4 := gs.num (Nat.le_trans (sz_add_le kb kc) (by decide))
    replace na := na.below hb4_8
    replace nb := nb.below hb4_8
    replace nc := nc.below hb4_8
    replace ns3 := ns3.below hb4_8
    replace HB := HB.trans (hb4_8.mono HB.size)
    clear hb4_8
    clear gs
    go_wp2_with fail
    refine (cmp_any _ _ _ _ _ (a + c) (b + c) ns3 ns4).mono ?_
    rintro e w4_9 ⟨rfl, hbs⟩
    have hb4_9 := hbs
    clear ns3
    clear ns4
    replace na := na.below hb4_9
    replace nb := nb.below hb4_9
    replace nc := nc.below hb4_9
    replace HB := HB.trans (hb4_9.mono HB.size)
    clear hb4_9
    rw [cmpN_lt (show a + c < b + c by omega)]
    rcases Nat.lt_trichotomy b c with h1 | h1 | h1
    · go_wp2_with fail
      refine (cmp_any _ _ _ _ _ b c nb nc).mono ?_
      rintro e w1004_1 ⟨rfl, hbs⟩
      have hb1004_1 := hbs
      clear nb
      replace na := na.below hb1004_1
      replace nc := nc.below hb1004_1
      replace HB := HB.trans (hb1004_1.mono HB.size)
      clear hb1004_1
      rw [cmpN_lt h1]
      go_wp2_with fail
      refine (cmp_any _ _ _ _ _ a c na nc).mono ?_
      rintro e w1004_2 ⟨rfl, hbs⟩
      have hb1004_2 := hbs
      clear na
      clear nc
      replace HB := HB.trans (hb1004_2.mono HB.size)
      clear hb1004_2
      rw [cmpN_lt (show a < c by omega)]
      go_wp2_with fail
      go_ret
      exact ⟨rfl, HB⟩
    · go_wp2_with fail
      refine (cmp_any _ _ _ _ _ b c nb nc).mono ?_
      rintro e w2004_1 ⟨rfl, hbs⟩
      have hb2004_1 := hbs
      clear nb
      replace na := na.below hb2004_1
      replace nc := nc.below hb2004_1
      replace HB := HB.trans (hb2004_1.mono HB.size)
      clear hb2004_1
      rw [cmpN_eq h1]
      go_wp2_with fail
      refine (cmp_any _ _ _ _ _ a c na nc).mono ?_
      rintro e w2004_2 ⟨rfl, hbs⟩
      have hb2004_2 := hbs
      clear na
      clear nc
      replace HB := HB.trans (hb2004_2.mono HB.size)
      clear hb2004_2
      rw [cmpN_lt (show a < c by omega)]
      go_wp2_with fail
      go_ret
      exact ⟨rfl, HB⟩
    · go_wp2_with fail
      refine (cmp_any _ _ _ _ _ b c nb nc).mono ?_
      rintro e w3004_1 ⟨rfl, hbs⟩
      have hb3004_1 := hbs
      clear na
      clear nb
      clear nc
      replace HB := HB.trans (hb3004_1.mono HB.size)
      clear hb3004_1
      rw [cmpN_gt h1]
      go_wp2_with fail
      go_ret
      exact ⟨rfl, HB⟩
  · go_wp2_with fail
    refine (cmp_any _ _ _ _ _ a b na nb).mono ?_
    rintro e w105_1 ⟨rfl, hbs⟩
    have hb105_1 := hbs
    replace na := na.below hb105_1
    replace nb := nb.below hb105_1
    replace nc := nc.below hb105_1
    replace HB := HB.trans (hb105_1.mono HB.size)
    clear hb105_1
    rw [cmpN_eq h0]
    go_wp2_with fail
    refine (sub_yes _ _ _ _ _ a b na nb (Nat.le_of_eq h0.symm)).mono ?_
    rintro e w105_2 ⟨vs, rfl, gs⟩
    have hb105_2 := gs.below
    have ns101 := gs.num (Nat.le_trans (sz_sub_le b ka) (by decide))
    replace na := na.below hb105_2
    replace nb := nb.below hb105_2
    replace nc := nc.below hb105_2
    replace HB := HB.trans (hb105_2.mono HB.size)
    clear hb105_2
    clear gs
    clear ns101
    go_wp2_with fail
    refine (cmp_any _ _ _ _ _ b a nb na).mono ?_
    rintro e w105_3 ⟨rfl, hbs⟩
    have hb105_3 := hbs
    replace na := na.below hb105_3
    replace nb := nb.below hb105_3
    replace nc := nc.below hb105_3
    replace HB := HB.trans (hb105_3.mono HB.size)
    clear hb105_3
    rw [cmpN_eq (h0.symm)]
    go_wp2_with fail
    refine (trim_num _ _ _ a na).mono ?_
    rintro e w105_4 ⟨vs, rfl, gs⟩
    have hb105_4 := gs.below
    have ns102 := gs.num (Nat.le_trans ka (by decide))
    replace na := na.below hb105_4
    replace nb := nb.below hb105_4
    replace nc := nc.below hb105_4
    replace HB := HB.trans (hb105_4.mono HB.size)
    clear hb105_4
    clear gs
    go_wp2_with fail
    refine (trim_num _ _ _ b nb).mono ?_
    rintro e w105_5 ⟨vs, rfl, gs⟩
    have hb105_5 := gs.below
    have ns103 := gs.num (Nat.le_trans kb (by decide))
    replace na := na.below hb105_5
    replace nb := nb.below hb105_5
    replace nc := nc.below hb105_5
    replace ns102 := ns102.below hb105_5
    replace HB := HB.trans (hb105_5.mono HB.size)
    clear hb105_5
    clear gs
    go_wp2_with fail
    refine (same_yes _ _ _ _ _ ns102 ns103 (congrArg limbs h0)).mono ?_
    rintro e w105_6 ⟨rfl, hbs⟩
    have hb105_6 := hbs
    clear ns102
    clear ns103
    replace na := na.below hb105_6
    replace nb := nb.below hb105_6
    replace nc := nc.below hb105_6
    replace HB := HB.trans (hb105_6.mono HB.size)
    clear hb105_6
    go_wp2_with fail
    refine (add_any _ _ _ _ _ a c na nc).mono ?_
    rintro e w105_7 ⟨vs, rfl, gs⟩
    have hb105_7 := gs.below
    have ns104 := gs.num (Nat.le_trans (sz_add_le ka kc) (by decide))
    replace na := na.below hb105_7
    replace nb := nb.below hb105_7
    replace nc := nc.below hb105_7
    replace HB := HB.trans (hb105_7.mono HB.size)
    clear hb105_7
    clear gs
    go_wp2_with fail
    refine (add_any _ _ _ _ _ b c nb nc).mono ?_
    rintro e w105_8 ⟨vs, rfl, gs⟩
    have hb105_8 := gs.below
    have ns105 := gs.num (Nat.le_trans (sz_add_le kb kc) (by decide))
    replace na := na.below hb105_8
    replace nb := nb.below hb105_8
    replace nc := nc.below hb105_8
    replace ns104 := ns104.below hb105_8
    replace HB := HB.trans (hb105_8.mono HB.size)
    clear hb105_8
    clear gs
    go_wp2_with fail
    refine (cmp_any _ _ _ _ _ (a + c) (b + c) ns104 ns105).mono ?_
    rintro e w105_9 ⟨rfl, hbs⟩
    have hb105_9 := hbs
    clear ns104
    clear ns105
    replace na := na.below hb105_9
    replace nb := nb.below hb105_9
    replace nc := nc.below hb105_9
    replace HB := HB.trans (hb105_9.mono HB.size)
    clear hb105_9
    rw [cmpN_eq (show a + c = b + c by omega)]
    rcases Nat.lt_trichotomy b c with h1 | h1 | h1
    · go_wp2_with fail
      refine (cmp_any _ _ _ _ _ b c nb nc).mono ?_
      rintro e w1105_1 ⟨rfl, hbs⟩
      have hb1105_1 := hbs
      clear nb
      replace na := na.below hb1105_1
      replace nc := nc.below hb1105_1
      replace HB := HB.trans (hb1105_1.mono HB.size)
      clear hb1105_1
      rw [cmpN_lt h1]
      go_wp2_with fail
      refine (cmp_any _ _ _ _ _ a c na nc).mono ?_
      rintro e w1105_2 ⟨rfl, hbs⟩
      have hb1105_2 := hbs
      clear na
      clear nc
      replace HB := HB.trans (hb1105_2.mono HB.size)
      clear hb1105_2
      rw [cmpN_lt (show a < c by omega)]
      go_wp2_with fail
      go_ret
      exact ⟨rfl, HB⟩
    · go_wp2_with fail
      refine (cmp_any _ _ _ _ _ b c nb nc).mono ?_
      rintro e w2105_1 ⟨rfl, hbs⟩
      have hb2105_1 := hbs
      clear nb
      replace na := na.below hb2105_1
      replace nc := nc.below hb2105_1
      replace HB := HB.trans (hb2105_1.mono HB.size)
      clear hb2105_1
      rw [cmpN_eq h1]
      go_wp2_with fail
      refine (cmp_any _ _ _ _ _ a c na nc).mono ?_
      rintro e w2105_2 ⟨rfl, hbs⟩
      have hb2105_2 := hbs
      clear na
      clear nc
      replace HB := HB.trans (hb2105_2.mono HB.size)
      clear hb2105_2
      rw [cmpN_eq (h0.trans h1)]
      go_wp2_with fail
      go_ret
      exact ⟨rfl, HB⟩
    · go_wp2_with fail
      refine (cmp_any _ _ _ _ _ b c nb nc).mono ?_
      rintro e w3105_1 ⟨rfl, hbs⟩
      have hb3105_1 := hbs
      clear na
      clear nb
      clear nc
      replace HB := HB.trans (hb3105_1.mono HB.size)
      clear hb3105_1
      rw [cmpN_gt h1]
      go_wp2_with fail
      go_ret
      exact ⟨rfl, HB⟩
  · go_wp2_with fail
    refine (cmp_any _ _ _ _ _ a b na nb).mono ?_
    rintro e w205_1 ⟨rfl, hbs⟩
    have hb205_1 := hbs
    replace na := na.below hb205_1
    replace nb := nb.below hb205_1
    replace nc := nc.below hb205_1
    replace HB := HB.trans (hb205_1.mono HB.size)
    clear hb205_1
    rw [cmpN_gt h0]
    go_wp2_with fail
    refine (sub_yes _ _ _ _ _ a b na nb (Nat.le_of_lt h0)).mono ?_
    rintro e w205_2 ⟨vs, rfl, gs⟩
    have hb205_2 := gs.below
    have ns201 := gs.num (Nat.le_trans (sz_sub_le b ka) (by decide))
    replace na := na.below hb205_2
    replace nb := nb.below hb205_2
    replace nc := nc.below hb205_2
    replace HB := HB.trans (hb205_2.mono HB.size)
    clear hb205_2
    clear gs
    clear ns201
    go_wp2_with fail
    refine (cmp_any _ _ _ _ _ b a nb na).mono ?_
    rintro e w205_3 ⟨rfl, hbs⟩
    have hb205_3 := hbs
    replace na := na.below hb205_3
    replace nb := nb.below hb205_3
    replace nc := nc.below hb205_3
    replace HB := HB.trans (hb205_3.mono HB.size)
    clear hb205_3
    rw [cmpN_lt (h0)]
    go_wp2_with fail
    refine (trim_num _ _ _ a na).mono ?_
    rintro e w205_4 ⟨vs, rfl, gs⟩
    have hb205_4 := gs.below
    have ns202 := gs.num (Nat.le_trans ka (by decide))
    replace na := na.below hb205_4
    replace nb := nb.below hb205_4
    replace nc := nc.below hb205_4
    replace HB := HB.trans (hb205_4.mono HB.size)
    clear hb205_4
    clear gs
    go_wp2_with fail
    refine (trim_num _ _ _ b nb).mono ?_
    rintro e w205_5 ⟨vs, rfl, gs⟩
    have hb205_5 := gs.below
    have ns203 := gs.num (Nat.le_trans kb (by decide))
    replace na := na.below hb205_5
    replace nb := nb.below hb205_5
    replace nc := nc.below hb205_5
    replace ns202 := ns202.below hb205_5
    replace HB := HB.trans (hb205_5.mono HB.size)
    clear hb205_5
    clear gs
    go_wp2_with fail
    refine (same_no _ _ _ _ _ ns202 ns203 (fun e => absurd (limbs_inj e) (by omega))).mono ?_
    rintro e w205_6 ⟨rfl, hbs⟩
    have hb205_6 := hbs
    clear ns202
    clear ns203
    replace na := na.below hb205_6
    replace nb := nb.below hb205_6
    replace nc := nc.below hb205_6
    replace HB := HB.trans (hb205_6.mono HB.size)
    clear hb205_6
    go_wp2_with fail
    refine (add_any _ _ _ _ _ a c na nc).mono ?_
    rintro e w205_7 ⟨vs, rfl, gs⟩
    have hb205_7 := gs.below
    have ns204 := gs.num (Nat.le_trans (sz_add_le ka kc) (by decide))
    clear na
    replace nb := nb.below hb205_7
    replace nc := nc.below hb205_7
    replace HB := HB.trans (hb205_7.mono HB.size)
    clear hb205_7
    clear gs
    go_wp2_with fail
    refine (add_any _ _ _ _ _ b c nb nc).mono ?_
    rintro e w205_8 ⟨vs, rfl, gs⟩
    have hb205_8 := gs.below
    have ns205 := gs.num (Nat.le_trans (sz_add_le kb kc) (by decide))
    clear nb
    clear nc
    replace ns204 := ns204.below hb205_8
    replace HB := HB.trans (hb205_8.mono HB.size)
    clear hb205_8
    clear gs
    go_wp2_with fail
    refine (cmp_any _ _ _ _ _ (a + c) (b + c) ns204 ns205).mono ?_
    rintro e w205_9 ⟨rfl, hbs⟩
    have hb205_9 := hbs
    clear ns204
    clear ns205
    replace HB := HB.trans (hb205_9.mono HB.size)
    clear hb205_9
    rw [cmpN_gt (show b + c < a + c by omega)]
    go_wp2_with fail
    go_ret
    exact ⟨rfl, HB⟩
end Go.Proofs.YtdmghakmhfhpiaaDoor
