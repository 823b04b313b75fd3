import Derived.Test.YtdmghakmhfhpiaaDoorTold
/- litmuslaw01.NatDivides returns true. -/
namespace Go.Proofs.YtdmghakmhfhpiaaDoor
open Go.RowKit Go.Num
attribute [local go_sem] Oper.semAt_some u64_mask
theorem div_back {x b r : Nat} (hb : 0 < b) (h : r < b) : (x * b + r) / b = x := by rw [Nat.mul_comm, Nat.mul_add_div hb, Nat.div_eq_of_lt h]; rfl
theorem mod_back {x b r : Nat} (h : r < b) : (x * b + r) % b = r := by rw [Nat.mul_comm, Nat.mul_add_mod, Nat.mod_eq_of_lt h]
set_option maxHeartbeats 4000000 in
set_option maxRecDepth 100000 in
theorem natDivides_any (w : World) (va vb vc : Value) (la lb lc : List Nat) (ha : Arg encU w va la) (hla : Lim la) (hna : la.length ≤ 9223372036854775807) (hb : Arg encU w vb lb) (hlb : Lim lb) (hnb : lb.length ≤ 9223372036854775807) (hc : Arg encU w vc lc) (hlc : Lim lc) (hnc : lc.length ≤ 9223372036854775807) :
    Calls Tryd.prog 5 #[va, vb, vc] w fun e w' => e = .returned (.bool true) ∧ Below w.heap.size w w' := by
  go_enter Tryd.func5, Tryd.ntmps5
  have HB : Below w.heap.size w w := Below.refl _ _
  go_wp2_with fail
  refine (works_any _).mono ?_
  rintro e w0 ⟨rfl, hq⟩
  replace ha := ha.below hq
  replace hb := hb.below hq
  replace hc := hc.below hq
  replace HB := HB.trans (hq.mono HB.size)
  clear hq
  go_wp2_with fail
  refine (few_any _ _ la 40 ha (by decide) hna).mono ?_
  rintro e w9 ⟨ua, rfl, hw9, ga⟩
  subst w9
  obtain ⟨a, xa, na, ka⟩ : ∃ y x, Num w0 ua x y ∧ sz y ≤ 40 := ⟨_, _, num_few ga hla (by decide), sz_few 40 hla⟩
  clear ga ha hla hna
  go_wp2_with fail
  refine (few_any _ _ lb 40 hb (by decide) hnb).mono ?_
  rintro e w9 ⟨ub, rfl, hw9, gb⟩
  subst w9
  obtain ⟨b, xb, nb, kb⟩ : ∃ y x, Num w0 ub x y ∧ sz y ≤ 40 := ⟨_, _, num_few gb hlb (by decide), sz_few 40 hlb⟩
  clear gb hb hlb hnb
  go_wp2_with fail
  refine (few_any _ _ lc 40 hc (by decide) hnc).mono ?_
  rintro e w9 ⟨uc, rfl, hw9, gc⟩
  subst w9
  obtain ⟨c, xc, nc, kc⟩ : ∃ y x, Num w0 uc x y ∧ sz y ≤ 40 := ⟨_, _, num_few gc hlc (by decide), sz_few 40 hlc⟩
  clear gc hc hlc hnc
  rcases Nat.eq_zero_or_pos b with h0 | h0
  · subst h0
    go_wp2_with fail
    refine (div_zero _ _ _ _ _ a na nb).mono ?_
    rintro e w1_1 ⟨rfl, hbs⟩
    have hb1_1 := hbs
    clear na
    clear nc
    replace nb := nb.below hb1_1
    replace HB := HB.trans (hb1_1.mono HB.size)
    clear hb1_1
    go_wp2_with fail
    refine (trim_num _ _ _ 0 nb).mono ?_
    rintro e w1_2 ⟨vs, rfl, gs⟩
    have hb1_2 := gs.below
    have ns1 := gs.num (Nat.le_trans kb (by decide))
    clear nb
    replace HB := HB.trans (hb1_2.mono HB.size)
    clear hb1_2
    clear gs
    obtain ⟨Ac2, Cc2, rfl, _, _⟩ := ns1.arg.open_
    simp only [len_zero]
    clear ns1
    go_wp2_with fail
    go_ret
    exact ⟨rfl, HB⟩
  · go_wp2_with fail
    refine (div_any _ _ _ _ _ a b na nb h0).mono ?_
    rintro e w63_1 ⟨vq, vr, rfl, gq, gr, _⟩
    have hb63_1 := gr.below
    have nq51 := gq.num (Nat.le_trans (sz_div_le b ka) (by decide))
    have nr52 := gr.num (Nat.le_trans (sz_mod_le b ka) (by decide))
    replace na := na.below hb63_1
    replace nb := nb.below hb63_1
    replace nc := nc.below hb63_1
    replace HB := HB.trans (hb63_1.mono HB.size)
    clear hb63_1
    clear gq gr
    go_wp2_with fail
    refine (trim_num _ _ _ b nb).mono ?_
    rintro e w63_2 ⟨vs, rfl, gs⟩
    have hb63_2 := gs.below
    have ns53 := gs.num (Nat.le_trans kb (by decide))
    replace na := na.below hb63_2
    replace nb := nb.below hb63_2
    replace nc := nc.below hb63_2
    replace nq51 := nq51.below hb63_2
    replace nr52 := nr52.below hb63_2
    replace HB := HB.trans (hb63_2.mono HB.size)
    clear hb63_2
    clear gs
    have hl := len_limbs h0
    obtain ⟨Ac64, Cc64, rfl, _, _⟩ := ns53.arg.open_
    clear ns53
    go_wp2_with fail
    refine (cmp_any _ _ _ _ _ (a % b) b nr52 nb).mono ?_
    rintro e w64_3 ⟨rfl, hbs⟩
    have hb64_3 := hbs
    replace na := na.below hb64_3
    replace nb := nb.below hb64_3
    replace nc := nc.below hb64_3
    replace nq51 := nq51.below hb64_3
    replace nr52 := nr52.below hb64_3
    replace HB := HB.trans (hb64_3.mono HB.size)
    clear hb64_3
    rw [cmpN_lt (Nat.mod_lt a h0)]
    go_wp2_with fail
    refine (mul_any _ _ _ _ _ (a / b) b nq51 nb).mono ?_
    rintro e w64_4 ⟨vs, rfl, gs⟩
    have hb64_4 := gs.below
    have ns54 := gs.num (Nat.le_trans (sz_mul_le (sz_div_le b ka) kb) (by decide))
    clear nq51
    replace na := na.below hb64_4
    replace nb := nb.below hb64_4
    replace nc := nc.below hb64_4
    replace nr52 := nr52.below hb64_4
    replace HB := HB.trans (hb64_4.mono HB.size)
    clear hb64_4
    clear gs
    go_wp2_with fail
    refine (add_any _ _ _ _ _ ((a / b) * b) (a % b) ns54 nr52).mono ?_
    rintro e w64_5 ⟨vs, rfl, gs⟩
    have hb64_5 := gs.below
    have ns55 := gs.num (Nat.le_trans (sz_add_le (sz_mul_le (sz_div_le b ka) kb) (sz_mod_le b ka)) (by decide))
    clear nr52
    clear ns54
    replace na := na.below hb64_5
    replace nb := nb.below hb64_5
    replace nc := nc.below hb64_5
    replace HB := HB.trans (hb64_5.mono HB.size)
    clear hb64_5
    clear gs
    go_wp2_with fail
    refine (trim_num _ _ _ a na).mono ?_
    rintro e w64_6 ⟨vs, rfl, gs⟩
    have hb64_6 := gs.below
    have ns56 := gs.num (Nat.le_trans ka (by decide))
    replace na := na.below hb64_6
    replace nb := nb.below hb64_6
    replace nc := nc.below hb64_6
    replace ns55 := ns55.below hb64_6
    replace HB := HB.trans (hb64_6.mono HB.size)
    clear hb64_6
    clear gs
    go_wp2_with fail
    refine (same_yes _ _ _ _ _ ns55 ns56 (congrArg limbs (by rw [Nat.mul_comm]; exact Nat.div_add_mod a b))).mono ?_
    rintro e w64_7 ⟨rfl, hbs⟩
    have hb64_7 := hbs
    clear ns55
    clear ns56
    replace na := na.below hb64_7
    replace nb := nb.below hb64_7
    replace nc := nc.below hb64_7
    replace HB := HB.trans (hb64_7.mono HB.size)
    clear hb64_7
    go_wp2_with fail
    refine (div_any _ _ _ _ _ c b nc nb h0).mono ?_
    rintro e w64_8 ⟨vq, vr, rfl, gq, gr, _⟩
    have hb64_8 := gr.below
    have nq57 := gq.num (Nat.le_trans (sz_div_le b kc) (by decide))
    have nr58 := gr.num (Nat.le_trans (sz_mod_le b kc) (by decide))
    clear nc
    replace na := na.below hb64_8
    replace nb := nb.below hb64_8
    replace HB := HB.trans (hb64_8.mono HB.size)
    clear hb64_8
    clear gq gr
    clear nq57
    go_wp2_with fail
    refine (mul_any _ _ _ _ _ a b na nb).mono ?_
    rintro e w64_9 ⟨vs, rfl, gs⟩
    have hb64_9 := gs.below
    have ns59 := gs.num (Nat.le_trans (sz_mul_le ka kb) (by decide))
    replace na := na.below hb64_9
    replace nb := nb.below hb64_9
    replace nr58 := nr58.below hb64_9
    replace HB := HB.trans (hb64_9.mono HB.size)
    clear hb64_9
    clear gs
    go_wp2_with fail
    refine (add_any _ _ _ _ _ (a * b) (c % b) ns59 nr58).mono ?_
    rintro e w64_10 ⟨vs, rfl, gs⟩
    have hb64_10 := gs.below
    have ns60 := gs.num (Nat.le_trans (sz_add_le (sz_mul_le ka kb) (sz_mod_le b kc)) (by decide))
    clear ns59
    replace na := na.below hb64_10
    replace nb := nb.below hb64_10
    replace nr58 := nr58.below hb64_10
    replace HB := HB.trans (hb64_10.mono HB.size)
    clear hb64_10
    clear gs
    go_wp2_with fail
    refine (div_any _ _ _ _ _ ((a * b) + (c % b)) b ns60 nb h0).mono ?_
    rintro e w64_11 ⟨vq, vr, rfl, gq, gr, _⟩
    have hb64_11 := gr.below
    have nq61 := gq.num (Nat.le_trans (sz_div_le b (sz_add_le (sz_mul_le ka kb) (sz_mod_le b kc))) (by decide))
    have nr62 := gr.num (Nat.le_trans (sz_mod_le b (sz_add_le (sz_mul_le ka kb) (sz_mod_le b kc))) (by decide))
    clear nb
    clear ns60
    replace na := na.below hb64_11
    replace nr58 := nr58.below hb64_11
    replace HB := HB.trans (hb64_11.mono HB.size)
    clear hb64_11
    clear gq gr
    go_wp2_with fail
    refine (trim_num _ _ _ a na).mono ?_
    rintro e w64_12 ⟨vs, rfl, gs⟩
    have hb64_12 := gs.below
    have ns63 := gs.num (Nat.le_trans ka (by decide))
    clear na
    replace nr58 := nr58.below hb64_12
    replace nq61 := nq61.below hb64_12
    replace nr62 := nr62.below hb64_12
    replace HB := HB.trans (hb64_12.mono HB.size)
    clear hb64_12
    clear gs
    go_wp2_with fail
    refine (same_yes _ _ _ _ _ nq61 ns63 (congrArg limbs (div_back h0 (Nat.mod_lt c h0)))).mono ?_
    rintro e w64_13 ⟨rfl, hbs⟩
    have hb64_13 := hbs
    clear nq61
    clear ns63
    replace nr58 := nr58.below hb64_13
    replace nr62 := nr62.below hb64_13
    replace HB := HB.trans (hb64_13.mono HB.size)
    clear hb64_13
    go_wp2_with fail
    refine (same_yes _ _ _ _ _ nr62 nr58 (congrArg limbs (mod_back (Nat.mod_lt c h0)))).mono ?_
    rintro e w64_14 ⟨rfl, hbs⟩
    have hb64_14 := hbs
    clear nr58
    clear nr62
    replace HB := HB.trans (hb64_14.mono HB.size)
    clear hb64_14
    go_wp2_with fail
    go_ret
    exact ⟨rfl, HB⟩
end Go.Proofs.YtdmghakmhfhpiaaDoor
