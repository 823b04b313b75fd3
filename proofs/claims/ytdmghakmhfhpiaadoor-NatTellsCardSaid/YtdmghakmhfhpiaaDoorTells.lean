import Derived.Test.YtdmghakmhfhpiaaDoorTold
import Derived.Test.YtdmghakmhfhpiaaDoorGcds
import Derived.Test.YtdmghakmhfhpiaaDoorRefAll
/- litmuslaw01.NatTells returns true. -/
namespace Go.Proofs.YtdmghakmhfhpiaaDoor
open Go.RowKit Go.Num
attribute [local go_sem] Oper.semAt_some u64_mask

set_option maxHeartbeats 4000000 in
set_option maxRecDepth 100000 in
theorem natTells_any (w : World) (va vb : Value) (la lb : List Nat) (ha : Arg encU w va la) (hla : Lim la) (hna : la.length ≤ 9223372036854775807) (hb : Arg encU w vb lb) (hlb : Lim lb) (hnb : lb.length ≤ 9223372036854775807) :
    Calls Tryd.prog 9 #[va, vb] w fun e w' => e = .returned (.bool true) ∧ Below w.heap.size w w' := by
  go_enter Tryd.func9, Tryd.ntmps9
  have HB : Below w.heap.size w w := Below.refl _ _
  go_wp2_with fail
  refine (few_any _ _ la 12 ha (by decide) hna).mono ?_
  rintro e w9 ⟨ua, rfl, hw9, ga⟩
  subst w9
  obtain ⟨a, xa, la9, na, ka⟩ : ∃ y x, x.length ≤ 12 ∧ Num w ua x y ∧ sz y ≤ 12 := ⟨_, _, by rw [List.length_take]; omega, num_few ga hla (by decide), sz_few 12 hla⟩
  clear ga ha hla hna
  go_wp2_with fail
  refine (few_any _ _ lb 12 hb (by decide) hnb).mono ?_
  rintro e w9 ⟨ub, rfl, hw9, gb⟩
  subst w9
  obtain ⟨b, xb, lb9, nb, kb⟩ : ∃ y x, x.length ≤ 12 ∧ Num w ub x y ∧ sz y ≤ 12 := ⟨_, _, by rw [List.length_take]; omega, num_few gb hlb (by decide), sz_few 12 hlb⟩
  clear gb hb hlb hnb
  rcases Nat.lt_or_ge a b with h0 | h0
  · have hb0 : 0 < b := by omega
    go_wp2_with fail
    refine (sub_no _ _ _ _ _ a b na nb h0).mono ?_
    rintro e w5_1 ⟨rfl, hbs⟩
    have hb5_1 := hbs
    replace na := na.below hb5_1
    replace nb := nb.below hb5_1
    replace HB := HB.trans (hb5_1.mono HB.size)
    clear hb5_1
    go_wp2_with fail
    refine (rSub_no _ _ _ _ _ a b na nb (Nat.le_trans la9 (by decide)) (Nat.le_trans lb9 (by decide)) h0).mono ?_
    rintro e w5_2 ⟨rfl, hbs⟩
    have hb5_2 := hbs
    replace na := na.below hb5_2
    replace nb := nb.below hb5_2
    replace HB := HB.trans (hb5_2.mono HB.size)
    clear hb5_2
    go_wp2_with fail
    refine (div_any _ _ _ _ _ a b na nb hb0).mono ?_
    rintro e w5_3 ⟨vq, vr, rfl, gq, gr, _⟩
    have hb5_3 := gr.below
    have nq1 := gq.num (Nat.le_trans (sz_div_le b ka) (by decide))
    have nr2 := gr.num (Nat.le_trans (sz_mod_le b ka) (by decide))
    replace na := na.below hb5_3
    replace nb := nb.below hb5_3
    replace HB := HB.trans (hb5_3.mono HB.size)
    clear hb5_3
    clear gq gr
    go_wp2_with fail
    refine (rDiv_any _ _ _ _ _ a b na nb (Nat.le_trans la9 (by decide)) (Nat.le_trans lb9 (by decide)) hb0).mono ?_
    rintro e w5_4 ⟨vq, vr, rfl, gq, gr, hbs⟩
    have hb5_4 := hbs
    have ndq := num_of gq (Nat.le_trans (sz_div_le b ka) (by decide))
    have ndr := num_of gr (Nat.le_trans (sz_mod_le b ka) (by decide))
    replace na := na.below hb5_4
    replace nb := nb.below hb5_4
    replace nq1 := nq1.below hb5_4
    replace nr2 := nr2.below hb5_4
    replace HB := HB.trans (hb5_4.mono HB.size)
    clear hb5_4
    clear gq gr
    go_wp2_with fail
    refine (refSame_yes _ _ _ _ _ (num_nil _ _) (num_nil _ _) rfl).mono ?_
    rintro e w5_5 ⟨rfl, hbs⟩
    have hb5_5 := hbs
    replace na := na.below hb5_5
    replace nb := nb.below hb5_5
    replace nq1 := nq1.below hb5_5
    replace nr2 := nr2.below hb5_5
    replace ndq := ndq.below hb5_5
    replace ndr := ndr.below hb5_5
    replace HB := HB.trans (hb5_5.mono HB.size)
    clear hb5_5
    go_wp2_with fail
    refine (refSame_yes _ _ _ _ _ nq1 ndq rfl).mono ?_
    rintro e w5_6 ⟨rfl, hbs⟩
    have hb5_6 := hbs
    clear nq1
    clear ndq
    replace na := na.below hb5_6
    replace nb := nb.below hb5_6
    replace nr2 := nr2.below hb5_6
    replace ndr := ndr.below hb5_6
    replace HB := HB.trans (hb5_6.mono HB.size)
    clear hb5_6
    go_wp2_with fail
    refine (refSame_yes _ _ _ _ _ nr2 ndr rfl).mono ?_
    rintro e w5_7 ⟨rfl, hbs⟩
    have hb5_7 := hbs
    clear nr2
    clear ndr
    replace na := na.below hb5_7
    replace nb := nb.below hb5_7
    replace HB := HB.trans (hb5_7.mono HB.size)
    clear hb5_7
    go_wp2_with fail
    refine (trim_num _ _ _ a na).mono ?_
    rintro e w5_8 ⟨vs, rfl, gs⟩
    have hb5_8 := gs.below
    have ns3 := gs.num (Nat.le_trans ka (by decide))
    replace na := na.below hb5_8
    replace nb := nb.below hb5_8
    replace HB := HB.trans (hb5_8.mono HB.size)
    clear hb5_8
    clear gs
    go_wp2_with fail
    refine (rTrim_any _ _ _ a na (Nat.le_trans la9 (by decide))).mono ?_
    rintro e w5_9 ⟨vs, rfl, gs, hbs⟩
    have hb5_9 := hbs
    have nrt := num_of gs (Nat.le_trans ka (by decide))
    replace na := na.below hb5_9
    replace nb := nb.below hb5_9
    replace ns3 := ns3.below hb5_9
    replace HB := HB.trans (hb5_9.mono HB.size)
    clear hb5_9
    clear gs
    go_wp2_with fail
    refine (refSame_yes _ _ _ _ _ ns3 nrt rfl).mono ?_
    rintro e w5_10 ⟨rfl, hbs⟩
    have hb5_10 := hbs
    clear ns3
    clear nrt
    replace na := na.below hb5_10
    replace nb := nb.below hb5_10
    replace HB := HB.trans (hb5_10.mono HB.size)
    clear hb5_10
    go_wp2_with fail
    refine (cmp_any _ _ _ _ _ a b na nb).mono ?_
    rintro e w5_11 ⟨rfl, hbs⟩
    have hb5_11 := hbs
    replace na := na.below hb5_11
    replace nb := nb.below hb5_11
    replace HB := HB.trans (hb5_11.mono HB.size)
    clear hb5_11
    obtain ⟨cq, hcq⟩ : ∃ cq, cq = cmpN a b := ⟨_, rfl⟩
    rw [← hcq]
    go_wp2_with fail
    refine (rCmp_any _ _ _ _ _ a b na nb (Nat.le_trans la9 (by decide)) (Nat.le_trans lb9 (by decide))).mono ?_
    rintro e w5_12 ⟨rfl, hbs⟩
    have hb5_12 := hbs
    replace na := na.below hb5_12
    replace nb := nb.below hb5_12
    replace HB := HB.trans (hb5_12.mono HB.size)
    clear hb5_12
    rw [← hcq]
    clear hcq
    go_wp2_with fail
    refine (add_any _ _ _ _ _ a b na nb).mono ?_
    rintro e w5_13 ⟨vs, rfl, gs⟩
    have hb5_13 := gs.below
    have ns4 := gs.num (Nat.le_trans (sz_add_le ka kb) (by decide))
    replace na := na.below hb5_13
    replace nb := nb.below hb5_13
    replace HB := HB.trans (hb5_13.mono HB.size)
    clear hb5_13
    clear gs
    go_wp2_with fail
    refine (rAdd_any _ _ _ _ _ a b na nb (Nat.le_trans la9 (by decide)) (Nat.le_trans lb9 (by decide))).mono ?_
    rintro e w5_14 ⟨vs, rfl, gs, hbs⟩
    have hb5_14 := hbs
    have nra := num_of gs (Nat.le_trans (sz_add_le ka kb) (by decide))
    replace na := na.below hb5_14
    replace nb := nb.below hb5_14
    replace ns4 := ns4.below hb5_14
    replace HB := HB.trans (hb5_14.mono HB.size)
    clear hb5_14
    clear gs
    go_wp2_with fail
    refine (refSame_yes _ _ _ _ _ ns4 nra rfl).mono ?_
    rintro e w5_15 ⟨rfl, hbs⟩
    have hb5_15 := hbs
    clear ns4
    clear nra
    replace na := na.below hb5_15
    replace nb := nb.below hb5_15
    replace HB := HB.trans (hb5_15.mono HB.size)
    clear hb5_15
    go_wp2_with fail
    refine (mul_any _ _ _ _ _ a b na nb).mono ?_
    rintro e w5_16 ⟨vs, rfl, gs⟩
    have hb5_16 := gs.below
    have ns5 := gs.num (Nat.le_trans (sz_mul_le ka kb) (by decide))
    replace na := na.below hb5_16
    replace nb := nb.below hb5_16
    replace HB := HB.trans (hb5_16.mono HB.size)
    clear hb5_16
    clear gs
    go_wp2_with fail
    refine (rMul_any _ _ _ _ _ a b na nb (Nat.le_trans la9 (by decide)) (Nat.le_trans lb9 (by decide))).mono ?_
    rintro e w5_17 ⟨vs, rfl, gs, hbs⟩
    have hb5_17 := hbs
    have nrm := num_of gs (Nat.le_trans (sz_mul_le ka kb) (by decide))
    clear nb
    replace na := na.below hb5_17
    replace ns5 := ns5.below hb5_17
    replace HB := HB.trans (hb5_17.mono HB.size)
    clear hb5_17
    clear gs
    go_wp2_with fail
    refine (refSame_yes _ _ _ _ _ ns5 nrm rfl).mono ?_
    rintro e w5_18 ⟨rfl, hbs⟩
    have hb5_18 := hbs
    clear ns5
    clear nrm
    replace na := na.below hb5_18
    replace HB := HB.trans (hb5_18.mono HB.size)
    clear hb5_18
    go_wp2_with fail
    refine (text_any _ _ _ a na).mono ?_
    rintro e w5_19 ⟨rfl, hbs⟩
    have hb5_19 := hbs
    replace na := na.below hb5_19
    replace HB := HB.trans (hb5_19.mono HB.size)
    clear hb5_19
    go_wp2_with fail
    refine (rtext_any _ _ _ a na (Nat.le_trans la9 (by decide))).mono ?_
    rintro e w5_20 ⟨rfl, hbs⟩
    have hb5_20 := hbs
    clear na
    replace HB := HB.trans (hb5_20.mono HB.size)
    clear hb5_20
    go_wp2_with fail
    refine (works_any _).mono ?_
    rintro e w5_21 ⟨rfl, hbs⟩
    have hb5_21 := hbs
    replace HB := HB.trans (hb5_21.mono HB.size)
    clear hb5_21
    go_wp2_with fail
    go_ret
    exact ⟨rfl, HB⟩
  · rcases Nat.eq_zero_or_pos b with h1 | h1
    · subst h1
      go_wp2_with fail
      refine (sub_yes _ _ _ _ _ a 0 na nb (Nat.zero_le a)).mono ?_
      rintro e w204_1 ⟨vs, rfl, gs⟩
      have hb204_1 := gs.below
      have ns201 := gs.num (Nat.le_trans (sz_sub_le 0 ka) (by decide))
      replace na := na.below hb204_1
      replace nb := nb.below hb204_1
      replace HB := HB.trans (hb204_1.mono HB.size)
      clear hb204_1
      clear gs
      go_wp2_with fail
      refine (rSub_yes _ _ _ _ _ a 0 na nb (Nat.le_trans la9 (by decide)) (Nat.le_trans lb9 (by decide)) (Nat.zero_le a)).mono ?_
      rintro e w204_2 ⟨vs, rfl, gs, hbs⟩
      have hb204_2 := hbs
      have nst := num_of gs (Nat.le_trans (sz_sub_le 0 ka) (by decide))
      replace na := na.below hb204_2
      replace nb := nb.below hb204_2
      replace ns201 := ns201.below hb204_2
      replace HB := HB.trans (hb204_2.mono HB.size)
      clear hb204_2
      clear gs
      go_wp2_with fail
      refine (div_zero _ _ _ _ _ a na nb).mono ?_
      rintro e w204_3 ⟨rfl, hbs⟩
      have hb204_3 := hbs
      replace na := na.below hb204_3
      replace nb := nb.below hb204_3
      replace ns201 := ns201.below hb204_3
      replace nst := nst.below hb204_3
      replace HB := HB.trans (hb204_3.mono HB.size)
      clear hb204_3
      go_wp2_with fail
      refine (rDiv_zero _ _ _ _ nb).mono ?_
      rintro e w204_4 ⟨rfl, hbs⟩
      have hb204_4 := hbs
      replace na := na.below hb204_4
      replace nb := nb.below hb204_4
      replace ns201 := ns201.below hb204_4
      replace nst := nst.below hb204_4
      replace HB := HB.trans (hb204_4.mono HB.size)
      clear hb204_4
      go_wp2_with fail
      refine (refSame_yes _ _ _ _ _ ns201 nst rfl).mono ?_
      rintro e w204_5 ⟨rfl, hbs⟩
      have hb204_5 := hbs
      clear ns201
      clear nst
      replace na := na.below hb204_5
      replace nb := nb.below hb204_5
      replace HB := HB.trans (hb204_5.mono HB.size)
      clear hb204_5
      go_wp2_with fail
      refine (refSame_yes _ _ _ _ _ (num_nil _ _) (num_nil _ _) rfl).mono ?_
      rintro e w204_6 ⟨rfl, hbs⟩
      have hb204_6 := hbs
      replace na := na.below hb204_6
      replace nb := nb.below hb204_6
      replace HB := HB.trans (hb204_6.mono HB.size)
      clear hb204_6
      go_wp2_with fail
      refine (refSame_yes _ _ _ _ _ (num_nil _ _) (num_nil _ _) rfl).mono ?_
      rintro e w204_7 ⟨rfl, hbs⟩
      have hb204_7 := hbs
      replace na := na.below hb204_7
      replace nb := nb.below hb204_7
      replace HB := HB.trans (hb204_7.mono HB.size)
      clear hb204_7
      go_wp2_with fail
      refine (trim_num _ _ _ a na).mono ?_
      rintro e w204_8 ⟨vs, rfl, gs⟩
      have hb204_8 := gs.below
      have ns202 := gs.num (Nat.le_trans ka (by decide))
      replace na := na.below hb204_8
      replace nb := nb.below hb204_8
      replace HB := HB.trans (hb204_8.mono HB.size)
      clear hb204_8
      clear gs
      go_wp2_with fail
      refine (rTrim_any _ _ _ a na (Nat.le_trans la9 (by decide))).mono ?_
      rintro e w204_9 ⟨vs, rfl, gs, hbs⟩
      have hb204_9 := hbs
      have nrt := num_of gs (Nat.le_trans ka (by decide))
      replace na := na.below hb204_9
      replace nb := nb.below hb204_9
      replace ns202 := ns202.below hb204_9
      replace HB := HB.trans (hb204_9.mono HB.size)
      clear hb204_9
      clear gs
      go_wp2_with fail
      refine (refSame_yes _ _ _ _ _ ns202 nrt rfl).mono ?_
      rintro e w204_10 ⟨rfl, hbs⟩
      have hb204_10 := hbs
      clear ns202
      clear nrt
      replace na := na.below hb204_10
      replace nb := nb.below hb204_10
      replace HB := HB.trans (hb204_10.mono HB.size)
      clear hb204_10
      go_wp2_with fail
      refine (cmp_any _ _ _ _ _ a 0 na nb).mono ?_
      rintro e w204_11 ⟨rfl, hbs⟩
      have hb204_11 := hbs
      replace na := na.below hb204_11
      replace nb := nb.below hb204_11
      replace HB := HB.trans (hb204_11.mono HB.size)
      clear hb204_11
      obtain ⟨cq, hcq⟩ : ∃ cq, cq = cmpN a 0 := ⟨_, rfl⟩
      rw [← hcq]
      go_wp2_with fail
      refine (rCmp_any _ _ _ _ _ a 0 na nb (Nat.le_trans la9 (by decide)) (Nat.le_trans lb9 (by decide))).mono ?_
      rintro e w204_12 ⟨rfl, hbs⟩
      have hb204_12 := hbs
      replace na := na.below hb204_12
      replace nb := nb.below hb204_12
      replace HB := HB.trans (hb204_12.mono HB.size)
      clear hb204_12
      rw [← hcq]
      clear hcq
      go_wp2_with fail
      refine (add_any _ _ _ _ _ a 0 na nb).mono ?_
      rintro e w204_13 ⟨vs, rfl, gs⟩
      have hb204_13 := gs.below
      have ns203 := gs.num (Nat.le_trans (sz_add_le ka kb) (by decide))
      replace na := na.below hb204_13
      replace nb := nb.below hb204_13
      replace HB := HB.trans (hb204_13.mono HB.size)
      clear hb204_13
      clear gs
      go_wp2_with fail
      refine (rAdd_any _ _ _ _ _ a 0 na nb (Nat.le_trans la9 (by decide)) (Nat.le_trans lb9 (by decide))).mono ?_
      rintro e w204_14 ⟨vs, rfl, gs, hbs⟩
      have hb204_14 := hbs
      have nra := num_of gs (Nat.le_trans (sz_add_le ka kb) (by decide))
      replace na := na.below hb204_14
      replace nb := nb.below hb204_14
      replace ns203 := ns203.below hb204_14
      replace HB := HB.trans (hb204_14.mono HB.size)
      clear hb204_14
      clear gs
      go_wp2_with fail
      refine (refSame_yes _ _ _ _ _ ns203 nra rfl).mono ?_
      rintro e w204_15 ⟨rfl, hbs⟩
      have hb204_15 := hbs
      clear ns203
      clear nra
      replace na := na.below hb204_15
      replace nb := nb.below hb204_15
      replace HB := HB.trans (hb204_15.mono HB.size)
      clear hb204_15
      go_wp2_with fail
      refine (mul_any _ _ _ _ _ a 0 na nb).mono ?_
      rintro e w204_16 ⟨vs, rfl, gs⟩
      have hb204_16 := gs.below
      have ns204 := gs.num (Nat.le_trans (sz_mul_le ka kb) (by decide))
      replace na := na.below hb204_16
      replace nb := nb.below hb204_16
      replace HB := HB.trans (hb204_16.mono HB.size)
      clear hb204_16
      clear gs
      go_wp2_with fail
      refine (rMul_any _ _ _ _ _ a 0 na nb (Nat.le_trans la9 (by decide)) (Nat.le_trans lb9 (by decide))).mono ?_
      rintro e w204_17 ⟨vs, rfl, gs, hbs⟩
      have hb204_17 := hbs
      have nrm := num_of gs (Nat.le_trans (sz_mul_le ka kb) (by decide))
      clear nb
      replace na := na.below hb204_17
      replace ns204 := ns204.below hb204_17
      replace HB := HB.trans (hb204_17.mono HB.size)
      clear hb204_17
      clear gs
      go_wp2_with fail
      refine (refSame_yes _ _ _ _ _ ns204 nrm rfl).mono ?_
      rintro e w204_18 ⟨rfl, hbs⟩
      have hb204_18 := hbs
      clear ns204
      clear nrm
      replace na := na.below hb204_18
      replace HB := HB.trans (hb204_18.mono HB.size)
      clear hb204_18
      go_wp2_with fail
      refine (text_any _ _ _ a na).mono ?_
      rintro e w204_19 ⟨rfl, hbs⟩
      have hb204_19 := hbs
      replace na := na.below hb204_19
      replace HB := HB.trans (hb204_19.mono HB.size)
      clear hb204_19
      go_wp2_with fail
      refine (rtext_any _ _ _ a na (Nat.le_trans la9 (by decide))).mono ?_
      rintro e w204_20 ⟨rfl, hbs⟩
      have hb204_20 := hbs
      clear na
      replace HB := HB.trans (hb204_20.mono HB.size)
      clear hb204_20
      go_wp2_with fail
      refine (works_any _).mono ?_
      rintro e w204_21 ⟨rfl, hbs⟩
      have hb204_21 := hbs
      replace HB := HB.trans (hb204_21.mono HB.size)
      clear hb204_21
      go_wp2_with fail
      go_ret
      exact ⟨rfl, HB⟩
    · go_wp2_with fail
      refine (sub_yes _ _ _ _ _ a b na nb h0).mono ?_
      rintro e w406_1 ⟨vs, rfl, gs⟩
      have hb406_1 := gs.below
      have ns401 := gs.num (Nat.le_trans (sz_sub_le b ka) (by decide))
      replace na := na.below hb406_1
      replace nb := nb.below hb406_1
      replace HB := HB.trans (hb406_1.mono HB.size)
      clear hb406_1
      clear gs
      go_wp2_with fail
      refine (rSub_yes _ _ _ _ _ a b na nb (Nat.le_trans la9 (by decide)) (Nat.le_trans lb9 (by decide)) h0).mono ?_
      rintro e w406_2 ⟨vs, rfl, gs, hbs⟩
      have hb406_2 := hbs
      have nst := num_of gs (Nat.le_trans (sz_sub_le b ka) (by decide))
      replace na := na.below hb406_2
      replace nb := nb.below hb406_2
      replace ns401 := ns401.below hb406_2
      replace HB := HB.trans (hb406_2.mono HB.size)
      clear hb406_2
      clear gs
      go_wp2_with fail
      refine (div_any _ _ _ _ _ a b na nb h1).mono ?_
      rintro e w406_3 ⟨vq, vr, rfl, gq, gr, _⟩
      have hb406_3 := gr.below
      have nq402 := gq.num (Nat.le_trans (sz_div_le b ka) (by decide))
      have nr403 := gr.num (Nat.le_trans (sz_mod_le b ka) (by decide))
      replace na := na.below hb406_3
      replace nb := nb.below hb406_3
      replace ns401 := ns401.below hb406_3
      replace nst := nst.below hb406_3
      replace HB := HB.trans (hb406_3.mono HB.size)
      clear hb406_3
      clear gq gr
      go_wp2_with fail
      refine (rDiv_any _ _ _ _ _ a b na nb (Nat.le_trans la9 (by decide)) (Nat.le_trans lb9 (by decide)) h1).mono ?_
      rintro e w406_4 ⟨vq, vr, rfl, gq, gr, hbs⟩
      have hb406_4 := hbs
      have ndq := num_of gq (Nat.le_trans (sz_div_le b ka) (by decide))
      have ndr := num_of gr (Nat.le_trans (sz_mod_le b ka) (by decide))
      replace na := na.below hb406_4
      replace nb := nb.below hb406_4
      replace ns401 := ns401.below hb406_4
      replace nst := nst.below hb406_4
      replace nq402 := nq402.below hb406_4
      replace nr403 := nr403.below hb406_4
      replace HB := HB.trans (hb406_4.mono HB.size)
      clear hb406_4
      clear gq gr
      go_wp2_with fail
      refine (refSame_yes _ _ _ _ _ ns401 nst rfl).mono ?_
      rintro e w406_5 ⟨rfl, hbs⟩
      have hb406_5 := hbs
      clear ns401
      clear nst
      replace na := na.below hb406_5
      replace nb := nb.below hb406_5
      replace nq402 := nq402.below hb406_5
      replace nr403 := nr403.below hb406_5
      replace ndq := ndq.below hb406_5
      replace ndr := ndr.below hb406_5
      replace HB := HB.trans (hb406_5.mono HB.size)
      clear hb406_5
      go_wp2_with fail
      refine (refSame_yes _ _ _ _ _ nq402 ndq rfl).mono ?_
      rintro e w406_6 ⟨rfl, hbs⟩
      have hb406_6 := hbs
      clear nq402
      clear ndq
      replace na := na.below hb406_6
      replace nb := nb.below hb406_6
      replace nr403 := nr403.below hb406_6
      replace ndr := ndr.below hb406_6
      replace HB := HB.trans (hb406_6.mono HB.size)
      clear hb406_6
      go_wp2_with fail
      refine (refSame_yes _ _ _ _ _ nr403 ndr rfl).mono ?_
      rintro e w406_7 ⟨rfl, hbs⟩
      have hb406_7 := hbs
      clear nr403
      clear ndr
      replace na := na.below hb406_7
      replace nb := nb.below hb406_7
      replace HB := HB.trans (hb406_7.mono HB.size)
      clear hb406_7
      go_wp2_with fail
      refine (trim_num _ _ _ a na).mono ?_
      rintro e w406_8 ⟨vs, rfl, gs⟩
      have hb406_8 := gs.below
      have ns404 := gs.num (Nat.le_trans ka (by decide))
      replace na := na.below hb406_8
      replace nb := nb.below hb406_8
      replace HB := HB.trans (hb406_8.mono HB.size)
      clear hb406_8
      clear gs
      go_wp2_with fail
      refine (rTrim_any _ _ _ a na (Nat.le_trans la9 (by decide))).mono ?_
      rintro e w406_9 ⟨vs, rfl, gs, hbs⟩
      have hb406_9 := hbs
      have nrt := num_of gs (Nat.le_trans ka (by decide))
      replace na := na.below hb406_9
      replace nb := nb.below hb406_9
      replace ns404 := ns404.below hb406_9
      replace HB := HB.trans (hb406_9.mono HB.size)
      clear hb406_9
      clear gs
      go_wp2_with fail
      refine (refSame_yes _ _ _ _ _ ns404 nrt rfl).mono ?_
      rintro e w406_10 ⟨rfl, hbs⟩
      have hb406_10 := hbs
      clear ns404
      clear nrt
      replace na := na.below hb406_10
      replace nb := nb.below hb406_10
      replace HB := HB.trans (hb406_10.mono HB.size)
      clear hb406_10
      go_wp2_with fail
      refine (cmp_any _ _ _ _ _ a b na nb).mono ?_
      rintro e w406_11 ⟨rfl, hbs⟩
      have hb406_11 := hbs
      replace na := na.below hb406_11
      replace nb := nb.below hb406_11
      replace HB := HB.trans (hb406_11.mono HB.size)
      clear hb406_11
      obtain ⟨cq, hcq⟩ : ∃ cq, cq = cmpN a b := ⟨_, rfl⟩
      rw [← hcq]
      go_wp2_with fail
      refine (rCmp_any _ _ _ _ _ a b na nb (Nat.le_trans la9 (by decide)) (Nat.le_trans lb9 (by decide))).mono ?_
      rintro e w406_12 ⟨rfl, hbs⟩
      have hb406_12 := hbs
      replace na := na.below hb406_12
      replace nb := nb.below hb406_12
      replace HB := HB.trans (hb406_12.mono HB.size)
      clear hb406_12
      rw [← hcq]
      clear hcq
      go_wp2_with fail
      refine (add_any _ _ _ _ _ a b na nb).mono ?_
      rintro e w406_13 ⟨vs, rfl, gs⟩
      have hb406_13 := gs.below
      have ns405 := gs.num (Nat.le_trans (sz_add_le ka kb) (by decide))
      replace na := na.below hb406_13
      replace nb := nb.below hb406_13
      replace HB := HB.trans (hb406_13.mono HB.size)
      clear hb406_13
      clear gs
      go_wp2_with fail
      refine (rAdd_any _ _ _ _ _ a b na nb (Nat.le_trans la9 (by decide)) (Nat.le_trans lb9 (by decide))).mono ?_
      rintro e w406_14 ⟨vs, rfl, gs, hbs⟩
      have hb406_14 := hbs
      have nra := num_of gs (Nat.le_trans (sz_add_le ka kb) (by decide))
      replace na := na.below hb406_14
      replace nb := nb.below hb406_14
      replace ns405 := ns405.below hb406_14
      replace HB := HB.trans (hb406_14.mono HB.size)
      clear hb406_14
      clear gs
      go_wp2_with fail
      refine (refSame_yes _ _ _ _ _ ns405 nra rfl).mono ?_
      rintro e w406_15 ⟨rfl, hbs⟩
      have hb406_15 := hbs
      clear ns405
      clear nra
      replace na := na.below hb406_15
      replace nb := nb.below hb406_15
      replace HB := HB.trans (hb406_15.mono HB.size)
      clear hb406_15
      go_wp2_with fail
      refine (mul_any _ _ _ _ _ a b na nb).mono ?_
      rintro e w406_16 ⟨vs, rfl, gs⟩
      have hb406_16 := gs.below
      have ns406 := gs.num (Nat.le_trans (sz_mul_le ka kb) (by decide))
      replace na := na.below hb406_16
      replace nb := nb.below hb406_16
      replace HB := HB.trans (hb406_16.mono HB.size)
      clear hb406_16
      clear gs
      go_wp2_with fail
      refine (rMul_any _ _ _ _ _ a b na nb (Nat.le_trans la9 (by decide)) (Nat.le_trans lb9 (by decide))).mono ?_
      rintro e w406_17 ⟨vs, rfl, gs, hbs⟩
      have hb406_17 := hbs
      have nrm := num_of gs (Nat.le_trans (sz_mul_le ka kb) (by decide))
      clear nb
      replace na := na.below hb406_17
      replace ns406 := ns406.below hb406_17
      replace HB := HB.trans (hb406_17.mono HB.size)
      clear hb406_17
      clear gs
      go_wp2_with fail
      refine (refSame_yes _ _ _ _ _ ns406 nrm rfl).mono ?_
      rintro e w406_18 ⟨rfl, hbs⟩
      have hb406_18 := hbs
      clear ns406
      clear nrm
      replace na := na.below hb406_18
      replace HB := HB.trans (hb406_18.mono HB.size)
      clear hb406_18
      go_wp2_with fail
      refine (text_any _ _ _ a na).mono ?_
      rintro e w406_19 ⟨rfl, hbs⟩
      have hb406_19 := hbs
      replace na := na.below hb406_19
      replace HB := HB.trans (hb406_19.mono HB.size)
      clear hb406_19
      go_wp2_with fail
      refine (rtext_any _ _ _ a na (Nat.le_trans la9 (by decide))).mono ?_
      rintro e w406_20 ⟨rfl, hbs⟩
      have hb406_20 := hbs
      clear na
      replace HB := HB.trans (hb406_20.mono HB.size)
      clear hb406_20
      go_wp2_with fail
      refine (works_any _).mono ?_
      rintro e w406_21 ⟨rfl, hbs⟩
      have hb406_21 := hbs
      replace HB := HB.trans (hb406_21.mono HB.size)
      clear hb406_21
      go_wp2_with fail
      go_ret
      exact ⟨rfl, HB⟩
end Go.Proofs.YtdmghakmhfhpiaaDoor
