import Derived.Test.YtbippecchpaleaaGreatDoorGRatF
/- litmuslaw03.RatField returns true. -/
namespace Go.Proofs.YtbippecchpaleaaGreatDoor
open Go.RowKit Go.Num Go.Kp
attribute [local go_sem] Oper.semAt_some u64_mask ev_const ev_func ev_global
theorem field_sub (a b : Rat) : a - b + b = a + ((0 : Int) : Rat) := by
  have : ((0 : Int) : Rat) = 0 := rfl
  grind
theorem field_neg (a : Rat) : Int.sign (a + -a).num = 0 := by
  have : a + -a = 0 := by grind
  rw [this]; rfl
set_option maxHeartbeats 16000000 in
set_option maxRecDepth 100000 in
theorem ratField_any (w : World) (nP0 : Bool) (mP0 pP0 : Value) (lP0 rP0 : List Nat) (nP1 : Bool) (mP1 pP1 : Value) (lP1 rP1 : List Nat) (nP2 : Bool) (mP2 pP2 : Value) (lP2 rP2 : List Nat) (hlen : HasLen w) (hP0 : Arg encU w mP0 lP0) (kP0 : Arg encU w pP0 rP0) (hL0 : Lim lP0) (hM0 : Lim rP0) (hN0 : lP0.length ≤ 9223372036854775807) (hO0 : rP0.length ≤ 9223372036854775807) (hP1 : Arg encU w mP1 lP1) (kP1 : Arg encU w pP1 rP1) (hL1 : Lim lP1) (hM1 : Lim rP1) (hN1 : lP1.length ≤ 9223372036854775807) (hO1 : rP1.length ≤ 9223372036854775807) (hP2 : Arg encU w mP2 lP2) (kP2 : Arg encU w pP2 rP2) (hL2 : Lim lP2) (hM2 : Lim rP2) (hN2 : lP2.length ≤ 9223372036854775807) (hO2 : rP2.length ≤ 9223372036854775807) : Calls Tryz.prog 9 #[.agg #[.bool nP0, mP0, pP0], .agg #[.bool nP1, mP1, pP1], .agg #[.bool nP2, mP2, pP2]] w fun e w' => e = .returned (.bool true) ∧ Below w.heap.size w w' := by
  obtain ⟨fP0, hf0⟩ : ∃ f, lP0.take 4 = f := ⟨_, rfl⟩
  obtain ⟨gP0, hg0⟩ : ∃ g, rP0.take 4 = g := ⟨_, rfl⟩
  obtain ⟨a, hq0⟩ : ∃ q, lrat nP0 fP0 gP0 = q := ⟨_, rfl⟩
  have hs0 : Qsz a 4 := hq0 ▸ few_qsz nP0 4 hf0 hg0 hL0 hM0 (by decide)
  have hlim0 := Lib.hid hL0
  have hlimd0 := Lib.hid hM0
  have hlen0 := Lib.hid hN0
  have hlend0 := Lib.hid hO0
  obtain ⟨AP0, cP0, eP0, -, -⟩ := hP0.open_
  subst eP0
  obtain ⟨BP0, dP0, eP0, -, -⟩ := kP0.open_
  subst eP0
  clear hL0 hM0 hN0 hO0
  obtain ⟨fP1, hf1⟩ : ∃ f, lP1.take 4 = f := ⟨_, rfl⟩
  obtain ⟨gP1, hg1⟩ : ∃ g, rP1.take 4 = g := ⟨_, rfl⟩
  obtain ⟨b, hq1⟩ : ∃ q, lrat nP1 fP1 gP1 = q := ⟨_, rfl⟩
  have hs1 : Qsz b 4 := hq1 ▸ few_qsz nP1 4 hf1 hg1 hL1 hM1 (by decide)
  have hlim1 := Lib.hid hL1
  have hlimd1 := Lib.hid hM1
  have hlen1 := Lib.hid hN1
  have hlend1 := Lib.hid hO1
  obtain ⟨AP1, cP1, eP1, -, -⟩ := hP1.open_
  subst eP1
  obtain ⟨BP1, dP1, eP1, -, -⟩ := kP1.open_
  subst eP1
  clear hL1 hM1 hN1 hO1
  obtain ⟨fP2, hf2⟩ : ∃ f, lP2.take 4 = f := ⟨_, rfl⟩
  obtain ⟨gP2, hg2⟩ : ∃ g, rP2.take 4 = g := ⟨_, rfl⟩
  obtain ⟨c, hq2⟩ : ∃ q, lrat nP2 fP2 gP2 = q := ⟨_, rfl⟩
  have hs2 : Qsz c 4 := hq2 ▸ few_qsz nP2 4 hf2 hg2 hL2 hM2 (by decide)
  have hlim2 := Lib.hid hL2
  have hlimd2 := Lib.hid hM2
  have hlen2 := Lib.hid hN2
  have hlend2 := Lib.hid hO2
  obtain ⟨AP2, cP2, eP2, -, -⟩ := hP2.open_
  subst eP2
  obtain ⟨BP2, dP2, eP2, -, -⟩ := kP2.open_
  subst eP2
  clear hL2 hM2 hN2 hO2
  go_enter Tryz.func9, Tryz.ntmps9
  go_upto_region 1 with fail
  have HB := Below.refl w.heap.size w
  have z0 : w.heap.size = w.heap.size := rfl
  have D0 := Box3.new w 26 (.bool nP0) (.slice AP0 lP0.length cP0) (.slice BP0 rP0.length dP0)
  rw [z0] at D0
  replace HB := HB.alloc (by rw [z0]; omega) (.cells #[.bool nP0, .slice AP0 lP0.length cP0, .slice BP0 rP0.length dP0] 26)
  have z1 : (w.alloc (.cells #[.bool nP0, .slice AP0 lP0.length cP0, .slice BP0 rP0.length dP0] 26)).heap.size = w.heap.size + 1 := by rw [World.size_alloc, z0]
  generalize w.alloc (.cells #[.bool nP0, .slice AP0 lP0.length cP0, .slice BP0 rP0.length dP0] 26) = u0 at *
  have D1 := Box3.new u0 26 (.bool nP1) (.slice AP1 lP1.length cP1) (.slice BP1 rP1.length dP1)
  rw [z1] at D1
  replace D0 := D0.alloc (.cells #[.bool nP1, .slice AP1 lP1.length cP1, .slice BP1 rP1.length dP1] 26)
  replace HB := HB.alloc (by rw [z1]; omega) (.cells #[.bool nP1, .slice AP1 lP1.length cP1, .slice BP1 rP1.length dP1] 26)
  have z2 : (u0.alloc (.cells #[.bool nP1, .slice AP1 lP1.length cP1, .slice BP1 rP1.length dP1] 26)).heap.size = w.heap.size + 1 + 1 := by rw [World.size_alloc, z1]
  generalize u0.alloc (.cells #[.bool nP1, .slice AP1 lP1.length cP1, .slice BP1 rP1.length dP1] 26) = u1 at *
  have D2 := Box3.new u1 26 (.bool nP2) (.slice AP2 lP2.length cP2) (.slice BP2 rP2.length dP2)
  rw [z2] at D2
  replace D0 := D0.alloc (.cells #[.bool nP2, .slice AP2 lP2.length cP2, .slice BP2 rP2.length dP2] 26)
  replace D1 := D1.alloc (.cells #[.bool nP2, .slice AP2 lP2.length cP2, .slice BP2 rP2.length dP2] 26)
  replace HB := HB.alloc (by rw [z2]; omega) (.cells #[.bool nP2, .slice AP2 lP2.length cP2, .slice BP2 rP2.length dP2] 26)
  have z3 : (u1.alloc (.cells #[.bool nP2, .slice AP2 lP2.length cP2, .slice BP2 rP2.length dP2] 26)).heap.size = w.heap.size + 1 + 1 + 1 := by rw [World.size_alloc, z2]
  generalize u1.alloc (.cells #[.bool nP2, .slice AP2 lP2.length cP2, .slice BP2 rP2.length dP2] 26) = u2 at *
  clear z0 z1 z2 z3
  replace HB := Lib.hid HB
  replace D0 := Lib.hid D0
  have SN0 := Lib.hid (hP0.below HB.out)
  have SD0 := Lib.hid (kP0.below HB.out)
  clear hP0 kP0
  replace D1 := Lib.hid D1
  have SN1 := Lib.hid (hP1.below HB.out)
  have SD1 := Lib.hid (kP1.below HB.out)
  clear hP1 kP1
  replace D2 := Lib.hid D2
  have SN2 := Lib.hid (hP2.below HB.out)
  have SD2 := Lib.hid (kP2.below HB.out)
  clear hP2 kP2
  have HL := Lib.hid hlen
  clear hlen
  refine wp_region_calm 2 [] ([fun vq _ => vq = .bool true,
      fun vq _ => vq = .bool false]) (by kernel_rfl) (by decide) ?hF ?steps ?fin
  case hF =>
    intro j hj; cases hj
  case steps =>
    refine AllOps.cons (Does.plain rfl fun lq aq wq hk hr K hK => ?_) ?_
    · refine wp_of_call (f := 39) (vs := #[]) (by go_simp) (qworks_v wq (HL.out.below (HB.out.trans (Below.mono hk.ext HB.out.size)))) ?_
      rintro e w1 ⟨u, rfl, hu, hb⟩
      exact ⟨u, rfl, hK.out _ _ hb (fun w2 h2 => hu) (fun h => absurd h (by decide))⟩
    refine AllOps.cons (Does.plain rfl fun lq aq wq hk hr K hK => ?_) ?_
    · obtain ⟨v0, E0, -, r0⟩ := hk.dep hr 0 9 (by kernel_rfl) (by kernel_rfl)
      replace E0 : ev aq (.tmp 9) = .bool true := E0.trans (r0 wq (Grows.refl wq))
      exact wp_of_value (by go_simp) (hK.out _ _ (Grows.refl _) (fun w2 h2 => rfl) (fun h => absurd h (by decide)))
    exact AllOps.nil
  case fin =>
    intro V x1 hG hV hap
    have r1 : (V 1) = .bool false := hV 1 (by decide)
    clear hV hap
    simp only [List.take_succ_cons, List.take_nil, List.drop_succ_cons, List.drop_nil, putAll, Act.put, List.setIfInBounds_toArray, List.set_cons_zero, List.set_cons_succ]
    have hb := (show Below _ _ _ from hG)
    replace D0 := Lib.hid (D0.out.below hb)
    replace SN0 := Lib.hid (SN0.out.below hb)
    replace SD0 := Lib.hid (SD0.out.below hb)
    replace D1 := Lib.hid (D1.out.below hb)
    replace SN1 := Lib.hid (SN1.out.below hb)
    replace SD1 := Lib.hid (SD1.out.below hb)
    replace D2 := Lib.hid (D2.out.below hb)
    replace SN2 := Lib.hid (SN2.out.below hb)
    replace SD2 := Lib.hid (SD2.out.below hb)
    replace HB := Lib.hid (HB.out.trans (Below.mono hb HB.out.size))
    clear hb hG
    rw [r1]
    clear r1
    go_upto_region 3 with fail
    refine wp_region_going 6 [] ([fun vq _ => vq = .agg #[.bool nP0, .slice AP0 lP0.length cP0, .slice BP0 rP0.length dP0],
        fun vq wq => QL wq vq nP0 fP0 gP0,
        fun vq _ => vq = .agg #[.bool nP1, .slice AP1 lP1.length cP1, .slice BP1 rP1.length dP1],
        fun vq wq => QL wq vq nP1 fP1 gP1,
        fun vq _ => vq = .agg #[.bool nP2, .slice AP2 lP2.length cP2, .slice BP2 rP2.length dP2],
        fun vq wq => QL wq vq nP2 fP2 gP2]) (by kernel_rfl) (by kernel_rfl) (by decide) (by kernel_rfl) (by kernel_rfl) ?hF ?steps ?fin
    case hF =>
      intro j hj; cases hj
    case steps =>
      refine AllOps.cons (Does.plain rfl fun lq aq wq hk hr K hK => ?_) ?_
      · have B3 : ev aq (.tmp 3) = .pointer (some ⟨w.heap.size, 0, none⟩) := hk.base 3 (by kernel_rfl) rfl
        have hb := grows_of hk.ext
        exact wp_of_value (op_load3 3 _ B3 (D0.out.below hb)) (hK.out _ _ (Grows.refl _) (fun w2 h2 => rfl) (fun h => absurd h (by decide)))
      refine AllOps.cons (Does.plain rfl fun lq aq wq hk hr K hK => ?_) ?_
      · obtain ⟨v0, E0, -, r0⟩ := hk.dep hr 0 11 (by kernel_rfl) (by kernel_rfl)
        replace E0 : ev aq (.tmp 11) = .agg #[.bool nP0, .slice AP0 lP0.length cP0, .slice BP0 rP0.length dP0] := E0.trans (r0 wq (Grows.refl wq))
        refine wp_of_call (f := 12) (vs := #[.agg #[.bool nP0, .slice AP0 lP0.length cP0, .slice BP0 rP0.length dP0], .int .i64 4]) (by go_simp) (few3_v wq 4 (i := 4) rfl (SN0.out.below (grows_of hk.ext)) (SD0.out.below (grows_of hk.ext)) hlim0.out hlen0.out hlimd0.out hlend0.out (by decide) hf0 hg0) ?_
        rintro e w1 ⟨u, rfl, hu, hb⟩
        exact ⟨u, rfl, hK.out _ _ hb (fun w2 h2 => (hu).grow h2) (fun h => absurd h (by decide))⟩
      refine AllOps.cons (Does.plain rfl fun lq aq wq hk hr K hK => ?_) ?_
      · have B4 : ev aq (.tmp 4) = .pointer (some ⟨w.heap.size + 1, 0, none⟩) := hk.base 4 (by kernel_rfl) rfl
        have hb := grows_of hk.ext
        exact wp_of_value (op_load3 4 _ B4 (D1.out.below hb)) (hK.out _ _ (Grows.refl _) (fun w2 h2 => rfl) (fun h => absurd h (by decide)))
      refine AllOps.cons (Does.plain rfl fun lq aq wq hk hr K hK => ?_) ?_
      · obtain ⟨v2, E2, -, r2⟩ := hk.dep hr 2 13 (by kernel_rfl) (by kernel_rfl)
        replace E2 : ev aq (.tmp 13) = .agg #[.bool nP1, .slice AP1 lP1.length cP1, .slice BP1 rP1.length dP1] := E2.trans (r2 wq (Grows.refl wq))
        refine wp_of_call (f := 12) (vs := #[.agg #[.bool nP1, .slice AP1 lP1.length cP1, .slice BP1 rP1.length dP1], .int .i64 4]) (by go_simp) (few3_v wq 4 (i := 4) rfl (SN1.out.below (grows_of hk.ext)) (SD1.out.below (grows_of hk.ext)) hlim1.out hlen1.out hlimd1.out hlend1.out (by decide) hf1 hg1) ?_
        rintro e w1 ⟨u, rfl, hu, hb⟩
        exact ⟨u, rfl, hK.out _ _ hb (fun w2 h2 => (hu).grow h2) (fun h => absurd h (by decide))⟩
      refine AllOps.cons (Does.plain rfl fun lq aq wq hk hr K hK => ?_) ?_
      · have B5 : ev aq (.tmp 5) = .pointer (some ⟨w.heap.size + 1 + 1, 0, none⟩) := hk.base 5 (by kernel_rfl) rfl
        have hb := grows_of hk.ext
        exact wp_of_value (op_load3 5 _ B5 (D2.out.below hb)) (hK.out _ _ (Grows.refl _) (fun w2 h2 => rfl) (fun h => absurd h (by decide)))
      refine AllOps.cons (Does.plain rfl fun lq aq wq hk hr K hK => ?_) ?_
      · obtain ⟨v4, E4, -, r4⟩ := hk.dep hr 4 15 (by kernel_rfl) (by kernel_rfl)
        replace E4 : ev aq (.tmp 15) = .agg #[.bool nP2, .slice AP2 lP2.length cP2, .slice BP2 rP2.length dP2] := E4.trans (r4 wq (Grows.refl wq))
        refine wp_of_call (f := 12) (vs := #[.agg #[.bool nP2, .slice AP2 lP2.length cP2, .slice BP2 rP2.length dP2], .int .i64 4]) (by go_simp) (few3_v wq 4 (i := 4) rfl (SN2.out.below (grows_of hk.ext)) (SD2.out.below (grows_of hk.ext)) hlim2.out hlen2.out hlimd2.out hlend2.out (by decide) hf2 hg2) ?_
        rintro e w1 ⟨u, rfl, hu, hb⟩
        exact ⟨u, rfl, hK.out _ _ hb (fun w2 h2 => (hu).grow h2) (fun h => absurd h (by decide))⟩
      exact AllOps.nil
    case fin =>
      intro V x2 hG hV hap
      have r1 : QL x2 (V 1) nP0 fP0 gP0 := hV 1 (by decide)
      have r3 : QL x2 (V 3) nP1 fP1 gP1 := hV 3 (by decide)
      have r5 : QL x2 (V 5) nP2 fP2 gP2 := hV 5 (by decide)
      clear hV hap
      simp only [List.take_succ_cons, List.take_zero, List.drop_succ_cons, List.drop_zero, putAll, Act.put, List.setIfInBounds_toArray, List.set_cons_zero, List.set_cons_succ]
      have hb := grows_of hG
      obtain ⟨Am3, cm3, Bm3, dm3, em3, sm3, tm3, hlm3, hmm3⟩ := r1
      simp only [em3]
      clear em3
      obtain ⟨Am4, cm4, Bm4, dm4, em4, sm4, tm4, hlm4, hmm4⟩ := r3
      simp only [em4]
      clear em4
      obtain ⟨Am5, cm5, Bm5, dm5, em5, sm5, tm5, hlm5, hmm5⟩ := r5
      simp only [em5]
      clear em5
      clear hG
      replace D0 := D0.out.below hb
      refine wpList_of_skip rfl (op_store3 3 12 _ rfl rfl D0) ?_
      replace D1 := Lib.hid (put3_far (x' := .bool nP0) (y' := .slice Am3 fP0.length cm3) (z' := .slice Bm3 gP0.length dm3) (D1.out.below hb) (show w.heap.size + 1 ≠ w.heap.size by omega))
      replace SN1 := Lib.hid ((SN1.out.below hb).put3 D0 (.bool nP0) (.slice Am3 fP0.length cm3) (.slice Bm3 gP0.length dm3))
      replace SD1 := Lib.hid ((SD1.out.below hb).put3 D0 (.bool nP0) (.slice Am3 fP0.length cm3) (.slice Bm3 gP0.length dm3))
      replace D2 := Lib.hid (put3_far (x' := .bool nP0) (y' := .slice Am3 fP0.length cm3) (z' := .slice Bm3 gP0.length dm3) (D2.out.below hb) (show w.heap.size + 1 + 1 ≠ w.heap.size by omega))
      replace SN2 := Lib.hid ((SN2.out.below hb).put3 D0 (.bool nP0) (.slice Am3 fP0.length cm3) (.slice Bm3 gP0.length dm3))
      replace SD2 := Lib.hid ((SD2.out.below hb).put3 D0 (.bool nP0) (.slice Am3 fP0.length cm3) (.slice Bm3 gP0.length dm3))
      replace sm4 := sm4.put3 D0 (.bool nP0) (.slice Am3 fP0.length cm3) (.slice Bm3 gP0.length dm3)
      replace tm4 := tm4.put3 D0 (.bool nP0) (.slice Am3 fP0.length cm3) (.slice Bm3 gP0.length dm3)
      replace sm5 := sm5.put3 D0 (.bool nP0) (.slice Am3 fP0.length cm3) (.slice Bm3 gP0.length dm3)
      replace tm5 := tm5.put3 D0 (.bool nP0) (.slice Am3 fP0.length cm3) (.slice Bm3 gP0.length dm3)
      replace SN0 := Lib.hid (sm3.put3 D0 (.bool nP0) (.slice Am3 fP0.length cm3) (.slice Bm3 gP0.length dm3))
      replace SD0 := Lib.hid (tm3.put3 D0 (.bool nP0) (.slice Am3 fP0.length cm3) (.slice Bm3 gP0.length dm3))
      replace HB := Lib.hid (put3_below (x' := .bool nP0) (y' := .slice Am3 fP0.length cm3) (z' := .slice Bm3 gP0.length dm3) (HB.out.trans (Below.mono hb HB.out.size)) (show w.heap.size ≤ w.heap.size by omega))
      replace D0 := Lib.hid (put3_own (x' := .bool nP0) (y' := .slice Am3 fP0.length cm3) (z' := .slice Bm3 gP0.length dm3) D0)
      clear hb sm3 tm3
      generalize put3 x2 w.heap.size (.bool nP0) (.slice Am3 fP0.length cm3) (.slice Bm3 gP0.length dm3) = y6 at *
      have hkm3 : szz (sg nP0 (val fP0)) ≤ 1000 := by unfold szz; rw [sg_natAbs]; exact Nat.le_trans (sz_num SN0.out) hlm3
      have hb := Below.refl (y6).heap.size (y6)
      replace D1 := D1.out.below hb
      refine wpList_of_skip rfl (op_store3 4 14 _ rfl rfl D1) ?_
      replace D0 := Lib.hid (put3_far (x' := .bool nP1) (y' := .slice Am4 fP1.length cm4) (z' := .slice Bm4 gP1.length dm4) (D0.out.below hb) (show w.heap.size ≠ w.heap.size + 1 by omega))
      replace SN0 := Lib.hid ((SN0.out.below hb).put3 D1 (.bool nP1) (.slice Am4 fP1.length cm4) (.slice Bm4 gP1.length dm4))
      replace SD0 := Lib.hid ((SD0.out.below hb).put3 D1 (.bool nP1) (.slice Am4 fP1.length cm4) (.slice Bm4 gP1.length dm4))
      replace D2 := Lib.hid (put3_far (x' := .bool nP1) (y' := .slice Am4 fP1.length cm4) (z' := .slice Bm4 gP1.length dm4) (D2.out.below hb) (show w.heap.size + 1 + 1 ≠ w.heap.size + 1 by omega))
      replace SN2 := Lib.hid ((SN2.out.below hb).put3 D1 (.bool nP1) (.slice Am4 fP1.length cm4) (.slice Bm4 gP1.length dm4))
      replace SD2 := Lib.hid ((SD2.out.below hb).put3 D1 (.bool nP1) (.slice Am4 fP1.length cm4) (.slice Bm4 gP1.length dm4))
      replace sm5 := sm5.put3 D1 (.bool nP1) (.slice Am4 fP1.length cm4) (.slice Bm4 gP1.length dm4)
      replace tm5 := tm5.put3 D1 (.bool nP1) (.slice Am4 fP1.length cm4) (.slice Bm4 gP1.length dm4)
      replace SN1 := Lib.hid (sm4.put3 D1 (.bool nP1) (.slice Am4 fP1.length cm4) (.slice Bm4 gP1.length dm4))
      replace SD1 := Lib.hid (tm4.put3 D1 (.bool nP1) (.slice Am4 fP1.length cm4) (.slice Bm4 gP1.length dm4))
      replace HB := Lib.hid (put3_below (x' := .bool nP1) (y' := .slice Am4 fP1.length cm4) (z' := .slice Bm4 gP1.length dm4) (HB.out.trans (Below.mono hb HB.out.size)) (show w.heap.size ≤ w.heap.size + 1 by omega))
      replace D1 := Lib.hid (put3_own (x' := .bool nP1) (y' := .slice Am4 fP1.length cm4) (z' := .slice Bm4 gP1.length dm4) D1)
      clear hb sm4 tm4
      generalize put3 y6 (w.heap.size + 1) (.bool nP1) (.slice Am4 fP1.length cm4) (.slice Bm4 gP1.length dm4) = y7 at *
      have hkm4 : szz (sg nP1 (val fP1)) ≤ 1000 := by unfold szz; rw [sg_natAbs]; exact Nat.le_trans (sz_num SN1.out) hlm4
      have hb := Below.refl (y7).heap.size (y7)
      replace D2 := D2.out.below hb
      refine wpList_of_skip rfl (op_store3 5 16 _ rfl rfl D2) ?_
      replace D0 := Lib.hid (put3_far (x' := .bool nP2) (y' := .slice Am5 fP2.length cm5) (z' := .slice Bm5 gP2.length dm5) (D0.out.below hb) (show w.heap.size ≠ w.heap.size + 1 + 1 by omega))
      replace SN0 := Lib.hid ((SN0.out.below hb).put3 D2 (.bool nP2) (.slice Am5 fP2.length cm5) (.slice Bm5 gP2.length dm5))
      replace SD0 := Lib.hid ((SD0.out.below hb).put3 D2 (.bool nP2) (.slice Am5 fP2.length cm5) (.slice Bm5 gP2.length dm5))
      replace D1 := Lib.hid (put3_far (x' := .bool nP2) (y' := .slice Am5 fP2.length cm5) (z' := .slice Bm5 gP2.length dm5) (D1.out.below hb) (show w.heap.size + 1 ≠ w.heap.size + 1 + 1 by omega))
      replace SN1 := Lib.hid ((SN1.out.below hb).put3 D2 (.bool nP2) (.slice Am5 fP2.length cm5) (.slice Bm5 gP2.length dm5))
      replace SD1 := Lib.hid ((SD1.out.below hb).put3 D2 (.bool nP2) (.slice Am5 fP2.length cm5) (.slice Bm5 gP2.length dm5))
      replace SN2 := Lib.hid (sm5.put3 D2 (.bool nP2) (.slice Am5 fP2.length cm5) (.slice Bm5 gP2.length dm5))
      replace SD2 := Lib.hid (tm5.put3 D2 (.bool nP2) (.slice Am5 fP2.length cm5) (.slice Bm5 gP2.length dm5))
      replace HB := Lib.hid (put3_below (x' := .bool nP2) (y' := .slice Am5 fP2.length cm5) (z' := .slice Bm5 gP2.length dm5) (HB.out.trans (Below.mono hb HB.out.size)) (show w.heap.size ≤ w.heap.size + 1 + 1 by omega))
      replace D2 := Lib.hid (put3_own (x' := .bool nP2) (y' := .slice Am5 fP2.length cm5) (z' := .slice Bm5 gP2.length dm5) D2)
      clear hb sm5 tm5
      generalize put3 y7 (w.heap.size + 1 + 1) (.bool nP2) (.slice Am5 fP2.length cm5) (.slice Bm5 gP2.length dm5) = y8 at *
      have hkm5 : szz (sg nP2 (val fP2)) ≤ 1000 := by unfold szz; rw [sg_natAbs]; exact Nat.le_trans (sz_num SN2.out) hlm5
      go_upto_region 4 with fail
      refine wp_region_going 46 [] ([fun vq wq => QL wq vq nP0 fP0 gP0,
          fun vq wq => QL wq vq nP1 fP1 gP1,
          fun vq wq => RV wq vq ((a + b)),
          fun vq wq => QL wq vq nP1 fP1 gP1,
          fun vq wq => QL wq vq nP0 fP0 gP0,
          fun vq wq => RV wq vq ((b + a)),
          fun vq _ => vq = .bool true,
          fun vq _ => vq = .bool false,
          fun vq _ => vq = .bool false,
          fun vq wq => QL wq vq nP0 fP0 gP0,
          fun vq wq => QL wq vq nP1 fP1 gP1,
          fun vq wq => RV wq vq ((a * b)),
          fun vq wq => QL wq vq nP1 fP1 gP1,
          fun vq wq => QL wq vq nP0 fP0 gP0,
          fun vq wq => RV wq vq ((b * a)),
          fun vq _ => vq = .bool true,
          fun vq _ => vq = .bool false,
          fun vq _ => vq = .bool false,
          fun vq _ => vq = .bool false,
          fun vq wq => QL wq vq nP0 fP0 gP0,
          fun vq wq => QL wq vq nP1 fP1 gP1,
          fun vq wq => RV wq vq ((a + b)),
          fun vq wq => QL wq vq nP2 fP2 gP2,
          fun vq wq => RV wq vq (((a + b) + c)),
          fun vq wq => QL wq vq nP0 fP0 gP0,
          fun vq wq => QL wq vq nP1 fP1 gP1,
          fun vq wq => QL wq vq nP2 fP2 gP2,
          fun vq wq => RV wq vq ((b + c)),
          fun vq wq => RV wq vq ((a + (b + c))),
          fun vq _ => vq = .bool true,
          fun vq _ => vq = .bool false,
          fun vq _ => vq = .bool false,
          fun vq _ => vq = .bool false,
          fun vq wq => QL wq vq nP0 fP0 gP0,
          fun vq wq => QL wq vq nP1 fP1 gP1,
          fun vq wq => RV wq vq ((a * b)),
          fun vq wq => QL wq vq nP2 fP2 gP2,
          fun vq wq => RV wq vq (((a * b) * c)),
          fun vq wq => QL wq vq nP0 fP0 gP0,
          fun vq wq => QL wq vq nP1 fP1 gP1,
          fun vq wq => QL wq vq nP2 fP2 gP2,
          fun vq wq => RV wq vq ((b * c)),
          fun vq wq => RV wq vq ((a * (b * c))),
          fun vq _ => vq = .bool true,
          fun vq _ => vq = .bool false,
          fun vq _ => vq = .bool false]) (by kernel_rfl) (by kernel_rfl) (by decide) (by kernel_rfl) (by kernel_rfl) ?hF ?steps ?fin
      case hF =>
        intro j hj; cases hj
      case steps =>
        refine AllOps.cons (Does.plain rfl fun lq aq wq hk hr K hK => ?_) ?_
        · have B3 : ev aq (.tmp 3) = .pointer (some ⟨w.heap.size, 0, none⟩) := hk.base 3 (by kernel_rfl) rfl
          have hb := grows_of hk.ext
          exact wp_of_value (op_load3 3 _ B3 (D0.out.below hb)) (hK.out _ _ (Grows.refl _) (fun w2 h2 => QL.grow ⟨_, _, _, _, rfl, (SN0.out.below hb), (SD0.out.below hb), hlm3, hmm3⟩ h2) (fun h => absurd h (by decide)))
        refine AllOps.cons (Does.plain rfl fun lq aq wq hk hr K hK => ?_) ?_
        · have B4 : ev aq (.tmp 4) = .pointer (some ⟨w.heap.size + 1, 0, none⟩) := hk.base 4 (by kernel_rfl) rfl
          have hb := grows_of hk.ext
          exact wp_of_value (op_load3 4 _ B4 (D1.out.below hb)) (hK.out _ _ (Grows.refl _) (fun w2 h2 => QL.grow ⟨_, _, _, _, rfl, (SN1.out.below hb), (SD1.out.below hb), hlm4, hmm4⟩ h2) (fun h => absurd h (by decide)))
        refine AllOps.cons (Does.plain rfl fun lq aq wq hk hr K hK => ?_) ?_
        · obtain ⟨v0, E0, -, r0⟩ := hk.dep hr 0 17 (by kernel_rfl) (by kernel_rfl)
          have r0 : QL wq v0 nP0 fP0 gP0 := r0 wq (Grows.refl wq)
          obtain ⟨v1, E1, -, r1⟩ := hk.dep hr 1 18 (by kernel_rfl) (by kernel_rfl)
          have r1 : QL wq v1 nP1 fP1 gP1 := r1 wq (Grows.refl wq)
          refine wp_of_call (f := 22) (vs := #[v0, v1]) (by go_simp) (qadd_v wq ((r0).qv.to hq0) ((r1).qv.to hq1) (hs0.mono (by decide)) (hs1.mono (by decide))) ?_
          rintro e w1 ⟨u, rfl, hu, hb⟩
          exact ⟨u, rfl, hK.out _ _ hb (fun w2 h2 => (hu).grow h2) (fun h => absurd h (by decide))⟩
        refine AllOps.cons (Does.plain rfl fun lq aq wq hk hr K hK => ?_) ?_
        · have B4 : ev aq (.tmp 4) = .pointer (some ⟨w.heap.size + 1, 0, none⟩) := hk.base 4 (by kernel_rfl) rfl
          have hb := grows_of hk.ext
          exact wp_of_value (op_load3 4 _ B4 (D1.out.below hb)) (hK.out _ _ (Grows.refl _) (fun w2 h2 => QL.grow ⟨_, _, _, _, rfl, (SN1.out.below hb), (SD1.out.below hb), hlm4, hmm4⟩ h2) (fun h => absurd h (by decide)))
        refine AllOps.cons (Does.plain rfl fun lq aq wq hk hr K hK => ?_) ?_
        · have B3 : ev aq (.tmp 3) = .pointer (some ⟨w.heap.size, 0, none⟩) := hk.base 3 (by kernel_rfl) rfl
          have hb := grows_of hk.ext
          exact wp_of_value (op_load3 3 _ B3 (D0.out.below hb)) (hK.out _ _ (Grows.refl _) (fun w2 h2 => QL.grow ⟨_, _, _, _, rfl, (SN0.out.below hb), (SD0.out.below hb), hlm3, hmm3⟩ h2) (fun h => absurd h (by decide)))
        refine AllOps.cons (Does.plain rfl fun lq aq wq hk hr K hK => ?_) ?_
        · obtain ⟨v3, E3, -, r3⟩ := hk.dep hr 3 20 (by kernel_rfl) (by kernel_rfl)
          have r3 : QL wq v3 nP1 fP1 gP1 := r3 wq (Grows.refl wq)
          obtain ⟨v4, E4, -, r4⟩ := hk.dep hr 4 21 (by kernel_rfl) (by kernel_rfl)
          have r4 : QL wq v4 nP0 fP0 gP0 := r4 wq (Grows.refl wq)
          refine wp_of_call (f := 22) (vs := #[v3, v4]) (by go_simp) (qadd_v wq ((r3).qv.to hq1) ((r4).qv.to hq0) (hs1.mono (by decide)) (hs0.mono (by decide))) ?_
          rintro e w1 ⟨u, rfl, hu, hb⟩
          exact ⟨u, rfl, hK.out _ _ hb (fun w2 h2 => (hu).grow h2) (fun h => absurd h (by decide))⟩
        refine AllOps.cons (Does.plain rfl fun lq aq wq hk hr K hK => ?_) ?_
        · obtain ⟨v2, E2, -, r2⟩ := hk.dep hr 2 19 (by kernel_rfl) (by kernel_rfl)
          have r2 : RV wq v2 ((a + b)) := r2 wq (Grows.refl wq)
          obtain ⟨v5, E5, -, r5⟩ := hk.dep hr 5 22 (by kernel_rfl) (by kernel_rfl)
          have r5 : RV wq v5 ((b + a)) := r5 wq (Grows.refl wq)
          refine wp_of_call (f := 15) (vs := #[v2, v5]) (by go_simp) (lsameR_v wq r2 r5 (t := true) (decide_eq_true (Rat.add_comm a b))) ?_
          rintro e w1 ⟨u, rfl, hu, hb⟩
          exact ⟨u, rfl, hK.out _ _ hb (fun w2 h2 => hu) (fun h => absurd h (by decide))⟩
        refine AllOps.cons (Does.plain rfl fun lq aq wq hk hr K hK => ?_) ?_
        · obtain ⟨v6, E6, -, r6⟩ := hk.dep hr 6 23 (by kernel_rfl) (by kernel_rfl)
          replace E6 : ev aq (.tmp 23) = .bool true := E6.trans (r6 wq (Grows.refl wq))
          exact wp_of_value (by go_simp) (hK.out _ _ (Grows.refl _) (fun w2 h2 => rfl) (fun h => absurd h (by decide)))
        refine AllOps.cons (Does.plain rfl fun lq aq wq hk hr K hK => ?_) ?_
        · obtain ⟨v7, E7, -, r7⟩ := hk.dep hr 7 24 (by kernel_rfl) (by kernel_rfl)
          replace E7 : ev aq (.tmp 24) = .bool false := E7.trans (r7 wq (Grows.refl wq))
          exact wp_of_value (by go_simp) (hK.out _ _ (Grows.refl _) (fun w2 h2 => rfl) (fun h => absurd h (by decide)))
        refine AllOps.cons (Does.lets (g := 8) (d := 25) (t := false) rfl (by kernel_rfl) (by kernel_rfl) (fun vq wq h => h wq (Grows.refl wq)) fun lq aq wq hk hr K hK => ?_) ?_
        · have B3 : ev aq (.tmp 3) = .pointer (some ⟨w.heap.size, 0, none⟩) := hk.base 3 (by kernel_rfl) rfl
          have hb := grows_of hk.ext
          exact wp_of_value (op_load3 3 _ B3 (D0.out.below hb)) (hK.out _ _ (Grows.refl _) (fun w2 h2 => QL.grow ⟨_, _, _, _, rfl, (SN0.out.below hb), (SD0.out.below hb), hlm3, hmm3⟩ h2) (fun h => absurd h (by decide)))
        refine AllOps.cons (Does.lets (g := 8) (d := 25) (t := false) rfl (by kernel_rfl) (by kernel_rfl) (fun vq wq h => h wq (Grows.refl wq)) fun lq aq wq hk hr K hK => ?_) ?_
        · have B4 : ev aq (.tmp 4) = .pointer (some ⟨w.heap.size + 1, 0, none⟩) := hk.base 4 (by kernel_rfl) rfl
          have hb := grows_of hk.ext
          exact wp_of_value (op_load3 4 _ B4 (D1.out.below hb)) (hK.out _ _ (Grows.refl _) (fun w2 h2 => QL.grow ⟨_, _, _, _, rfl, (SN1.out.below hb), (SD1.out.below hb), hlm4, hmm4⟩ h2) (fun h => absurd h (by decide)))
        refine AllOps.cons (Does.lets (g := 8) (d := 25) (t := false) rfl (by kernel_rfl) (by kernel_rfl) (fun vq wq h => h wq (Grows.refl wq)) fun lq aq wq hk hr K hK => ?_) ?_
        · obtain ⟨v9, E9, -, r9⟩ := hk.dep hr 9 26 (by kernel_rfl) (by kernel_rfl)
          have r9 : QL wq v9 nP0 fP0 gP0 := r9 wq (Grows.refl wq)
          obtain ⟨v10, E10, -, r10⟩ := hk.dep hr 10 27 (by kernel_rfl) (by kernel_rfl)
          have r10 : QL wq v10 nP1 fP1 gP1 := r10 wq (Grows.refl wq)
          refine wp_of_call (f := 26) (vs := #[v9, v10]) (by go_simp) (qmulK_v wq ((r9).qv.to hq0) ((r10).qv.to hq1) (hs0.mono (by decide)) (hs1.mono (by decide))) ?_
          rintro e w1 ⟨u, rfl, hu, hb⟩
          exact ⟨u, rfl, hK.out _ _ hb (fun w2 h2 => (hu).grow h2) (fun h => absurd h (by decide))⟩
        refine AllOps.cons (Does.lets (g := 8) (d := 25) (t := false) rfl (by kernel_rfl) (by kernel_rfl) (fun vq wq h => h wq (Grows.refl wq)) fun lq aq wq hk hr K hK => ?_) ?_
        · have B4 : ev aq (.tmp 4) = .pointer (some ⟨w.heap.size + 1, 0, none⟩) := hk.base 4 (by kernel_rfl) rfl
          have hb := grows_of hk.ext
          exact wp_of_value (op_load3 4 _ B4 (D1.out.below hb)) (hK.out _ _ (Grows.refl _) (fun w2 h2 => QL.grow ⟨_, _, _, _, rfl, (SN1.out.below hb), (SD1.out.below hb), hlm4, hmm4⟩ h2) (fun h => absurd h (by decide)))
        refine AllOps.cons (Does.lets (g := 8) (d := 25) (t := false) rfl (by kernel_rfl) (by kernel_rfl) (fun vq wq h => h wq (Grows.refl wq)) fun lq aq wq hk hr K hK => ?_) ?_
        · have B3 : ev aq (.tmp 3) = .pointer (some ⟨w.heap.size, 0, none⟩) := hk.base 3 (by kernel_rfl) rfl
          have hb := grows_of hk.ext
          exact wp_of_value (op_load3 3 _ B3 (D0.out.below hb)) (hK.out _ _ (Grows.refl _) (fun w2 h2 => QL.grow ⟨_, _, _, _, rfl, (SN0.out.below hb), (SD0.out.below hb), hlm3, hmm3⟩ h2) (fun h => absurd h (by decide)))
        refine AllOps.cons (Does.lets (g := 8) (d := 25) (t := false) rfl (by kernel_rfl) (by kernel_rfl) (fun vq wq h => h wq (Grows.refl wq)) fun lq aq wq hk hr K hK => ?_) ?_
        · obtain ⟨v12, E12, -, r12⟩ := hk.dep hr 12 29 (by kernel_rfl) (by kernel_rfl)
          have r12 : QL wq v12 nP1 fP1 gP1 := r12 wq (Grows.refl wq)
          obtain ⟨v13, E13, -, r13⟩ := hk.dep hr 13 30 (by kernel_rfl) (by kernel_rfl)
          have r13 : QL wq v13 nP0 fP0 gP0 := r13 wq (Grows.refl wq)
          refine wp_of_call (f := 26) (vs := #[v12, v13]) (by go_simp) (qmulK_v wq ((r12).qv.to hq1) ((r13).qv.to hq0) (hs1.mono (by decide)) (hs0.mono (by decide))) ?_
          rintro e w1 ⟨u, rfl, hu, hb⟩
          exact ⟨u, rfl, hK.out _ _ hb (fun w2 h2 => (hu).grow h2) (fun h => absurd h (by decide))⟩
        refine AllOps.cons (Does.lets (g := 8) (d := 25) (t := false) rfl (by kernel_rfl) (by kernel_rfl) (fun vq wq h => h wq (Grows.refl wq)) fun lq aq wq hk hr K hK => ?_) ?_
        · obtain ⟨v11, E11, -, r11⟩ := hk.dep hr 11 28 (by kernel_rfl) (by kernel_rfl)
          have r11 : RV wq v11 ((a * b)) := r11 wq (Grows.refl wq)
          obtain ⟨v14, E14, -, r14⟩ := hk.dep hr 14 31 (by kernel_rfl) (by kernel_rfl)
          have r14 : RV wq v14 ((b * a)) := r14 wq (Grows.refl wq)
          refine wp_of_call (f := 15) (vs := #[v11, v14]) (by go_simp) (lsameR_v wq r11 r14 (t := true) (decide_eq_true (Rat.mul_comm a b))) ?_
          rintro e w1 ⟨u, rfl, hu, hb⟩
          exact ⟨u, rfl, hK.out _ _ hb (fun w2 h2 => hu) (fun h => absurd h (by decide))⟩
        refine AllOps.cons (Does.lets (g := 8) (d := 25) (t := false) rfl (by kernel_rfl) (by kernel_rfl) (fun vq wq h => h wq (Grows.refl wq)) fun lq aq wq hk hr K hK => ?_) ?_
        · obtain ⟨v15, E15, -, r15⟩ := hk.dep hr 15 32 (by kernel_rfl) (by kernel_rfl)
          replace E15 : ev aq (.tmp 32) = .bool true := E15.trans (r15 wq (Grows.refl wq))
          exact wp_of_value (by go_simp) (hK.out _ _ (Grows.refl _) (fun w2 h2 => rfl) (fun h => absurd h (by decide)))
        refine AllOps.cons (Does.plain rfl fun lq aq wq hk hr K hK => ?_) ?_
        · obtain ⟨v8, E8, -, r8⟩ := hk.dep hr 8 25 (by kernel_rfl) (by kernel_rfl)
          replace E8 : ev aq (.tmp 25) = .bool false := E8.trans (r8 wq (Grows.refl wq))
          obtain ⟨v16, E16, -, r16⟩ := hk.dep hr 16 33 (by kernel_rfl) (by kernel_rfl)
          replace E16 : ev aq (.tmp 33) = .bool false := E16.trans (r16 wq (Grows.refl wq))
          exact wp_of_value (by go_simp) (hK.out _ _ (Grows.refl _) (fun w2 h2 => rfl) (fun h => absurd h (by decide)))
        refine AllOps.cons (Does.plain rfl fun lq aq wq hk hr K hK => ?_) ?_
        · obtain ⟨v17, E17, -, r17⟩ := hk.dep hr 17 34 (by kernel_rfl) (by kernel_rfl)
          replace E17 : ev aq (.tmp 34) = .bool false := E17.trans (r17 wq (Grows.refl wq))
          exact wp_of_value (by go_simp) (hK.out _ _ (Grows.refl _) (fun w2 h2 => rfl) (fun h => absurd h (by decide)))
        refine AllOps.cons (Does.lets (g := 18) (d := 35) (t := false) rfl (by kernel_rfl) (by kernel_rfl) (fun vq wq h => h wq (Grows.refl wq)) fun lq aq wq hk hr K hK => ?_) ?_
        · have B3 : ev aq (.tmp 3) = .pointer (some ⟨w.heap.size, 0, none⟩) := hk.base 3 (by kernel_rfl) rfl
          have hb := grows_of hk.ext
          exact wp_of_value (op_load3 3 _ B3 (D0.out.below hb)) (hK.out _ _ (Grows.refl _) (fun w2 h2 => QL.grow ⟨_, _, _, _, rfl, (SN0.out.below hb), (SD0.out.below hb), hlm3, hmm3⟩ h2) (fun h => absurd h (by decide)))
        refine AllOps.cons (Does.lets (g := 18) (d := 35) (t := false) rfl (by kernel_rfl) (by kernel_rfl) (fun vq wq h => h wq (Grows.refl wq)) fun lq aq wq hk hr K hK => ?_) ?_
        · have B4 : ev aq (.tmp 4) = .pointer (some ⟨w.heap.size + 1, 0, none⟩) := hk.base 4 (by kernel_rfl) rfl
          have hb := grows_of hk.ext
          exact wp_of_value (op_load3 4 _ B4 (D1.out.below hb)) (hK.out _ _ (Grows.refl _) (fun w2 h2 => QL.grow ⟨_, _, _, _, rfl, (SN1.out.below hb), (SD1.out.below hb), hlm4, hmm4⟩ h2) (fun h => absurd h (by decide)))
        refine AllOps.cons (Does.lets (g := 18) (d := 35) (t := false) rfl (by kernel_rfl) (by kernel_rfl) (fun vq wq h => h wq (Grows.refl wq)) fun lq aq wq hk hr K hK => ?_) ?_
        · obtain ⟨v19, E19, -, r19⟩ := hk.dep hr 19 36 (by kernel_rfl) (by kernel_rfl)
          have r19 : QL wq v19 nP0 fP0 gP0 := r19 wq (Grows.refl wq)
          obtain ⟨v20, E20, -, r20⟩ := hk.dep hr 20 37 (by kernel_rfl) (by kernel_rfl)
          have r20 : QL wq v20 nP1 fP1 gP1 := r20 wq (Grows.refl wq)
          refine wp_of_call (f := 22) (vs := #[v19, v20]) (by go_simp) (qadd_v wq ((r19).qv.to hq0) ((r20).qv.to hq1) (hs0.mono (by decide)) (hs1.mono (by decide))) ?_
          rintro e w1 ⟨u, rfl, hu, hb⟩
          exact ⟨u, rfl, hK.out _ _ hb (fun w2 h2 => (hu).grow h2) (fun h => absurd h (by decide))⟩
        refine AllOps.cons (Does.lets (g := 18) (d := 35) (t := false) rfl (by kernel_rfl) (by kernel_rfl) (fun vq wq h => h wq (Grows.refl wq)) fun lq aq wq hk hr K hK => ?_) ?_
        · have B5 : ev aq (.tmp 5) = .pointer (some ⟨w.heap.size + 1 + 1, 0, none⟩) := hk.base 5 (by kernel_rfl) rfl
          have hb := grows_of hk.ext
          exact wp_of_value (op_load3 5 _ B5 (D2.out.below hb)) (hK.out _ _ (Grows.refl _) (fun w2 h2 => QL.grow ⟨_, _, _, _, rfl, (SN2.out.below hb), (SD2.out.below hb), hlm5, hmm5⟩ h2) (fun h => absurd h (by decide)))
        refine AllOps.cons (Does.lets (g := 18) (d := 35) (t := false) rfl (by kernel_rfl) (by kernel_rfl) (fun vq wq h => h wq (Grows.refl wq)) fun lq aq wq hk hr K hK => ?_) ?_
        · obtain ⟨v21, E21, -, r21⟩ := hk.dep hr 21 38 (by kernel_rfl) (by kernel_rfl)
          have r21 : RV wq v21 ((a + b)) := r21 wq (Grows.refl wq)
          obtain ⟨v22, E22, -, r22⟩ := hk.dep hr 22 39 (by kernel_rfl) (by kernel_rfl)
          have r22 : QL wq v22 nP2 fP2 gP2 := r22 wq (Grows.refl wq)
          refine wp_of_call (f := 22) (vs := #[v21, v22]) (by go_simp) (qadd_v wq (r21).qv ((r22).qv.to hq2) ((hs0.add hs1).mono (by decide)) (hs2.mono (by decide))) ?_
          rintro e w1 ⟨u, rfl, hu, hb⟩
          exact ⟨u, rfl, hK.out _ _ hb (fun w2 h2 => (hu).grow h2) (fun h => absurd h (by decide))⟩
        refine AllOps.cons (Does.lets (g := 18) (d := 35) (t := false) rfl (by kernel_rfl) (by kernel_rfl) (fun vq wq h => h wq (Grows.refl wq)) fun lq aq wq hk hr K hK => ?_) ?_
        · have B3 : ev aq (.tmp 3) = .pointer (some ⟨w.heap.size, 0, none⟩) := hk.base 3 (by kernel_rfl) rfl
          have hb := grows_of hk.ext
          exact wp_of_value (op_load3 3 _ B3 (D0.out.below hb)) (hK.out _ _ (Grows.refl _) (fun w2 h2 => QL.grow ⟨_, _, _, _, rfl, (SN0.out.below hb), (SD0.out.below hb), hlm3, hmm3⟩ h2) (fun h => absurd h (by decide)))
        refine AllOps.cons (Does.lets (g := 18) (d := 35) (t := false) rfl (by kernel_rfl) (by kernel_rfl) (fun vq wq h => h wq (Grows.refl wq)) fun lq aq wq hk hr K hK => ?_) ?_
        · have B4 : ev aq (.tmp 4) = .pointer (some ⟨w.heap.size + 1, 0, none⟩) := hk.base 4 (by kernel_rfl) rfl
          have hb := grows_of hk.ext
          exact wp_of_value (op_load3 4 _ B4 (D1.out.below hb)) (hK.out _ _ (Grows.refl _) (fun w2 h2 => QL.grow ⟨_, _, _, _, rfl, (SN1.out.below hb), (SD1.out.below hb), hlm4, hmm4⟩ h2) (fun h => absurd h (by decide)))
        refine AllOps.cons (Does.lets (g := 18) (d := 35) (t := false) rfl (by kernel_rfl) (by kernel_rfl) (fun vq wq h => h wq (Grows.refl wq)) fun lq aq wq hk hr K hK => ?_) ?_
        · have B5 : ev aq (.tmp 5) = .pointer (some ⟨w.heap.size + 1 + 1, 0, none⟩) := hk.base 5 (by kernel_rfl) rfl
          have hb := grows_of hk.ext
          exact wp_of_value (op_load3 5 _ B5 (D2.out.below hb)) (hK.out _ _ (Grows.refl _) (fun w2 h2 => QL.grow ⟨_, _, _, _, rfl, (SN2.out.below hb), (SD2.out.below hb), hlm5, hmm5⟩ h2) (fun h => absurd h (by decide)))
        refine AllOps.cons (Does.lets (g := 18) (d := 35) (t := false) rfl (by kernel_rfl) (by kernel_rfl) (fun vq wq h => h wq (Grows.refl wq)) fun lq aq wq hk hr K hK => ?_) ?_
        · obtain ⟨v25, E25, -, r25⟩ := hk.dep hr 25 42 (by kernel_rfl) (by kernel_rfl)
          have r25 : QL wq v25 nP1 fP1 gP1 := r25 wq (Grows.refl wq)
          obtain ⟨v26, E26, -, r26⟩ := hk.dep hr 26 43 (by kernel_rfl) (by kernel_rfl)
          have r26 : QL wq v26 nP2 fP2 gP2 := r26 wq (Grows.refl wq)
          refine wp_of_call (f := 22) (vs := #[v25, v26]) (by go_simp) (qadd_v wq ((r25).qv.to hq1) ((r26).qv.to hq2) (hs1.mono (by decide)) (hs2.mono (by decide))) ?_
          rintro e w1 ⟨u, rfl, hu, hb⟩
          exact ⟨u, rfl, hK.out _ _ hb (fun w2 h2 => (hu).grow h2) (fun h => absurd h (by decide))⟩
        refine AllOps.cons (Does.lets (g := 18) (d := 35) (t := false) rfl (by kernel_rfl) (by kernel_rfl) (fun vq wq h => h wq (Grows.refl wq)) fun lq aq wq hk hr K hK => ?_) ?_
        · obtain ⟨v24, E24, -, r24⟩ := hk.dep hr 24 41 (by kernel_rfl) (by kernel_rfl)
          have r24 : QL wq v24 nP0 fP0 gP0 := r24 wq (Grows.refl wq)
          obtain ⟨v27, E27, -, r27⟩ := hk.dep hr 27 44 (by kernel_rfl) (by kernel_rfl)
          have r27 : RV wq v27 ((b + c)) := r27 wq (Grows.refl wq)
          refine wp_of_call (f := 22) (vs := #[v24, v27]) (by go_simp) (qadd_v wq ((r24).qv.to hq0) (r27).qv (hs0.mono (by decide)) ((hs1.add hs2).mono (by decide))) ?_
          rintro e w1 ⟨u, rfl, hu, hb⟩
          exact ⟨u, rfl, hK.out _ _ hb (fun w2 h2 => (hu).grow h2) (fun h => absurd h (by decide))⟩
        refine AllOps.cons (Does.lets (g := 18) (d := 35) (t := false) rfl (by kernel_rfl) (by kernel_rfl) (fun vq wq h => h wq (Grows.refl wq)) fun lq aq wq hk hr K hK => ?_) ?_
        · obtain ⟨v23, E23, -, r23⟩ := hk.dep hr 23 40 (by kernel_rfl) (by kernel_rfl)
          have r23 : RV wq v23 (((a + b) + c)) := r23 wq (Grows.refl wq)
          obtain ⟨v28, E28, -, r28⟩ := hk.dep hr 28 45 (by kernel_rfl) (by kernel_rfl)
          have r28 : RV wq v28 ((a + (b + c))) := r28 wq (Grows.refl wq)
          refine wp_of_call (f := 15) (vs := #[v23, v28]) (by go_simp) (lsameR_v wq r23 r28 (t := true) (decide_eq_true (Rat.add_assoc a b c))) ?_
          rintro e w1 ⟨u, rfl, hu, hb⟩
          exact ⟨u, rfl, hK.out _ _ hb (fun w2 h2 => hu) (fun h => absurd h (by decide))⟩
        refine AllOps.cons (Does.lets (g := 18) (d := 35) (t := false) rfl (by kernel_rfl) (by kernel_rfl) (fun vq wq h => h wq (Grows.refl wq)) fun lq aq wq hk hr K hK => ?_) ?_
        · obtain ⟨v29, E29, -, r29⟩ := hk.dep hr 29 46 (by kernel_rfl) (by kernel_rfl)
          replace E29 : ev aq (.tmp 46) = .bool true := E29.trans (r29 wq (Grows.refl wq))
          exact wp_of_value (by go_simp) (hK.out _ _ (Grows.refl _) (fun w2 h2 => rfl) (fun h => absurd h (by decide)))
        refine AllOps.cons (Does.plain rfl fun lq aq wq hk hr K hK => ?_) ?_
        · obtain ⟨v18, E18, -, r18⟩ := hk.dep hr 18 35 (by kernel_rfl) (by kernel_rfl)
          replace E18 : ev aq (.tmp 35) = .bool false := E18.trans (r18 wq (Grows.refl wq))
          obtain ⟨v30, E30, -, r30⟩ := hk.dep hr 30 47 (by kernel_rfl) (by kernel_rfl)
          replace E30 : ev aq (.tmp 47) = .bool false := E30.trans (r30 wq (Grows.refl wq))
          exact wp_of_value (by go_simp) (hK.out _ _ (Grows.refl _) (fun w2 h2 => rfl) (fun h => absurd h (by decide)))
        refine AllOps.cons (Does.plain rfl fun lq aq wq hk hr K hK => ?_) ?_
        · obtain ⟨v31, E31, -, r31⟩ := hk.dep hr 31 48 (by kernel_rfl) (by kernel_rfl)
          replace E31 : ev aq (.tmp 48) = .bool false := E31.trans (r31 wq (Grows.refl wq))
          exact wp_of_value (by go_simp) (hK.out _ _ (Grows.refl _) (fun w2 h2 => rfl) (fun h => absurd h (by decide)))
        refine AllOps.cons (Does.lets (g := 32) (d := 49) (t := false) rfl (by kernel_rfl) (by kernel_rfl) (fun vq wq h => h wq (Grows.refl wq)) fun lq aq wq hk hr K hK => ?_) ?_
        · have B3 : ev aq (.tmp 3) = .pointer (some ⟨w.heap.size, 0, none⟩) := hk.base 3 (by kernel_rfl) rfl
          have hb := grows_of hk.ext
          exact wp_of_value (op_load3 3 _ B3 (D0.out.below hb)) (hK.out _ _ (Grows.refl _) (fun w2 h2 => QL.grow ⟨_, _, _, _, rfl, (SN0.out.below hb), (SD0.out.below hb), hlm3, hmm3⟩ h2) (fun h => absurd h (by decide)))
        refine AllOps.cons (Does.lets (g := 32) (d := 49) (t := false) rfl (by kernel_rfl) (by kernel_rfl) (fun vq wq h => h wq (Grows.refl wq)) fun lq aq wq hk hr K hK => ?_) ?_
        · have B4 : ev aq (.tmp 4) = .pointer (some ⟨w.heap.size + 1, 0, none⟩) := hk.base 4 (by kernel_rfl) rfl
          have hb := grows_of hk.ext
          exact wp_of_value (op_load3 4 _ B4 (D1.out.below hb)) (hK.out _ _ (Grows.refl _) (fun w2 h2 => QL.grow ⟨_, _, _, _, rfl, (SN1.out.below hb), (SD1.out.below hb), hlm4, hmm4⟩ h2) (fun h => absurd h (by decide)))
        refine AllOps.cons (Does.lets (g := 32) (d := 49) (t := false) rfl (by kernel_rfl) (by kernel_rfl) (fun vq wq h => h wq (Grows.refl wq)) fun lq aq wq hk hr K hK => ?_) ?_
        · obtain ⟨v33, E33, -, r33⟩ := hk.dep hr 33 50 (by kernel_rfl) (by kernel_rfl)
          have r33 : QL wq v33 nP0 fP0 gP0 := r33 wq (Grows.refl wq)
          obtain ⟨v34, E34, -, r34⟩ := hk.dep hr 34 51 (by kernel_rfl) (by kernel_rfl)
          have r34 : QL wq v34 nP1 fP1 gP1 := r34 wq (Grows.refl wq)
          refine wp_of_call (f := 26) (vs := #[v33, v34]) (by go_simp) (qmulK_v wq ((r33).qv.to hq0) ((r34).qv.to hq1) (hs0.mono (by decide)) (hs1.mono (by decide))) ?_
          rintro e w1 ⟨u, rfl, hu, hb⟩
          exact ⟨u, rfl, hK.out _ _ hb (fun w2 h2 => (hu).grow h2) (fun h => absurd h (by decide))⟩
        refine AllOps.cons (Does.lets (g := 32) (d := 49) (t := false) rfl (by kernel_rfl) (by kernel_rfl) (fun vq wq h => h wq (Grows.refl wq)) fun lq aq wq hk hr K hK => ?_) ?_
        · have B5 : ev aq (.tmp 5) = .pointer (some ⟨w.heap.size + 1 + 1, 0, none⟩) := hk.base 5 (by kernel_rfl) rfl
          have hb := grows_of hk.ext
          exact wp_of_value (op_load3 5 _ B5 (D2.out.below hb)) (hK.out _ _ (Grows.refl _) (fun w2 h2 => QL.grow ⟨_, _, _, _, rfl, (SN2.out.below hb), (SD2.out.below hb), hlm5, hmm5⟩ h2) (fun h => absurd h (by decide)))
        refine AllOps.cons (Does.lets (g := 32) (d := 49) (t := false) rfl (by kernel_rfl) (by kernel_rfl) (fun vq wq h => h wq (Grows.refl wq)) fun lq aq wq hk hr K hK => ?_) ?_
        · obtain ⟨v35, E35, -, r35⟩ := hk.dep hr 35 52 (by kernel_rfl) (by kernel_rfl)
          have r35 : RV wq v35 ((a * b)) := r35 wq (Grows.refl wq)
          obtain ⟨v36, E36, -, r36⟩ := hk.dep hr 36 53 (by kernel_rfl) (by kernel_rfl)
          have r36 : QL wq v36 nP2 fP2 gP2 := r36 wq (Grows.refl wq)
          refine wp_of_call (f := 26) (vs := #[v35, v36]) (by go_simp) (qmulK_v wq (r35).qv ((r36).qv.to hq2) ((hs0.mul hs1).mono (by decide)) (hs2.mono (by decide))) ?_
          rintro e w1 ⟨u, rfl, hu, hb⟩
          exact ⟨u, rfl, hK.out _ _ hb (fun w2 h2 => (hu).grow h2) (fun h => absurd h (by decide))⟩
        refine AllOps.cons (Does.lets (g := 32) (d := 49) (t := false) rfl (by kernel_rfl) (by kernel_rfl) (fun vq wq h => h wq (Grows.refl wq)) fun lq aq wq hk hr K hK => ?_) ?_
        · have B3 : ev aq (.tmp 3) = .pointer (some ⟨w.heap.size, 0, none⟩) := hk.base 3 (by kernel_rfl) rfl
          have hb := grows_of hk.ext
          exact wp_of_value (op_load3 3 _ B3 (D0.out.below hb)) (hK.out _ _ (Grows.refl _) (fun w2 h2 => QL.grow ⟨_, _, _, _, rfl, (SN0.out.below hb), (SD0.out.below hb), hlm3, hmm3⟩ h2) (fun h => absurd h (by decide)))
        refine AllOps.cons (Does.lets (g := 32) (d := 49) (t := false) rfl (by kernel_rfl) (by kernel_rfl) (fun vq wq h => h wq (Grows.refl wq)) fun lq aq wq hk hr K hK => ?_) ?_
        · have B4 : ev aq (.tmp 4) = .pointer (some ⟨w.heap.size + 1, 0, none⟩) := hk.base 4 (by kernel_rfl) rfl
          have hb := grows_of hk.ext
          exact wp_of_value (op_load3 4 _ B4 (D1.out.below hb)) (hK.out _ _ (Grows.refl _) (fun w2 h2 => QL.grow ⟨_, _, _, _, rfl, (SN1.out.below hb), (SD1.out.below hb), hlm4, hmm4⟩ h2) (fun h => absurd h (by decide)))
        refine AllOps.cons (Does.lets (g := 32) (d := 49) (t := false) rfl (by kernel_rfl) (by kernel_rfl) (fun vq wq h => h wq (Grows.refl wq)) fun lq aq wq hk hr K hK => ?_) ?_
        · have B5 : ev aq (.tmp 5) = .pointer (some ⟨w.heap.size + 1 + 1, 0, none⟩) := hk.base 5 (by kernel_rfl) rfl
          have hb := grows_of hk.ext
          exact wp_of_value (op_load3 5 _ B5 (D2.out.below hb)) (hK.out _ _ (Grows.refl _) (fun w2 h2 => QL.grow ⟨_, _, _, _, rfl, (SN2.out.below hb), (SD2.out.below hb), hlm5, hmm5⟩ h2) (fun h => absurd h (by decide)))
        refine AllOps.cons (Does.lets (g := 32) (d := 49) (t := false) rfl (by kernel_rfl) (by kernel_rfl) (fun vq wq h => h wq (Grows.refl wq)) fun lq aq wq hk hr K hK => ?_) ?_
        · obtain ⟨v39, E39, -, r39⟩ := hk.dep hr 39 56 (by kernel_rfl) (by kernel_rfl)
          have r39 : QL wq v39 nP1 fP1 gP1 := r39 wq (Grows.refl wq)
          obtain ⟨v40, E40, -, r40⟩ := hk.dep hr 40 57 (by kernel_rfl) (by kernel_rfl)
          have r40 : QL wq v40 nP2 fP2 gP2 := r40 wq (Grows.refl wq)
          refine wp_of_call (f := 26) (vs := #[v39, v40]) (by go_simp) (qmulK_v wq ((r39).qv.to hq1) ((r40).qv.to hq2) (hs1.mono (by decide)) (hs2.mono (by decide))) ?_
          rintro e w1 ⟨u, rfl, hu, hb⟩
          exact ⟨u, rfl, hK.out _ _ hb (fun w2 h2 => (hu).grow h2) (fun h => absurd h (by decide))⟩
        refine AllOps.cons (Does.lets (g := 32) (d := 49) (t := false) rfl (by kernel_rfl) (by kernel_rfl) (fun vq wq h => h wq (Grows.refl wq)) fun lq aq wq hk hr K hK => ?_) ?_
        · obtain ⟨v38, E38, -, r38⟩ := hk.dep hr 38 55 (by kernel_rfl) (by kernel_rfl)
          have r38 : QL wq v38 nP0 fP0 gP0 := r38 wq (Grows.refl wq)
          obtain ⟨v41, E41, -, r41⟩ := hk.dep hr 41 58 (by kernel_rfl) (by kernel_rfl)
          have r41 : RV wq v41 ((b * c)) := r41 wq (Grows.refl wq)
          refine wp_of_call (f := 26) (vs := #[v38, v41]) (by go_simp) (qmulK_v wq ((r38).qv.to hq0) (r41).qv (hs0.mono (by decide)) ((hs1.mul hs2).mono (by decide))) ?_
          rintro e w1 ⟨u, rfl, hu, hb⟩
          exact ⟨u, rfl, hK.out _ _ hb (fun w2 h2 => (hu).grow h2) (fun h => absurd h (by decide))⟩
        refine AllOps.cons (Does.lets (g := 32) (d := 49) (t := false) rfl (by kernel_rfl) (by kernel_rfl) (fun vq wq h => h wq (Grows.refl wq)) fun lq aq wq hk hr K hK => ?_) ?_
        · obtain ⟨v37, E37, -, r37⟩ := hk.dep hr 37 54 (by kernel_rfl) (by kernel_rfl)
          have r37 : RV wq v37 (((a * b) * c)) := r37 wq (Grows.refl wq)
          obtain ⟨v42, E42, -, r42⟩ := hk.dep hr 42 59 (by kernel_rfl) (by kernel_rfl)
          have r42 : RV wq v42 ((a * (b * c))) := r42 wq (Grows.refl wq)
          refine wp_of_call (f := 15) (vs := #[v37, v42]) (by go_simp) (lsameR_v wq r37 r42 (t := true) (decide_eq_true (Rat.mul_assoc a b c))) ?_
          rintro e w1 ⟨u, rfl, hu, hb⟩
          exact ⟨u, rfl, hK.out _ _ hb (fun w2 h2 => hu) (fun h => absurd h (by decide))⟩
        refine AllOps.cons (Does.lets (g := 32) (d := 49) (t := false) rfl (by kernel_rfl) (by kernel_rfl) (fun vq wq h => h wq (Grows.refl wq)) fun lq aq wq hk hr K hK => ?_) ?_
        · obtain ⟨v43, E43, -, r43⟩ := hk.dep hr 43 60 (by kernel_rfl) (by kernel_rfl)
          replace E43 : ev aq (.tmp 60) = .bool true := E43.trans (r43 wq (Grows.refl wq))
          exact wp_of_value (by go_simp) (hK.out _ _ (Grows.refl _) (fun w2 h2 => rfl) (fun h => absurd h (by decide)))
        refine AllOps.cons (Does.plain rfl fun lq aq wq hk hr K hK => ?_) ?_
        · obtain ⟨v32, E32, -, r32⟩ := hk.dep hr 32 49 (by kernel_rfl) (by kernel_rfl)
          replace E32 : ev aq (.tmp 49) = .bool false := E32.trans (r32 wq (Grows.refl wq))
          obtain ⟨v44, E44, -, r44⟩ := hk.dep hr 44 61 (by kernel_rfl) (by kernel_rfl)
          replace E44 : ev aq (.tmp 61) = .bool false := E44.trans (r44 wq (Grows.refl wq))
          exact wp_of_value (by go_simp) (hK.out _ _ (Grows.refl _) (fun w2 h2 => rfl) (fun h => absurd h (by decide)))
        exact AllOps.nil
      case fin =>
        intro V x9 hG hV hap
        have r28 : RV x9 (V 28) ((a + (b + c))) := hV 28 (by decide)
        have r45 : (V 45) = .bool false := hV 45 (by decide)
        clear hV hap
        simp only [List.take_succ_cons, List.take_nil, List.drop_succ_cons, List.drop_nil, putAll, Act.put, List.setIfInBounds_toArray, List.set_cons_zero, List.set_cons_succ]
        have hb := grows_of hG
        replace D0 := Lib.hid (D0.out.below hb)
        replace SN0 := Lib.hid (SN0.out.below hb)
        replace SD0 := Lib.hid (SD0.out.below hb)
        replace D1 := Lib.hid (D1.out.below hb)
        replace SN1 := Lib.hid (SN1.out.below hb)
        replace SD1 := Lib.hid (SD1.out.below hb)
        replace D2 := Lib.hid (D2.out.below hb)
        replace SN2 := Lib.hid (SN2.out.below hb)
        replace SD2 := Lib.hid (SD2.out.below hb)
        replace HB := Lib.hid (HB.out.trans (Below.mono hb HB.out.size))
        clear hb hG
        rw [r45]
        clear r45
        go_upto_region 6 with fail
        refine wp_region_going 34 [] ([fun vq wq => QL wq vq nP0 fP0 gP0,
            fun vq wq => QL wq vq nP1 fP1 gP1,
            fun vq wq => QL wq vq nP2 fP2 gP2,
            fun vq wq => RV wq vq ((b + c)),
            fun vq wq => RV wq vq ((a * (b + c))),
            fun vq wq => QL wq vq nP0 fP0 gP0,
            fun vq wq => QL wq vq nP1 fP1 gP1,
            fun vq wq => RV wq vq ((a * b)),
            fun vq wq => QL wq vq nP0 fP0 gP0,
            fun vq wq => QL wq vq nP2 fP2 gP2,
            fun vq wq => RV wq vq ((a * c)),
            fun vq wq => RV wq vq (((a * b) + (a * c))),
            fun vq _ => vq = .bool true,
            fun vq _ => vq = .bool false,
            fun vq _ => vq = .bool false,
            fun vq wq => QL wq vq nP0 fP0 gP0,
            fun vq wq => QL wq vq nP1 fP1 gP1,
            fun vq wq => RV wq vq ((a - b)),
            fun vq wq => QL wq vq nP1 fP1 gP1,
            fun vq wq => RV wq vq (((a - b) + b)),
            fun vq wq => QL wq vq nP0 fP0 gP0,
            fun vq wq => RV wq vq (((0 : Int) : Rat)),
            fun vq wq => RV wq vq ((a + ((0 : Int) : Rat))),
            fun vq _ => vq = .bool true,
            fun vq _ => vq = .bool false,
            fun vq _ => vq = .bool false,
            fun vq _ => vq = .bool false,
            fun vq wq => QL wq vq nP0 fP0 gP0,
            fun vq wq => QL wq vq nP0 fP0 gP0,
            fun vq wq => RV wq vq ((-a)),
            fun vq wq => RV wq vq ((a + (-a))),
            fun vq _ => vq = .int .i64 0,
            fun vq _ => vq = .bool false,
            fun vq _ => vq = .bool false]) (by kernel_rfl) (by kernel_rfl) (by decide) (by kernel_rfl) (by kernel_rfl) ?hF ?steps ?fin
        case hF =>
          intro j hj; cases hj
        case steps =>
          refine AllOps.cons (Does.plain rfl fun lq aq wq hk hr K hK => ?_) ?_
          · have B3 : ev aq (.tmp 3) = .pointer (some ⟨w.heap.size, 0, none⟩) := hk.base 3 (by kernel_rfl) rfl
            have hb := grows_of hk.ext
            exact wp_of_value (op_load3 3 _ B3 (D0.out.below hb)) (hK.out _ _ (Grows.refl _) (fun w2 h2 => QL.grow ⟨_, _, _, _, rfl, (SN0.out.below hb), (SD0.out.below hb), hlm3, hmm3⟩ h2) (fun h => absurd h (by decide)))
          refine AllOps.cons (Does.plain rfl fun lq aq wq hk hr K hK => ?_) ?_
          · have B4 : ev aq (.tmp 4) = .pointer (some ⟨w.heap.size + 1, 0, none⟩) := hk.base 4 (by kernel_rfl) rfl
            have hb := grows_of hk.ext
            exact wp_of_value (op_load3 4 _ B4 (D1.out.below hb)) (hK.out _ _ (Grows.refl _) (fun w2 h2 => QL.grow ⟨_, _, _, _, rfl, (SN1.out.below hb), (SD1.out.below hb), hlm4, hmm4⟩ h2) (fun h => absurd h (by decide)))
          refine AllOps.cons (Does.plain rfl fun lq aq wq hk hr K hK => ?_) ?_
          · have B5 : ev aq (.tmp 5) = .pointer (some ⟨w.heap.size + 1 + 1, 0, none⟩) := hk.base 5 (by kernel_rfl) rfl
            have hb := grows_of hk.ext
            exact wp_of_value (op_load3 5 _ B5 (D2.out.below hb)) (hK.out _ _ (Grows.refl _) (fun w2 h2 => QL.grow ⟨_, _, _, _, rfl, (SN2.out.below hb), (SD2.out.below hb), hlm5, hmm5⟩ h2) (fun h => absurd h (by decide)))
          refine AllOps.cons (Does.plain rfl fun lq aq wq hk hr K hK => ?_) ?_
          · obtain ⟨v1, E1, -, r1⟩ := hk.dep hr 1 64 (by kernel_rfl) (by kernel_rfl)
            have r1 : QL wq v1 nP1 fP1 gP1 := r1 wq (Grows.refl wq)
            obtain ⟨v2, E2, -, r2⟩ := hk.dep hr 2 65 (by kernel_rfl) (by kernel_rfl)
            have r2 : QL wq v2 nP2 fP2 gP2 := r2 wq (Grows.refl wq)
            refine wp_of_call (f := 22) (vs := #[v1, v2]) (by go_simp) (qadd_v wq ((r1).qv.to hq1) ((r2).qv.to hq2) (hs1.mono (by decide)) (hs2.mono (by decide))) ?_
            rintro e w1 ⟨u, rfl, hu, hb⟩
            exact ⟨u, rfl, hK.out _ _ hb (fun w2 h2 => (hu).grow h2) (fun h => absurd h (by decide))⟩
          refine AllOps.cons (Does.plain rfl fun lq aq wq hk hr K hK => ?_) ?_
          · obtain ⟨v0, E0, -, r0⟩ := hk.dep hr 0 63 (by kernel_rfl) (by kernel_rfl)
            have r0 : QL wq v0 nP0 fP0 gP0 := r0 wq (Grows.refl wq)
            obtain ⟨v3, E3, -, r3⟩ := hk.dep hr 3 66 (by kernel_rfl) (by kernel_rfl)
            have r3 : RV wq v3 ((b + c)) := r3 wq (Grows.refl wq)
            refine wp_of_call (f := 26) (vs := #[v0, v3]) (by go_simp) (qmulK_v wq ((r0).qv.to hq0) (r3).qv (hs0.mono (by decide)) ((hs1.add hs2).mono (by decide))) ?_
            rintro e w1 ⟨u, rfl, hu, hb⟩
            exact ⟨u, rfl, hK.out _ _ hb (fun w2 h2 => (hu).grow h2) (fun h => absurd h (by decide))⟩
          refine AllOps.cons (Does.plain rfl fun lq aq wq hk hr K hK => ?_) ?_
          · have B3 : ev aq (.tmp 3) = .pointer (some ⟨w.heap.size, 0, none⟩) := hk.base 3 (by kernel_rfl) rfl
            have hb := grows_of hk.ext
            exact wp_of_value (op_load3 3 _ B3 (D0.out.below hb)) (hK.out _ _ (Grows.refl _) (fun w2 h2 => QL.grow ⟨_, _, _, _, rfl, (SN0.out.below hb), (SD0.out.below hb), hlm3, hmm3⟩ h2) (fun h => absurd h (by decide)))
          refine AllOps.cons (Does.plain rfl fun lq aq wq hk hr K hK => ?_) ?_
          · have B4 : ev aq (.tmp 4) = .pointer (some ⟨w.heap.size + 1, 0, none⟩) := hk.base 4 (by kernel_rfl) rfl
            have hb := grows_of hk.ext
            exact wp_of_value (op_load3 4 _ B4 (D1.out.below hb)) (hK.out _ _ (Grows.refl _) (fun w2 h2 => QL.grow ⟨_, _, _, _, rfl, (SN1.out.below hb), (SD1.out.below hb), hlm4, hmm4⟩ h2) (fun h => absurd h (by decide)))
          refine AllOps.cons (Does.plain rfl fun lq aq wq hk hr K hK => ?_) ?_
          · obtain ⟨v5, E5, -, r5⟩ := hk.dep hr 5 68 (by kernel_rfl) (by kernel_rfl)
            have r5 : QL wq v5 nP0 fP0 gP0 := r5 wq (Grows.refl wq)
            obtain ⟨v6, E6, -, r6⟩ := hk.dep hr 6 69 (by kernel_rfl) (by kernel_rfl)
            have r6 : QL wq v6 nP1 fP1 gP1 := r6 wq (Grows.refl wq)
            refine wp_of_call (f := 26) (vs := #[v5, v6]) (by go_simp) (qmulK_v wq ((r5).qv.to hq0) ((r6).qv.to hq1) (hs0.mono (by decide)) (hs1.mono (by decide))) ?_
            rintro e w1 ⟨u, rfl, hu, hb⟩
            exact ⟨u, rfl, hK.out _ _ hb (fun w2 h2 => (hu).grow h2) (fun h => absurd h (by decide))⟩
          refine AllOps.cons (Does.plain rfl fun lq aq wq hk hr K hK => ?_) ?_
          · have B3 : ev aq (.tmp 3) = .pointer (some ⟨w.heap.size, 0, none⟩) := hk.base 3 (by kernel_rfl) rfl
            have hb := grows_of hk.ext
            exact wp_of_value (op_load3 3 _ B3 (D0.out.below hb)) (hK.out _ _ (Grows.refl _) (fun w2 h2 => QL.grow ⟨_, _, _, _, rfl, (SN0.out.below hb), (SD0.out.below hb), hlm3, hmm3⟩ h2) (fun h => absurd h (by decide)))
          refine AllOps.cons (Does.plain rfl fun lq aq wq hk hr K hK => ?_) ?_
          · have B5 : ev aq (.tmp 5) = .pointer (some ⟨w.heap.size + 1 + 1, 0, none⟩) := hk.base 5 (by kernel_rfl) rfl
            have hb := grows_of hk.ext
            exact wp_of_value (op_load3 5 _ B5 (D2.out.below hb)) (hK.out _ _ (Grows.refl _) (fun w2 h2 => QL.grow ⟨_, _, _, _, rfl, (SN2.out.below hb), (SD2.out.below hb), hlm5, hmm5⟩ h2) (fun h => absurd h (by decide)))
          refine AllOps.cons (Does.plain rfl fun lq aq wq hk hr K hK => ?_) ?_
          · obtain ⟨v8, E8, -, r8⟩ := hk.dep hr 8 71 (by kernel_rfl) (by kernel_rfl)
            have r8 : QL wq v8 nP0 fP0 gP0 := r8 wq (Grows.refl wq)
            obtain ⟨v9, E9, -, r9⟩ := hk.dep hr 9 72 (by kernel_rfl) (by kernel_rfl)
            have r9 : QL wq v9 nP2 fP2 gP2 := r9 wq (Grows.refl wq)
            refine wp_of_call (f := 26) (vs := #[v8, v9]) (by go_simp) (qmulK_v wq ((r8).qv.to hq0) ((r9).qv.to hq2) (hs0.mono (by decide)) (hs2.mono (by decide))) ?_
            rintro e w1 ⟨u, rfl, hu, hb⟩
            exact ⟨u, rfl, hK.out _ _ hb (fun w2 h2 => (hu).grow h2) (fun h => absurd h (by decide))⟩
          refine AllOps.cons (Does.plain rfl fun lq aq wq hk hr K hK => ?_) ?_
          · obtain ⟨v7, E7, -, r7⟩ := hk.dep hr 7 70 (by kernel_rfl) (by kernel_rfl)
            have r7 : RV wq v7 ((a * b)) := r7 wq (Grows.refl wq)
            obtain ⟨v10, E10, -, r10⟩ := hk.dep hr 10 73 (by kernel_rfl) (by kernel_rfl)
            have r10 : RV wq v10 ((a * c)) := r10 wq (Grows.refl wq)
            refine wp_of_call (f := 22) (vs := #[v7, v10]) (by go_simp) (qadd_v wq (r7).qv (r10).qv ((hs0.mul hs1).mono (by decide)) ((hs0.mul hs2).mono (by decide))) ?_
            rintro e w1 ⟨u, rfl, hu, hb⟩
            exact ⟨u, rfl, hK.out _ _ hb (fun w2 h2 => (hu).grow h2) (fun h => absurd h (by decide))⟩
          refine AllOps.cons (Does.plain rfl fun lq aq wq hk hr K hK => ?_) ?_
          · obtain ⟨v4, E4, -, r4⟩ := hk.dep hr 4 67 (by kernel_rfl) (by kernel_rfl)
            have r4 : RV wq v4 ((a * (b + c))) := r4 wq (Grows.refl wq)
            obtain ⟨v11, E11, -, r11⟩ := hk.dep hr 11 74 (by kernel_rfl) (by kernel_rfl)
            have r11 : RV wq v11 (((a * b) + (a * c))) := r11 wq (Grows.refl wq)
            refine wp_of_call (f := 15) (vs := #[v4, v11]) (by go_simp) (lsameR_v wq r4 r11 (t := true) (decide_eq_true (Rat.mul_add a b c))) ?_
            rintro e w1 ⟨u, rfl, hu, hb⟩
            exact ⟨u, rfl, hK.out _ _ hb (fun w2 h2 => hu) (fun h => absurd h (by decide))⟩
          refine AllOps.cons (Does.plain rfl fun lq aq wq hk hr K hK => ?_) ?_
          · obtain ⟨v12, E12, -, r12⟩ := hk.dep hr 12 75 (by kernel_rfl) (by kernel_rfl)
            replace E12 : ev aq (.tmp 75) = .bool true := E12.trans (r12 wq (Grows.refl wq))
            exact wp_of_value (by go_simp) (hK.out _ _ (Grows.refl _) (fun w2 h2 => rfl) (fun h => absurd h (by decide)))
          refine AllOps.cons (Does.plain rfl fun lq aq wq hk hr K hK => ?_) ?_
          · obtain ⟨v13, E13, -, r13⟩ := hk.dep hr 13 76 (by kernel_rfl) (by kernel_rfl)
            replace E13 : ev aq (.tmp 76) = .bool false := E13.trans (r13 wq (Grows.refl wq))
            exact wp_of_value (by go_simp) (hK.out _ _ (Grows.refl _) (fun w2 h2 => rfl) (fun h => absurd h (by decide)))
          refine AllOps.cons (Does.lets (g := 14) (d := 77) (t := false) rfl (by kernel_rfl) (by kernel_rfl) (fun vq wq h => h wq (Grows.refl wq)) fun lq aq wq hk hr K hK => ?_) ?_
          · have B3 : ev aq (.tmp 3) = .pointer (some ⟨w.heap.size, 0, none⟩) := hk.base 3 (by kernel_rfl) rfl
            have hb := grows_of hk.ext
            exact wp_of_value (op_load3 3 _ B3 (D0.out.below hb)) (hK.out _ _ (Grows.refl _) (fun w2 h2 => QL.grow ⟨_, _, _, _, rfl, (SN0.out.below hb), (SD0.out.below hb), hlm3, hmm3⟩ h2) (fun h => absurd h (by decide)))
          refine AllOps.cons (Does.lets (g := 14) (d := 77) (t := false) rfl (by kernel_rfl) (by kernel_rfl) (fun vq wq h => h wq (Grows.refl wq)) fun lq aq wq hk hr K hK => ?_) ?_
          · have B4 : ev aq (.tmp 4) = .pointer (some ⟨w.heap.size + 1, 0, none⟩) := hk.base 4 (by kernel_rfl) rfl
            have hb := grows_of hk.ext
            exact wp_of_value (op_load3 4 _ B4 (D1.out.below hb)) (hK.out _ _ (Grows.refl _) (fun w2 h2 => QL.grow ⟨_, _, _, _, rfl, (SN1.out.below hb), (SD1.out.below hb), hlm4, hmm4⟩ h2) (fun h => absurd h (by decide)))
          refine AllOps.cons (Does.lets (g := 14) (d := 77) (t := false) rfl (by kernel_rfl) (by kernel_rfl) (fun vq wq h => h wq (Grows.refl wq)) fun lq aq wq hk hr K hK => ?_) ?_
          · obtain ⟨v15, E15, -, r15⟩ := hk.dep hr 15 78 (by kernel_rfl) (by kernel_rfl)
            have r15 : QL wq v15 nP0 fP0 gP0 := r15 wq (Grows.refl wq)
            obtain ⟨v16, E16, -, r16⟩ := hk.dep hr 16 79 (by kernel_rfl) (by kernel_rfl)
            have r16 : QL wq v16 nP1 fP1 gP1 := r16 wq (Grows.refl wq)
            refine wp_of_call (f := 24) (vs := #[v15, v16]) (by go_simp) (qsub_v wq ((r15).qv.to hq0) ((r16).qv.to hq1) (hs0.mono (by decide)) (hs1.mono (by decide))) ?_
            rintro e w1 ⟨u, rfl, hu, hb⟩
            exact ⟨u, rfl, hK.out _ _ hb (fun w2 h2 => (hu).grow h2) (fun h => absurd h (by decide))⟩
          refine AllOps.cons (Does.lets (g := 14) (d := 77) (t := false) rfl (by kernel_rfl) (by kernel_rfl) (fun vq wq h => h wq (Grows.refl wq)) fun lq aq wq hk hr K hK => ?_) ?_
          · have B4 : ev aq (.tmp 4) = .pointer (some ⟨w.heap.size + 1, 0, none⟩) := hk.base 4 (by kernel_rfl) rfl
            have hb := grows_of hk.ext
            exact wp_of_value (op_load3 4 _ B4 (D1.out.below hb)) (hK.out _ _ (Grows.refl _) (fun w2 h2 => QL.grow ⟨_, _, _, _, rfl, (SN1.out.below hb), (SD1.out.below hb), hlm4, hmm4⟩ h2) (fun h => absurd h (by decide)))
          refine AllOps.cons (Does.lets (g := 14) (d := 77) (t := false) rfl (by kernel_rfl) (by kernel_rfl) (fun vq wq h => h wq (Grows.refl wq)) fun lq aq wq hk hr K hK => ?_) ?_
          · obtain ⟨v17, E17, -, r17⟩ := hk.dep hr 17 80 (by kernel_rfl) (by kernel_rfl)
            have r17 : RV wq v17 ((a - b)) := r17 wq (Grows.refl wq)
            obtain ⟨v18, E18, -, r18⟩ := hk.dep hr 18 81 (by kernel_rfl) (by kernel_rfl)
            have r18 : QL wq v18 nP1 fP1 gP1 := r18 wq (Grows.refl wq)
            refine wp_of_call (f := 22) (vs := #[v17, v18]) (by go_simp) (qadd_v wq (r17).qv ((r18).qv.to hq1) ((hs0.sub hs1).mono (by decide)) (hs1.mono (by decide))) ?_
            rintro e w1 ⟨u, rfl, hu, hb⟩
            exact ⟨u, rfl, hK.out _ _ hb (fun w2 h2 => (hu).grow h2) (fun h => absurd h (by decide))⟩
          refine AllOps.cons (Does.lets (g := 14) (d := 77) (t := false) rfl (by kernel_rfl) (by kernel_rfl) (fun vq wq h => h wq (Grows.refl wq)) fun lq aq wq hk hr K hK => ?_) ?_
          · have B3 : ev aq (.tmp 3) = .pointer (some ⟨w.heap.size, 0, none⟩) := hk.base 3 (by kernel_rfl) rfl
            have hb := grows_of hk.ext
            exact wp_of_value (op_load3 3 _ B3 (D0.out.below hb)) (hK.out _ _ (Grows.refl _) (fun w2 h2 => QL.grow ⟨_, _, _, _, rfl, (SN0.out.below hb), (SD0.out.below hb), hlm3, hmm3⟩ h2) (fun h => absurd h (by decide)))
          refine AllOps.cons (Does.lets (g := 14) (d := 77) (t := false) rfl (by kernel_rfl) (by kernel_rfl) (fun vq wq h => h wq (Grows.refl wq)) fun lq aq wq hk hr K hK => ?_) ?_
          · refine wp_of_call (f := 40) (vs := #[.int .i64 0]) (by go_simp) (rfrom_v wq 0 (by decide) (by decide)) ?_
            rintro e w1 ⟨u, rfl, hu, hb⟩
            exact ⟨u, rfl, hK.out _ _ hb (fun w2 h2 => (hu).grow h2) (fun h => absurd h (by decide))⟩
          refine AllOps.cons (Does.lets (g := 14) (d := 77) (t := false) rfl (by kernel_rfl) (by kernel_rfl) (fun vq wq h => h wq (Grows.refl wq)) fun lq aq wq hk hr K hK => ?_) ?_
          · obtain ⟨v20, E20, -, r20⟩ := hk.dep hr 20 83 (by kernel_rfl) (by kernel_rfl)
            have r20 : QL wq v20 nP0 fP0 gP0 := r20 wq (Grows.refl wq)
            obtain ⟨v21, E21, -, r21⟩ := hk.dep hr 21 84 (by kernel_rfl) (by kernel_rfl)
            have r21 : RV wq v21 (((0 : Int) : Rat)) := r21 wq (Grows.refl wq)
            refine wp_of_call (f := 22) (vs := #[v20, v21]) (by go_simp) (qadd_v wq ((r20).qv.to hq0) (r21).qv (hs0.mono (by decide)) ((Qsz.int (szz_i64 (by decide) (by decide)) (by decide)).mono (by decide))) ?_
            rintro e w1 ⟨u, rfl, hu, hb⟩
            exact ⟨u, rfl, hK.out _ _ hb (fun w2 h2 => (hu).grow h2) (fun h => absurd h (by decide))⟩
          refine AllOps.cons (Does.lets (g := 14) (d := 77) (t := false) rfl (by kernel_rfl) (by kernel_rfl) (fun vq wq h => h wq (Grows.refl wq)) fun lq aq wq hk hr K hK => ?_) ?_
          · obtain ⟨v19, E19, -, r19⟩ := hk.dep hr 19 82 (by kernel_rfl) (by kernel_rfl)
            have r19 : RV wq v19 (((a - b) + b)) := r19 wq (Grows.refl wq)
            obtain ⟨v22, E22, -, r22⟩ := hk.dep hr 22 85 (by kernel_rfl) (by kernel_rfl)
            have r22 : RV wq v22 ((a + ((0 : Int) : Rat))) := r22 wq (Grows.refl wq)
            refine wp_of_call (f := 15) (vs := #[v19, v22]) (by go_simp) (lsameR_v wq r19 r22 (t := true) (decide_eq_true (field_sub a b))) ?_
            rintro e w1 ⟨u, rfl, hu, hb⟩
            exact ⟨u, rfl, hK.out _ _ hb (fun w2 h2 => hu) (fun h => absurd h (by decide))⟩
          refine AllOps.cons (Does.lets (g := 14) (d := 77) (t := false) rfl (by kernel_rfl) (by kernel_rfl) (fun vq wq h => h wq (Grows.refl wq)) fun lq aq wq hk hr K hK => ?_) ?_
          · obtain ⟨v23, E23, -, r23⟩ := hk.dep hr 23 86 (by kernel_rfl) (by kernel_rfl)
            replace E23 : ev aq (.tmp 86) = .bool true := E23.trans (r23 wq (Grows.refl wq))
            exact wp_of_value (by go_simp) (hK.out _ _ (Grows.refl _) (fun w2 h2 => rfl) (fun h => absurd h (by decide)))
          refine AllOps.cons (Does.plain rfl fun lq aq wq hk hr K hK => ?_) ?_
          · obtain ⟨v14, E14, -, r14⟩ := hk.dep hr 14 77 (by kernel_rfl) (by kernel_rfl)
            replace E14 : ev aq (.tmp 77) = .bool false := E14.trans (r14 wq (Grows.refl wq))
            obtain ⟨v24, E24, -, r24⟩ := hk.dep hr 24 87 (by kernel_rfl) (by kernel_rfl)
            replace E24 : ev aq (.tmp 87) = .bool false := E24.trans (r24 wq (Grows.refl wq))
            exact wp_of_value (by go_simp) (hK.out _ _ (Grows.refl _) (fun w2 h2 => rfl) (fun h => absurd h (by decide)))
          refine AllOps.cons (Does.plain rfl fun lq aq wq hk hr K hK => ?_) ?_
          · obtain ⟨v25, E25, -, r25⟩ := hk.dep hr 25 88 (by kernel_rfl) (by kernel_rfl)
            replace E25 : ev aq (.tmp 88) = .bool false := E25.trans (r25 wq (Grows.refl wq))
            exact wp_of_value (by go_simp) (hK.out _ _ (Grows.refl _) (fun w2 h2 => rfl) (fun h => absurd h (by decide)))
          refine AllOps.cons (Does.lets (g := 26) (d := 89) (t := false) rfl (by kernel_rfl) (by kernel_rfl) (fun vq wq h => h wq (Grows.refl wq)) fun lq aq wq hk hr K hK => ?_) ?_
          · have B3 : ev aq (.tmp 3) = .pointer (some ⟨w.heap.size, 0, none⟩) := hk.base 3 (by kernel_rfl) rfl
            have hb := grows_of hk.ext
            exact wp_of_value (op_load3 3 _ B3 (D0.out.below hb)) (hK.out _ _ (Grows.refl _) (fun w2 h2 => QL.grow ⟨_, _, _, _, rfl, (SN0.out.below hb), (SD0.out.below hb), hlm3, hmm3⟩ h2) (fun h => absurd h (by decide)))
          refine AllOps.cons (Does.lets (g := 26) (d := 89) (t := false) rfl (by kernel_rfl) (by kernel_rfl) (fun vq wq h => h wq (Grows.refl wq)) fun lq aq wq hk hr K hK => ?_) ?_
          · have B3 : ev aq (.tmp 3) = .pointer (some ⟨w.heap.size, 0, none⟩) := hk.base 3 (by kernel_rfl) rfl
            have hb := grows_of hk.ext
            exact wp_of_value (op_load3 3 _ B3 (D0.out.below hb)) (hK.out _ _ (Grows.refl _) (fun w2 h2 => QL.grow ⟨_, _, _, _, rfl, (SN0.out.below hb), (SD0.out.below hb), hlm3, hmm3⟩ h2) (fun h => absurd h (by decide)))
          refine AllOps.cons (Does.lets (g := 26) (d := 89) (t := false) rfl (by kernel_rfl) (by kernel_rfl) (fun vq wq h => h wq (Grows.refl wq)) fun lq aq wq hk hr K hK => ?_) ?_
          · obtain ⟨v28, E28, -, r28⟩ := hk.dep hr 28 91 (by kernel_rfl) (by kernel_rfl)
            have r28 : QL wq v28 nP0 fP0 gP0 := r28 wq (Grows.refl wq)
            refine wp_of_call (f := 20) (vs := #[v28]) (by go_simp) (rneg_v wq ((r28).qv.to hq0)) ?_
            rintro e w1 ⟨u, rfl, hu, hb⟩
            exact ⟨u, rfl, hK.out _ _ hb (fun w2 h2 => (hu).grow h2) (fun h => absurd h (by decide))⟩
          refine AllOps.cons (Does.lets (g := 26) (d := 89) (t := false) rfl (by kernel_rfl) (by kernel_rfl) (fun vq wq h => h wq (Grows.refl wq)) fun lq aq wq hk hr K hK => ?_) ?_
          · obtain ⟨v27, E27, -, r27⟩ := hk.dep hr 27 90 (by kernel_rfl) (by kernel_rfl)
            have r27 : QL wq v27 nP0 fP0 gP0 := r27 wq (Grows.refl wq)
            obtain ⟨v29, E29, -, r29⟩ := hk.dep hr 29 92 (by kernel_rfl) (by kernel_rfl)
            have r29 : RV wq v29 ((-a)) := r29 wq (Grows.refl wq)
            refine wp_of_call (f := 22) (vs := #[v27, v29]) (by go_simp) (qadd_v wq ((r27).qv.to hq0) (r29).qv (hs0.mono (by decide)) ((hs0.neg).mono (by decide))) ?_
            rintro e w1 ⟨u, rfl, hu, hb⟩
            exact ⟨u, rfl, hK.out _ _ hb (fun w2 h2 => (hu).grow h2) (fun h => absurd h (by decide))⟩
          refine AllOps.cons (Does.lets (g := 26) (d := 89) (t := false) rfl (by kernel_rfl) (by kernel_rfl) (fun vq wq h => h wq (Grows.refl wq)) fun lq aq wq hk hr K hK => ?_) ?_
          · obtain ⟨v30, E30, -, r30⟩ := hk.dep hr 30 93 (by kernel_rfl) (by kernel_rfl)
            have r30 : RV wq v30 ((a + (-a))) := r30 wq (Grows.refl wq)
            refine wp_of_call (f := 30) (vs := #[v30]) (by go_simp) (qsign_v wq (r30).qv (k := 0) (field_neg a)) ?_
            rintro e w1 ⟨u, rfl, hu, hb⟩
            exact ⟨u, rfl, hK.out _ _ hb (fun w2 h2 => hu) (fun h => absurd h (by decide))⟩
          refine AllOps.cons (Does.lets (g := 26) (d := 89) (t := false) rfl (by kernel_rfl) (by kernel_rfl) (fun vq wq h => h wq (Grows.refl wq)) fun lq aq wq hk hr K hK => ?_) ?_
          · obtain ⟨v31, E31, -, r31⟩ := hk.dep hr 31 94 (by kernel_rfl) (by kernel_rfl)
            replace E31 : ev aq (.tmp 94) = .int .i64 0 := E31.trans (r31 wq (Grows.refl wq))
            exact wp_of_value (by go_simp) (hK.out _ _ (Grows.refl _) (fun w2 h2 => rfl) (fun h => absurd h (by decide)))
          refine AllOps.cons (Does.plain rfl fun lq aq wq hk hr K hK => ?_) ?_
          · obtain ⟨v26, E26, -, r26⟩ := hk.dep hr 26 89 (by kernel_rfl) (by kernel_rfl)
            replace E26 : ev aq (.tmp 89) = .bool false := E26.trans (r26 wq (Grows.refl wq))
            obtain ⟨v32, E32, -, r32⟩ := hk.dep hr 32 95 (by kernel_rfl) (by kernel_rfl)
            replace E32 : ev aq (.tmp 95) = .bool false := E32.trans (r32 wq (Grows.refl wq))
            exact wp_of_value (by go_simp) (hK.out _ _ (Grows.refl _) (fun w2 h2 => rfl) (fun h => absurd h (by decide)))
          exact AllOps.nil
        case fin =>
          intro V x10 hG hV hap
          have r33 : (V 33) = .bool false := hV 33 (by decide)
          clear hV hap
          simp only [List.take_succ_cons, List.take_nil, List.drop_succ_cons, List.drop_nil, putAll, Act.put, List.setIfInBounds_toArray, List.set_cons_zero, List.set_cons_succ]
          have hb := grows_of hG
          replace D0 := Lib.hid (D0.out.below hb)
          replace SN0 := Lib.hid (SN0.out.below hb)
          replace SD0 := Lib.hid (SD0.out.below hb)
          replace D1 := Lib.hid (D1.out.below hb)
          replace SN1 := Lib.hid (SN1.out.below hb)
          replace SD1 := Lib.hid (SD1.out.below hb)
          replace D2 := Lib.hid (D2.out.below hb)
          replace SN2 := Lib.hid (SN2.out.below hb)
          replace SD2 := Lib.hid (SD2.out.below hb)
          replace HB := Lib.hid (HB.out.trans (Below.mono hb HB.out.size))
          clear hb hG
          rw [r33]
          clear r33
          go_upto_region 8 with fail
          rcases Decidable.em (b.num = 0) with hb0 | hb0
          · skip
            have lw0 := D0.out.lt
            have lw1 := D1.out.lt
            have lw2 := D2.out.lt
            refine wp_region_calm 7 [6] ([fun vq wq => QL wq vq nP0 fP0 gP0,
                fun vq wq => QL wq vq nP1 fP1 gP1,
                fun vq wq => ∃ u0, vq = .tuple #[u0, .int .i64 3] ∧ RV wq u0 (((0 : Int) : Rat)),
                fun vq wq => ∃ u0, vq = .tuple #[u0, .int .i64 3] ∧ RV wq u0 (((0 : Int) : Rat)),
                fun vq wq => RV wq vq (((0 : Int) : Rat)),
                fun vq _ => vq = .int .i64 3,
                fun vq wq => ∃ bq, vq = .pointer (some ⟨bq, 0, none⟩) ∧ BoxN wq bq 26 #[.bool false, .slice none 0 0, .slice none 0 0] ∧ (x10).heap.size ≤ bq]) (by kernel_rfl) (by decide) ?hF ?steps ?fin
            case hF =>
              intro j hj v w h
              simp only [List.mem_cons, List.not_mem_nil, or_false] at hj
              subst hj
              all_goals (obtain ⟨b, rfl, hB, _⟩ := h; exact hB.lt)
            case steps =>
              refine AllOps.cons (Does.plain rfl fun lq aq wq hk hr K hK => ?_) ?_
              · have B3 : ev aq (.tmp 3) = .pointer (some ⟨w.heap.size, 0, none⟩) := hk.base 3 (by kernel_rfl) rfl
                have hb : Below _ _ _ := hk.ext
                exact wp_of_value (op_load3 3 _ B3 (D0.out.below hb)) (hK.out _ _ (Grows.refl _) (fun w2 h2 => QL.grow ⟨_, _, _, _, rfl, (SN0.out.below hb), (SD0.out.below hb), hlm3, hmm3⟩ h2) (fun h => absurd h (by decide)))
              refine AllOps.cons (Does.plain rfl fun lq aq wq hk hr K hK => ?_) ?_
              · have B4 : ev aq (.tmp 4) = .pointer (some ⟨w.heap.size + 1, 0, none⟩) := hk.base 4 (by kernel_rfl) rfl
                have hb : Below _ _ _ := hk.ext
                exact wp_of_value (op_load3 4 _ B4 (D1.out.below hb)) (hK.out _ _ (Grows.refl _) (fun w2 h2 => QL.grow ⟨_, _, _, _, rfl, (SN1.out.below hb), (SD1.out.below hb), hlm4, hmm4⟩ h2) (fun h => absurd h (by decide)))
              refine AllOps.cons (Does.plain rfl fun lq aq wq hk hr K hK => ?_) ?_
              · obtain ⟨v0, E0, -, r0⟩ := hk.dep hr 0 98 (by kernel_rfl) (by kernel_rfl)
                have r0 : QL wq v0 nP0 fP0 gP0 := r0 wq (Grows.refl wq)
                obtain ⟨v1, E1, -, r1⟩ := hk.dep hr 1 99 (by kernel_rfl) (by kernel_rfl)
                have r1 : QL wq v1 nP1 fP1 gP1 := r1 wq (Grows.refl wq)
                refine wp_of_call (f := 13) (vs := #[v0, v1]) (by go_simp) (qdiv0_v wq ((r0).qv.to hq0) ((r1).qv.to hq1) (hs0.mono (by decide)) (hs1.mono (by decide)) hb0) ?_
                rintro e w1 ⟨u, rfl, hu, hb⟩
                exact ⟨u, rfl, hK.out _ _ hb (fun w2 h2 => (let ⟨u0, e0, h0⟩ := hu; ⟨u0, e0, (h0).grow h2⟩)) (fun h => absurd h (by decide))⟩
              refine AllOps.cons (Does.plain rfl fun lq aq wq hk hr K hK => ?_) ?_
              · obtain ⟨v2, E2, -, r2⟩ := hk.dep hr 2 100 (by kernel_rfl) (by kernel_rfl)
                have r2 : ∃ u0, v2 = .tuple #[u0, .int .i64 3] ∧ RV wq u0 (((0 : Int) : Rat)) := r2 wq (Grows.refl wq)
                exact wp_of_value (by go_simp) (hK.out _ _ (Grows.refl _) (fun w2 h2 => (let ⟨u0, e0, h0⟩ := r2; ⟨u0, e0, (h0).grow h2⟩)) (fun h => absurd h (by decide)))
              refine AllOps.cons (Does.plain rfl fun lq aq wq hk hr K hK => ?_) ?_
              · obtain ⟨v3, E3, -, r3⟩ := hk.dep hr 3 97 (by kernel_rfl) (by kernel_rfl)
                have r3 : ∃ u0, v3 = .tuple #[u0, .int .i64 3] ∧ RV wq u0 (((0 : Int) : Rat)) := r3 wq (Grows.refl wq)
                obtain ⟨u0, rfl, h0⟩ := r3
                exact wp_of_value (by go_simp) (hK.out _ _ (Grows.refl _) (fun w2 h2 => (h0).grow h2) (fun h => absurd h (by decide)))
              refine AllOps.cons (Does.plain rfl fun lq aq wq hk hr K hK => ?_) ?_
              · obtain ⟨v3, E3, -, r3⟩ := hk.dep hr 3 97 (by kernel_rfl) (by kernel_rfl)
                have r3 : ∃ u0, v3 = .tuple #[u0, .int .i64 3] ∧ RV wq u0 (((0 : Int) : Rat)) := r3 wq (Grows.refl wq)
                obtain ⟨u0, rfl, h0⟩ := r3
                exact wp_of_value (by go_simp) (hK.out _ _ (Grows.refl _) (fun w2 h2 => rfl) (fun h => absurd h (by decide)))
              refine AllOps.cons (Does.plain rfl fun lq aq wq hk hr K hK => ?_) ?_
              · exact wp_of_value (by go_simp) (hK.out _ _ ((Grows.refl _).alloc _) (fun w2 h2 => ⟨_, rfl, (BoxN.new wq 26 _).below h2, hk.ext.size⟩) (fun _ => Nat.le_refl _))
              exact AllOps.nil
            case fin =>
              intro V x11 hG hV hap
              have r4 : RV x11 (V 4) (((0 : Int) : Rat)) := hV 4 (by decide)
              have r5 : (V 5) = .int .i64 3 := hV 5 (by decide)
              have r6 : ∃ bq, (V 6) = .pointer (some ⟨bq, 0, none⟩) ∧ BoxN x11 bq 26 #[.bool false, .slice none 0 0, .slice none 0 0] ∧ (x10).heap.size ≤ bq := hV 6 (by decide)
              clear hV
              simp only [List.take_succ_cons, List.take_zero, List.drop_succ_cons, List.drop_zero, putAll, Act.put, List.setIfInBounds_toArray, List.set_cons_zero, List.set_cons_succ]
              have hb := (show Below _ _ _ from hG)
              obtain ⟨bq, eq, Dq, gq⟩ := r6
              obtain ⟨nq, Aq, kq, cq, Bq, jq, dq, eq9, sq, tq, hdq⟩ := r4
              simp only [eq, eq9, r5]
              clear eq eq9 hap hG r5
              replace Dq : Box3 _ bq 26 (.bool false) (.slice none 0 0) (.slice none 0 0) := Dq
              refine wpList_of_skip rfl (op_store3 7 101 _ rfl rfl Dq) ?_
              have hB := put3_below (x' := .bool nq) (y' := .slice Aq kq cq) (z' := .slice Bq jq dq) hb gq
              replace sq := sq.put3 Dq (.bool nq) (.slice Aq kq cq) (.slice Bq jq dq)
              replace tq := tq.put3 Dq (.bool nq) (.slice Aq kq cq) (.slice Bq jq dq)
              replace Dq := put3_own (x' := .bool nq) (y' := .slice Aq kq cq) (z' := .slice Bq jq dq) Dq
              clear hb
              generalize put3 x11 bq (.bool nq) (.slice Aq kq cq) (.slice Bq jq dq) = y12 at *
              replace D0 := Lib.hid (D0.out.below hB)
              replace SN0 := Lib.hid (SN0.out.below hB)
              replace SD0 := Lib.hid (SD0.out.below hB)
              replace D1 := Lib.hid (D1.out.below hB)
              replace SN1 := Lib.hid (SN1.out.below hB)
              replace SD1 := Lib.hid (SD1.out.below hB)
              replace D2 := Lib.hid (D2.out.below hB)
              replace SN2 := Lib.hid (SN2.out.below hB)
              replace SD2 := Lib.hid (SD2.out.below hB)
              replace HB := Lib.hid (HB.out.trans (Below.mono hB HB.out.size))
              replace lw0 := Nat.lt_of_lt_of_le lw0 gq
              replace lw1 := Nat.lt_of_lt_of_le lw1 gq
              replace lw2 := Nat.lt_of_lt_of_le lw2 gq
              replace Dq := Lib.hid Dq
              have SNq := Lib.hid sq
              have SDq := Lib.hid tq
              clear hB gq sq tq
              go_upto_region 9 with fail
              refine wp_region_calm 3 [] ([fun vq wq => QL wq vq nP1 fP1 gP1,
                  fun vq _ => vq = .int .i64 0,
                  fun vq _ => vq = .bool true]) (by kernel_rfl) (by decide) ?hF ?steps ?fin
              case hF =>
                intro j hj; cases hj
              case steps =>
                refine AllOps.cons (Does.plain rfl fun lq aq wq hk hr K hK => ?_) ?_
                · have B4 : ev aq (.tmp 4) = .pointer (some ⟨w.heap.size + 1, 0, none⟩) := hk.base 4 (by kernel_rfl) rfl
                  have hb : Below _ _ _ := hk.ext
                  exact wp_of_value (op_load3 4 _ B4 (D1.out.below hb)) (hK.out _ _ (Grows.refl _) (fun w2 h2 => QL.grow ⟨_, _, _, _, rfl, (SN1.out.below hb), (SD1.out.below hb), hlm4, hmm4⟩ h2) (fun h => absurd h (by decide)))
                refine AllOps.cons (Does.plain rfl fun lq aq wq hk hr K hK => ?_) ?_
                · obtain ⟨v0, E0, -, r0⟩ := hk.dep hr 0 103 (by kernel_rfl) (by kernel_rfl)
                  have r0 : QL wq v0 nP1 fP1 gP1 := r0 wq (Grows.refl wq)
                  refine wp_of_call (f := 30) (vs := #[v0]) (by go_simp) (qsign_v wq ((r0).qv.to hq1) (k := 0) (show Int.sign b.num = 0 by rw [hb0]; rfl)) ?_
                  rintro e w1 ⟨u, rfl, hu, hb⟩
                  exact ⟨u, rfl, hK.out _ _ hb (fun w2 h2 => hu) (fun h => absurd h (by decide))⟩
                refine AllOps.cons (Does.plain rfl fun lq aq wq hk hr K hK => ?_) ?_
                · obtain ⟨v1, E1, -, r1⟩ := hk.dep hr 1 104 (by kernel_rfl) (by kernel_rfl)
                  replace E1 : ev aq (.tmp 104) = .int .i64 0 := E1.trans (r1 wq (Grows.refl wq))
                  exact wp_of_value (by go_simp) (hK.out _ _ (Grows.refl _) (fun w2 h2 => rfl) (fun h => absurd h (by decide)))
                exact AllOps.nil
              case fin =>
                intro V x13 hG hV hap
                have r2 : (V 2) = .bool true := hV 2 (by decide)
                clear hV hap
                simp only [List.take_succ_cons, List.take_nil, List.drop_succ_cons, List.drop_nil, putAll, Act.put, List.setIfInBounds_toArray, List.set_cons_zero, List.set_cons_succ]
                have hb := (show Below _ _ _ from hG)
                replace D0 := Lib.hid (D0.out.below hb)
                replace SN0 := Lib.hid (SN0.out.below hb)
                replace SD0 := Lib.hid (SD0.out.below hb)
                replace D1 := Lib.hid (D1.out.below hb)
                replace SN1 := Lib.hid (SN1.out.below hb)
                replace SD1 := Lib.hid (SD1.out.below hb)
                replace D2 := Lib.hid (D2.out.below hb)
                replace SN2 := Lib.hid (SN2.out.below hb)
                replace SD2 := Lib.hid (SD2.out.below hb)
                replace Dq := Lib.hid (Dq.out.below hb)
                replace SNq := Lib.hid (SNq.out.below hb)
                replace SDq := Lib.hid (SDq.out.below hb)
                replace HB := Lib.hid (HB.out.trans (Below.mono hb HB.out.size))
                clear hb hG
                rw [r2]
                clear r2
                go_upto_region 10 with fail
                refine wp_region_calm 7 [] ([fun vq _ => vq = .int .i64 3,
                    fun vq _ => vq = .bool true,
                    fun vq _ => vq = .bool true,
                    fun vq wq => RV wq vq (((0 : Int) : Rat)),
                    fun vq _ => vq = .int .i64 0,
                    fun vq _ => vq = .bool true,
                    fun vq _ => vq = .bool true]) (by kernel_rfl) (by decide) ?hF ?steps ?fin
                case hF =>
                  intro j hj; cases hj
                case steps =>
                  refine AllOps.cons (Does.plain rfl fun lq aq wq hk hr K hK => ?_) ?_
                  · have B8 : ev aq (.tmp 8) = .int .i64 3 := hk.base 8 (by kernel_rfl) rfl
                    exact wp_of_value (by go_simp) (hK.out _ _ (Grows.refl _) (fun w2 h2 => rfl) (fun h => absurd h (by decide)))
                  refine AllOps.cons (Does.plain rfl fun lq aq wq hk hr K hK => ?_) ?_
                  · obtain ⟨v0, E0, -, r0⟩ := hk.dep hr 0 106 (by kernel_rfl) (by kernel_rfl)
                    replace E0 : ev aq (.tmp 106) = .int .i64 3 := E0.trans (r0 wq (Grows.refl wq))
                    exact wp_of_value (by go_simp) (hK.out _ _ (Grows.refl _) (fun w2 h2 => rfl) (fun h => absurd h (by decide)))
                  refine AllOps.cons (Does.plain rfl fun lq aq wq hk hr K hK => ?_) ?_
                  · obtain ⟨v1, E1, -, r1⟩ := hk.dep hr 1 107 (by kernel_rfl) (by kernel_rfl)
                    replace E1 : ev aq (.tmp 107) = .bool true := E1.trans (r1 wq (Grows.refl wq))
                    exact wp_of_value (by go_simp) (hK.out _ _ (Grows.refl _) (fun w2 h2 => rfl) (fun h => absurd h (by decide)))
                  refine AllOps.cons (Does.lets (g := 2) (d := 108) (t := true) rfl (by kernel_rfl) (by kernel_rfl) (fun vq wq h => h wq (Grows.refl wq)) fun lq aq wq hk hr K hK => ?_) ?_
                  · have B7 : ev aq (.tmp 7) = .pointer (some ⟨bq, 0, none⟩) := hk.base 7 (by kernel_rfl) rfl
                    have hb : Below _ _ _ := hk.ext
                    exact wp_of_value (op_load3 7 _ B7 (Dq.out.below hb)) (hK.out _ _ (Grows.refl _) (fun w2 h2 => RV.grow ⟨_, _, _, _, _, _, _, rfl, (SNq.out.below hb), (SDq.out.below hb), hdq⟩ h2) (fun h => absurd h (by decide)))
                  refine AllOps.cons (Does.lets (g := 2) (d := 108) (t := true) rfl (by kernel_rfl) (by kernel_rfl) (fun vq wq h => h wq (Grows.refl wq)) fun lq aq wq hk hr K hK => ?_) ?_
                  · obtain ⟨v3, E3, -, r3⟩ := hk.dep hr 3 109 (by kernel_rfl) (by kernel_rfl)
                    have r3 : RV wq v3 (((0 : Int) : Rat)) := r3 wq (Grows.refl wq)
                    refine wp_of_call (f := 30) (vs := #[v3]) (by go_simp) (qsign_v wq (r3).qv (k := 0) rfl) ?_
                    rintro e w1 ⟨u, rfl, hu, hb⟩
                    exact ⟨u, rfl, hK.out _ _ hb (fun w2 h2 => hu) (fun h => absurd h (by decide))⟩
                  refine AllOps.cons (Does.lets (g := 2) (d := 108) (t := true) rfl (by kernel_rfl) (by kernel_rfl) (fun vq wq h => h wq (Grows.refl wq)) fun lq aq wq hk hr K hK => ?_) ?_
                  · obtain ⟨v4, E4, -, r4⟩ := hk.dep hr 4 110 (by kernel_rfl) (by kernel_rfl)
                    replace E4 : ev aq (.tmp 110) = .int .i64 0 := E4.trans (r4 wq (Grows.refl wq))
                    exact wp_of_value (by go_simp) (hK.out _ _ (Grows.refl _) (fun w2 h2 => rfl) (fun h => absurd h (by decide)))
                  refine AllOps.cons (Does.plain rfl fun lq aq wq hk hr K hK => ?_) ?_
                  · obtain ⟨v2, E2, -, r2⟩ := hk.dep hr 2 108 (by kernel_rfl) (by kernel_rfl)
                    replace E2 : ev aq (.tmp 108) = .bool true := E2.trans (r2 wq (Grows.refl wq))
                    obtain ⟨v5, E5, -, r5⟩ := hk.dep hr 5 111 (by kernel_rfl) (by kernel_rfl)
                    replace E5 : ev aq (.tmp 111) = .bool true := E5.trans (r5 wq (Grows.refl wq))
                    exact wp_of_value (by go_simp) (hK.out _ _ (Grows.refl _) (fun w2 h2 => rfl) (fun h => absurd h (by decide)))
                  exact AllOps.nil
                case fin =>
                  intro V x14 hG hV hap
                  have r6 : (V 6) = .bool true := hV 6 (by decide)
                  clear hV hap
                  simp only [List.take_succ_cons, List.take_zero, List.drop_succ_cons, List.drop_zero, putAll, Act.put, List.setIfInBounds_toArray, List.set_cons_zero, List.set_cons_succ]
                  have hb := (show Below _ _ _ from hG)
                  replace D0 := Lib.hid (D0.out.below hb)
                  replace SN0 := Lib.hid (SN0.out.below hb)
                  replace SD0 := Lib.hid (SD0.out.below hb)
                  replace D1 := Lib.hid (D1.out.below hb)
                  replace SN1 := Lib.hid (SN1.out.below hb)
                  replace SD1 := Lib.hid (SD1.out.below hb)
                  replace D2 := Lib.hid (D2.out.below hb)
                  replace SN2 := Lib.hid (SN2.out.below hb)
                  replace SD2 := Lib.hid (SD2.out.below hb)
                  replace Dq := Lib.hid (Dq.out.below hb)
                  replace SNq := Lib.hid (SNq.out.below hb)
                  replace SDq := Lib.hid (SDq.out.below hb)
                  replace HB := Lib.hid (HB.out.trans (Below.mono hb HB.out.size))
                  clear hb hG
                  rw [r6]
                  clear r6
                  go_wp2_with fail
                  go_ret
                  exact ⟨rfl, HB.out⟩
          · skip
            have lw0 := D0.out.lt
            have lw1 := D1.out.lt
            have lw2 := D2.out.lt
            refine wp_region_calm 7 [6] ([fun vq wq => QL wq vq nP0 fP0 gP0,
                fun vq wq => QL wq vq nP1 fP1 gP1,
                fun vq wq => ∃ u0, vq = .tuple #[u0, .int .i64 0] ∧ RV wq u0 ((a / b)),
                fun vq wq => ∃ u0, vq = .tuple #[u0, .int .i64 0] ∧ RV wq u0 ((a / b)),
                fun vq wq => RV wq vq ((a / b)),
                fun vq _ => vq = .int .i64 0,
                fun vq wq => ∃ bq, vq = .pointer (some ⟨bq, 0, none⟩) ∧ BoxN wq bq 26 #[.bool false, .slice none 0 0, .slice none 0 0] ∧ (x10).heap.size ≤ bq]) (by kernel_rfl) (by decide) ?hF ?steps ?fin
            case hF =>
              intro j hj v w h
              simp only [List.mem_cons, List.not_mem_nil, or_false] at hj
              subst hj
              all_goals (obtain ⟨b, rfl, hB, _⟩ := h; exact hB.lt)
            case steps =>
              refine AllOps.cons (Does.plain rfl fun lq aq wq hk hr K hK => ?_) ?_
              · have B3 : ev aq (.tmp 3) = .pointer (some ⟨w.heap.size, 0, none⟩) := hk.base 3 (by kernel_rfl) rfl
                have hb : Below _ _ _ := hk.ext
                exact wp_of_value (op_load3 3 _ B3 (D0.out.below hb)) (hK.out _ _ (Grows.refl _) (fun w2 h2 => QL.grow ⟨_, _, _, _, rfl, (SN0.out.below hb), (SD0.out.below hb), hlm3, hmm3⟩ h2) (fun h => absurd h (by decide)))
              refine AllOps.cons (Does.plain rfl fun lq aq wq hk hr K hK => ?_) ?_
              · have B4 : ev aq (.tmp 4) = .pointer (some ⟨w.heap.size + 1, 0, none⟩) := hk.base 4 (by kernel_rfl) rfl
                have hb : Below _ _ _ := hk.ext
                exact wp_of_value (op_load3 4 _ B4 (D1.out.below hb)) (hK.out _ _ (Grows.refl _) (fun w2 h2 => QL.grow ⟨_, _, _, _, rfl, (SN1.out.below hb), (SD1.out.below hb), hlm4, hmm4⟩ h2) (fun h => absurd h (by decide)))
              refine AllOps.cons (Does.plain rfl fun lq aq wq hk hr K hK => ?_) ?_
              · obtain ⟨v0, E0, -, r0⟩ := hk.dep hr 0 98 (by kernel_rfl) (by kernel_rfl)
                have r0 : QL wq v0 nP0 fP0 gP0 := r0 wq (Grows.refl wq)
                obtain ⟨v1, E1, -, r1⟩ := hk.dep hr 1 99 (by kernel_rfl) (by kernel_rfl)
                have r1 : QL wq v1 nP1 fP1 gP1 := r1 wq (Grows.refl wq)
                refine wp_of_call (f := 13) (vs := #[v0, v1]) (by go_simp) (qdiv_v wq ((r0).qv.to hq0) ((r1).qv.to hq1) (hs0.mono (by decide)) (hs1.mono (by decide)) hb0) ?_
                rintro e w1 ⟨u, rfl, hu, hb⟩
                exact ⟨u, rfl, hK.out _ _ hb (fun w2 h2 => (let ⟨u0, e0, h0⟩ := hu; ⟨u0, e0, (h0).grow h2⟩)) (fun h => absurd h (by decide))⟩
              refine AllOps.cons (Does.plain rfl fun lq aq wq hk hr K hK => ?_) ?_
              · obtain ⟨v2, E2, -, r2⟩ := hk.dep hr 2 100 (by kernel_rfl) (by kernel_rfl)
                have r2 : ∃ u0, v2 = .tuple #[u0, .int .i64 0] ∧ RV wq u0 ((a / b)) := r2 wq (Grows.refl wq)
                exact wp_of_value (by go_simp) (hK.out _ _ (Grows.refl _) (fun w2 h2 => (let ⟨u0, e0, h0⟩ := r2; ⟨u0, e0, (h0).grow h2⟩)) (fun h => absurd h (by decide)))
              refine AllOps.cons (Does.plain rfl fun lq aq wq hk hr K hK => ?_) ?_
              · obtain ⟨v3, E3, -, r3⟩ := hk.dep hr 3 97 (by kernel_rfl) (by kernel_rfl)
                have r3 : ∃ u0, v3 = .tuple #[u0, .int .i64 0] ∧ RV wq u0 ((a / b)) := r3 wq (Grows.refl wq)
                obtain ⟨u0, rfl, h0⟩ := r3
                exact wp_of_value (by go_simp) (hK.out _ _ (Grows.refl _) (fun w2 h2 => (h0).grow h2) (fun h => absurd h (by decide)))
              refine AllOps.cons (Does.plain rfl fun lq aq wq hk hr K hK => ?_) ?_
              · obtain ⟨v3, E3, -, r3⟩ := hk.dep hr 3 97 (by kernel_rfl) (by kernel_rfl)
                have r3 : ∃ u0, v3 = .tuple #[u0, .int .i64 0] ∧ RV wq u0 ((a / b)) := r3 wq (Grows.refl wq)
                obtain ⟨u0, rfl, h0⟩ := r3
                exact wp_of_value (by go_simp) (hK.out _ _ (Grows.refl _) (fun w2 h2 => rfl) (fun h => absurd h (by decide)))
              refine AllOps.cons (Does.plain rfl fun lq aq wq hk hr K hK => ?_) ?_
              · exact wp_of_value (by go_simp) (hK.out _ _ ((Grows.refl _).alloc _) (fun w2 h2 => ⟨_, rfl, (BoxN.new wq 26 _).below h2, hk.ext.size⟩) (fun _ => Nat.le_refl _))
              exact AllOps.nil
            case fin =>
              intro V x11 hG hV hap
              have r4 : RV x11 (V 4) ((a / b)) := hV 4 (by decide)
              have r5 : (V 5) = .int .i64 0 := hV 5 (by decide)
              have r6 : ∃ bq, (V 6) = .pointer (some ⟨bq, 0, none⟩) ∧ BoxN x11 bq 26 #[.bool false, .slice none 0 0, .slice none 0 0] ∧ (x10).heap.size ≤ bq := hV 6 (by decide)
              clear hV
              simp only [List.take_succ_cons, List.take_zero, List.drop_succ_cons, List.drop_zero, putAll, Act.put, List.setIfInBounds_toArray, List.set_cons_zero, List.set_cons_succ]
              have hb := (show Below _ _ _ from hG)
              obtain ⟨bq, eq, Dq, gq⟩ := r6
              obtain ⟨nq, Aq, kq, cq, Bq, jq, dq, eq9, sq, tq, hdq⟩ := r4
              simp only [eq, eq9, r5]
              clear eq eq9 hap hG r5
              replace Dq : Box3 _ bq 26 (.bool false) (.slice none 0 0) (.slice none 0 0) := Dq
              refine wpList_of_skip rfl (op_store3 7 101 _ rfl rfl Dq) ?_
              have hB := put3_below (x' := .bool nq) (y' := .slice Aq kq cq) (z' := .slice Bq jq dq) hb gq
              replace sq := sq.put3 Dq (.bool nq) (.slice Aq kq cq) (.slice Bq jq dq)
              replace tq := tq.put3 Dq (.bool nq) (.slice Aq kq cq) (.slice Bq jq dq)
              replace Dq := put3_own (x' := .bool nq) (y' := .slice Aq kq cq) (z' := .slice Bq jq dq) Dq
              clear hb
              generalize put3 x11 bq (.bool nq) (.slice Aq kq cq) (.slice Bq jq dq) = y12 at *
              replace D0 := Lib.hid (D0.out.below hB)
              replace SN0 := Lib.hid (SN0.out.below hB)
              replace SD0 := Lib.hid (SD0.out.below hB)
              replace D1 := Lib.hid (D1.out.below hB)
              replace SN1 := Lib.hid (SN1.out.below hB)
              replace SD1 := Lib.hid (SD1.out.below hB)
              replace D2 := Lib.hid (D2.out.below hB)
              replace SN2 := Lib.hid (SN2.out.below hB)
              replace SD2 := Lib.hid (SD2.out.below hB)
              replace HB := Lib.hid (HB.out.trans (Below.mono hB HB.out.size))
              replace lw0 := Nat.lt_of_lt_of_le lw0 gq
              replace lw1 := Nat.lt_of_lt_of_le lw1 gq
              replace lw2 := Nat.lt_of_lt_of_le lw2 gq
              replace Dq := Lib.hid Dq
              have SNq := Lib.hid sq
              have SDq := Lib.hid tq
              clear hB gq sq tq
              obtain ⟨k, hkb⟩ : ∃ k, Int.sign b.num = k := ⟨_, rfl⟩
              have hk0 : k ≠ 0 := by rw [← hkb]; exact fun e => hb0 (Int.sign_eq_zero_iff_zero.1 e)
              replace hkb := Lib.hid hkb
              go_upto_region 9 with fail
              refine wp_region_calm 3 [] ([fun vq wq => QL wq vq nP1 fP1 gP1,
                  fun vq _ => vq = .int .i64 k,
                  fun vq _ => vq = .bool false]) (by kernel_rfl) (by decide) ?hF ?steps ?fin
              case hF =>
                intro j hj; cases hj
              case steps =>
                refine AllOps.cons (Does.plain rfl fun lq aq wq hk hr K hK => ?_) ?_
                · have B4 : ev aq (.tmp 4) = .pointer (some ⟨w.heap.size + 1, 0, none⟩) := hk.base 4 (by kernel_rfl) rfl
                  have hb : Below _ _ _ := hk.ext
                  exact wp_of_value (op_load3 4 _ B4 (D1.out.below hb)) (hK.out _ _ (Grows.refl _) (fun w2 h2 => QL.grow ⟨_, _, _, _, rfl, (SN1.out.below hb), (SD1.out.below hb), hlm4, hmm4⟩ h2) (fun h => absurd h (by decide)))
                refine AllOps.cons (Does.plain rfl fun lq aq wq hk hr K hK => ?_) ?_
                · obtain ⟨v0, E0, -, r0⟩ := hk.dep hr 0 103 (by kernel_rfl) (by kernel_rfl)
                  have r0 : QL wq v0 nP1 fP1 gP1 := r0 wq (Grows.refl wq)
                  refine wp_of_call (f := 30) (vs := #[v0]) (by go_simp) (qsign_v wq ((r0).qv.to hq1) (k := k) hkb.out) ?_
                  rintro e w1 ⟨u, rfl, hu, hb⟩
                  exact ⟨u, rfl, hK.out _ _ hb (fun w2 h2 => hu) (fun h => absurd h (by decide))⟩
                refine AllOps.cons (Does.plain rfl fun lq aq wq hk hr K hK => ?_) ?_
                · obtain ⟨v1, E1, -, r1⟩ := hk.dep hr 1 104 (by kernel_rfl) (by kernel_rfl)
                  replace E1 : ev aq (.tmp 104) = .int .i64 k := E1.trans (r1 wq (Grows.refl wq))
                  exact wp_of_value (by first | (go_simp; done) | (go_simp; exact hk0) | (go_simp; omega)) (hK.out _ _ (Grows.refl _) (fun w2 h2 => rfl) (fun h => absurd h (by decide)))
                exact AllOps.nil
              case fin =>
                intro V x13 hG hV hap
                have r2 : (V 2) = .bool false := hV 2 (by decide)
                clear hV hap
                simp only [List.take_succ_cons, List.take_nil, List.drop_succ_cons, List.drop_nil, putAll, Act.put, List.setIfInBounds_toArray, List.set_cons_zero, List.set_cons_succ]
                have hb := (show Below _ _ _ from hG)
                replace D0 := Lib.hid (D0.out.below hb)
                replace SN0 := Lib.hid (SN0.out.below hb)
                replace SD0 := Lib.hid (SD0.out.below hb)
                replace D1 := Lib.hid (D1.out.below hb)
                replace SN1 := Lib.hid (SN1.out.below hb)
                replace SD1 := Lib.hid (SD1.out.below hb)
                replace D2 := Lib.hid (D2.out.below hb)
                replace SN2 := Lib.hid (SN2.out.below hb)
                replace SD2 := Lib.hid (SD2.out.below hb)
                replace Dq := Lib.hid (Dq.out.below hb)
                replace SNq := Lib.hid (SNq.out.below hb)
                replace SDq := Lib.hid (SDq.out.below hb)
                replace HB := Lib.hid (HB.out.trans (Below.mono hb HB.out.size))
                clear hb hG
                rw [r2]
                clear r2
                go_upto_region 11 with fail
                refine wp_region_going 11 [] ([fun vq _ => vq = .int .i64 0,
                    fun vq _ => vq = .bool true,
                    fun vq _ => vq = .bool true,
                    fun vq wq => RV wq vq ((a / b)),
                    fun vq wq => QL wq vq nP1 fP1 gP1,
                    fun vq wq => RV wq vq (((a / b) * b)),
                    fun vq wq => QL wq vq nP0 fP0 gP0,
                    fun vq wq => RV wq vq (((1 : Int) : Rat)),
                    fun vq wq => RV wq vq ((a * ((1 : Int) : Rat))),
                    fun vq _ => vq = .bool true,
                    fun vq _ => vq = .bool true]) (by kernel_rfl) (by kernel_rfl) (by decide) (by kernel_rfl) (by kernel_rfl) ?hF ?steps ?fin
                case hF =>
                  intro j hj; cases hj
                case steps =>
                  refine AllOps.cons (Does.plain rfl fun lq aq wq hk hr K hK => ?_) ?_
                  · have B8 : ev aq (.tmp 8) = .int .i64 0 := hk.base 8 (by kernel_rfl) rfl
                    exact wp_of_value (by go_simp) (hK.out _ _ (Grows.refl _) (fun w2 h2 => rfl) (fun h => absurd h (by decide)))
                  refine AllOps.cons (Does.plain rfl fun lq aq wq hk hr K hK => ?_) ?_
                  · obtain ⟨v0, E0, -, r0⟩ := hk.dep hr 0 113 (by kernel_rfl) (by kernel_rfl)
                    replace E0 : ev aq (.tmp 113) = .int .i64 0 := E0.trans (r0 wq (Grows.refl wq))
                    exact wp_of_value (by go_simp) (hK.out _ _ (Grows.refl _) (fun w2 h2 => rfl) (fun h => absurd h (by decide)))
                  refine AllOps.cons (Does.plain rfl fun lq aq wq hk hr K hK => ?_) ?_
                  · obtain ⟨v1, E1, -, r1⟩ := hk.dep hr 1 114 (by kernel_rfl) (by kernel_rfl)
                    replace E1 : ev aq (.tmp 114) = .bool true := E1.trans (r1 wq (Grows.refl wq))
                    exact wp_of_value (by go_simp) (hK.out _ _ (Grows.refl _) (fun w2 h2 => rfl) (fun h => absurd h (by decide)))
                  refine AllOps.cons (Does.lets (g := 2) (d := 115) (t := true) rfl (by kernel_rfl) (by kernel_rfl) (fun vq wq h => h wq (Grows.refl wq)) fun lq aq wq hk hr K hK => ?_) ?_
                  · have B7 : ev aq (.tmp 7) = .pointer (some ⟨bq, 0, none⟩) := hk.base 7 (by kernel_rfl) rfl
                    have hb := grows_of hk.ext
                    exact wp_of_value (op_load3 7 _ B7 (Dq.out.below hb)) (hK.out _ _ (Grows.refl _) (fun w2 h2 => RV.grow ⟨_, _, _, _, _, _, _, rfl, (SNq.out.below hb), (SDq.out.below hb), hdq⟩ h2) (fun h => absurd h (by decide)))
                  refine AllOps.cons (Does.lets (g := 2) (d := 115) (t := true) rfl (by kernel_rfl) (by kernel_rfl) (fun vq wq h => h wq (Grows.refl wq)) fun lq aq wq hk hr K hK => ?_) ?_
                  · have B4 : ev aq (.tmp 4) = .pointer (some ⟨w.heap.size + 1, 0, none⟩) := hk.base 4 (by kernel_rfl) rfl
                    have hb := grows_of hk.ext
                    exact wp_of_value (op_load3 4 _ B4 (D1.out.below hb)) (hK.out _ _ (Grows.refl _) (fun w2 h2 => QL.grow ⟨_, _, _, _, rfl, (SN1.out.below hb), (SD1.out.below hb), hlm4, hmm4⟩ h2) (fun h => absurd h (by decide)))
                  refine AllOps.cons (Does.lets (g := 2) (d := 115) (t := true) rfl (by kernel_rfl) (by kernel_rfl) (fun vq wq h => h wq (Grows.refl wq)) fun lq aq wq hk hr K hK => ?_) ?_
                  · obtain ⟨v3, E3, -, r3⟩ := hk.dep hr 3 116 (by kernel_rfl) (by kernel_rfl)
                    have r3 : RV wq v3 ((a / b)) := r3 wq (Grows.refl wq)
                    obtain ⟨v4, E4, -, r4⟩ := hk.dep hr 4 117 (by kernel_rfl) (by kernel_rfl)
                    have r4 : QL wq v4 nP1 fP1 gP1 := r4 wq (Grows.refl wq)
                    refine wp_of_call (f := 26) (vs := #[v3, v4]) (by go_simp) (qmulK_v wq (r3).qv ((r4).qv.to hq1) ((hs0.div hs1).mono (by decide)) (hs1.mono (by decide))) ?_
                    rintro e w1 ⟨u, rfl, hu, hb⟩
                    exact ⟨u, rfl, hK.out _ _ hb (fun w2 h2 => (hu).grow h2) (fun h => absurd h (by decide))⟩
                  refine AllOps.cons (Does.lets (g := 2) (d := 115) (t := true) rfl (by kernel_rfl) (by kernel_rfl) (fun vq wq h => h wq (Grows.refl wq)) fun lq aq wq hk hr K hK => ?_) ?_
                  · have B3 : ev aq (.tmp 3) = .pointer (some ⟨w.heap.size, 0, none⟩) := hk.base 3 (by kernel_rfl) rfl
                    have hb := grows_of hk.ext
                    exact wp_of_value (op_load3 3 _ B3 (D0.out.below hb)) (hK.out _ _ (Grows.refl _) (fun w2 h2 => QL.grow ⟨_, _, _, _, rfl, (SN0.out.below hb), (SD0.out.below hb), hlm3, hmm3⟩ h2) (fun h => absurd h (by decide)))
                  refine AllOps.cons (Does.lets (g := 2) (d := 115) (t := true) rfl (by kernel_rfl) (by kernel_rfl) (fun vq wq h => h wq (Grows.refl wq)) fun lq aq wq hk hr K hK => ?_) ?_
                  · refine wp_of_call (f := 40) (vs := #[.int .i64 1]) (by go_simp) (rfrom_v wq 1 (by decide) (by decide)) ?_
                    rintro e w1 ⟨u, rfl, hu, hb⟩
                    exact ⟨u, rfl, hK.out _ _ hb (fun w2 h2 => (hu).grow h2) (fun h => absurd h (by decide))⟩
                  refine AllOps.cons (Does.lets (g := 2) (d := 115) (t := true) rfl (by kernel_rfl) (by kernel_rfl) (fun vq wq h => h wq (Grows.refl wq)) fun lq aq wq hk hr K hK => ?_) ?_
                  · obtain ⟨v6, E6, -, r6⟩ := hk.dep hr 6 119 (by kernel_rfl) (by kernel_rfl)
                    have r6 : QL wq v6 nP0 fP0 gP0 := r6 wq (Grows.refl wq)
                    obtain ⟨v7, E7, -, r7⟩ := hk.dep hr 7 120 (by kernel_rfl) (by kernel_rfl)
                    have r7 : RV wq v7 (((1 : Int) : Rat)) := r7 wq (Grows.refl wq)
                    refine wp_of_call (f := 26) (vs := #[v6, v7]) (by go_simp) (qmulK_v wq ((r6).qv.to hq0) (r7).qv (hs0.mono (by decide)) ((Qsz.int (szz_i64 (by decide) (by decide)) (by decide)).mono (by decide))) ?_
                    rintro e w1 ⟨u, rfl, hu, hb⟩
                    exact ⟨u, rfl, hK.out _ _ hb (fun w2 h2 => (hu).grow h2) (fun h => absurd h (by decide))⟩
                  refine AllOps.cons (Does.lets (g := 2) (d := 115) (t := true) rfl (by kernel_rfl) (by kernel_rfl) (fun vq wq h => h wq (Grows.refl wq)) fun lq aq wq hk hr K hK => ?_) ?_
                  · obtain ⟨v5, E5, -, r5⟩ := hk.dep hr 5 118 (by kernel_rfl) (by kernel_rfl)
                    have r5 : RV wq v5 (((a / b) * b)) := r5 wq (Grows.refl wq)
                    obtain ⟨v8, E8, -, r8⟩ := hk.dep hr 8 121 (by kernel_rfl) (by kernel_rfl)
                    have r8 : RV wq v8 ((a * ((1 : Int) : Rat))) := r8 wq (Grows.refl wq)
                    refine wp_of_call (f := 15) (vs := #[v5, v8]) (by go_simp) (lsameR_v wq r5 r8 (t := true) (decide_eq_true (div_back hb0))) ?_
                    rintro e w1 ⟨u, rfl, hu, hb⟩
                    exact ⟨u, rfl, hK.out _ _ hb (fun w2 h2 => hu) (fun h => absurd h (by decide))⟩
                  refine AllOps.cons (Does.plain rfl fun lq aq wq hk hr K hK => ?_) ?_
                  · obtain ⟨v2, E2, -, r2⟩ := hk.dep hr 2 115 (by kernel_rfl) (by kernel_rfl)
                    replace E2 : ev aq (.tmp 115) = .bool true := E2.trans (r2 wq (Grows.refl wq))
                    obtain ⟨v9, E9, -, r9⟩ := hk.dep hr 9 122 (by kernel_rfl) (by kernel_rfl)
                    replace E9 : ev aq (.tmp 122) = .bool true := E9.trans (r9 wq (Grows.refl wq))
                    exact wp_of_value (by go_simp) (hK.out _ _ (Grows.refl _) (fun w2 h2 => rfl) (fun h => absurd h (by decide)))
                  exact AllOps.nil
                case fin =>
                  intro V x14 hG hV hap
                  have r10 : (V 10) = .bool true := hV 10 (by decide)
                  clear hV hap
                  simp only [List.take_succ_cons, List.take_zero, List.drop_succ_cons, List.drop_zero, putAll, Act.put, List.setIfInBounds_toArray, List.set_cons_zero, List.set_cons_succ]
                  have hb := grows_of hG
                  replace D0 := Lib.hid (D0.out.below hb)
                  replace SN0 := Lib.hid (SN0.out.below hb)
                  replace SD0 := Lib.hid (SD0.out.below hb)
                  replace D1 := Lib.hid (D1.out.below hb)
                  replace SN1 := Lib.hid (SN1.out.below hb)
                  replace SD1 := Lib.hid (SD1.out.below hb)
                  replace D2 := Lib.hid (D2.out.below hb)
                  replace SN2 := Lib.hid (SN2.out.below hb)
                  replace SD2 := Lib.hid (SD2.out.below hb)
                  replace Dq := Lib.hid (Dq.out.below hb)
                  replace SNq := Lib.hid (SNq.out.below hb)
                  replace SDq := Lib.hid (SDq.out.below hb)
                  replace HB := Lib.hid (HB.out.trans (Below.mono hb HB.out.size))
                  clear hb hG
                  rw [r10]
                  clear r10
                  go_wp2_with fail
                  go_ret
                  exact ⟨rfl, HB.out⟩
end Go.Proofs.YtbippecchpaleaaGreatDoor
