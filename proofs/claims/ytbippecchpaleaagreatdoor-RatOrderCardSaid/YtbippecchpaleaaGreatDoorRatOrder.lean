import Derived.Test.YtbippecchpaleaaGreatDoorGRatF
/- litmuslaw03.RatOrder returns true. -/
namespace Go.Proofs.YtbippecchpaleaaGreatDoor
open Go.RowKit Go.Num Go.Kp
attribute [local go_sem] Oper.semAt_some u64_mask ev_const ev_func ev_global
theorem prod_in {k c : Int} (h1 : -1 ≤ k) (h2 : k ≤ 1) (h3 : -1 ≤ c) (h4 : c ≤ 1) : -1 ≤ k * c ∧ k * c ≤ 1 := by
  have e1 : k = -1 ∨ k = 0 ∨ k = 1 := by omega
  have e2 : c = -1 ∨ c = 0 ∨ c = 1 := by omega
  rcases e1 with rfl | rfl | rfl <;> rcases e2 with rfl | rfl | rfl <;> decide
set_option maxHeartbeats 16000000 in
set_option maxRecDepth 100000 in
theorem ratOrder_any (w : World) (nP0 : Bool) (mP0 pP0 : Value) (lP0 rP0 : List Nat) (nP1 : Bool) (mP1 pP1 : Value) (lP1 rP1 : List Nat) (nP2 : Bool) (mP2 pP2 : Value) (lP2 rP2 : List Nat) (hlen : HasLen w) (hP0 : Arg encU w mP0 lP0) (kP0 : Arg encU w pP0 rP0) (hL0 : Lim lP0) (hM0 : Lim rP0) (hN0 : lP0.length ≤ 9223372036854775807) (hO0 : rP0.length ≤ 9223372036854775807) (hP1 : Arg encU w mP1 lP1) (kP1 : Arg encU w pP1 rP1) (hL1 : Lim lP1) (hM1 : Lim rP1) (hN1 : lP1.length ≤ 9223372036854775807) (hO1 : rP1.length ≤ 9223372036854775807) (hP2 : Arg encU w mP2 lP2) (kP2 : Arg encU w pP2 rP2) (hL2 : Lim lP2) (hM2 : Lim rP2) (hN2 : lP2.length ≤ 9223372036854775807) (hO2 : rP2.length ≤ 9223372036854775807) : Calls Tryz.prog 10 #[.agg #[.bool nP0, mP0, pP0], .agg #[.bool nP1, mP1, pP1], .agg #[.bool nP2, mP2, pP2]] w fun e w' => e = .returned (.bool true) ∧ Below w.heap.size w w' := by
  obtain ⟨fP0, hf0⟩ : ∃ f, lP0.take 4 = f := ⟨_, rfl⟩
  obtain ⟨gP0, hg0⟩ : ∃ g, rP0.take 4 = g := ⟨_, rfl⟩
  obtain ⟨a, hq0⟩ : ∃ q, lrat nP0 fP0 gP0 = q := ⟨_, rfl⟩
  have hs0 : Qsz a 4 := hq0 ▸ few_qsz nP0 4 hf0 hg0 hL0 hM0 (by decide)
  have hlim0 := Lib.hid hL0
  have hlimd0 := Lib.hid hM0
  have hlen0 := Lib.hid hN0
  have hlend0 := Lib.hid hO0
  obtain ⟨AP0, cP0, eP0, -, -⟩ := hP0.open_
  subst eP0
  obtain ⟨BP0, dP0, eP0, -, -⟩ := kP0.open_
  subst eP0
  clear hL0 hM0 hN0 hO0
  obtain ⟨fP1, hf1⟩ : ∃ f, lP1.take 4 = f := ⟨_, rfl⟩
  obtain ⟨gP1, hg1⟩ : ∃ g, rP1.take 4 = g := ⟨_, rfl⟩
  obtain ⟨b, hq1⟩ : ∃ q, lrat nP1 fP1 gP1 = q := ⟨_, rfl⟩
  have hs1 : Qsz b 4 := hq1 ▸ few_qsz nP1 4 hf1 hg1 hL1 hM1 (by decide)
  have hlim1 := Lib.hid hL1
  have hlimd1 := Lib.hid hM1
  have hlen1 := Lib.hid hN1
  have hlend1 := Lib.hid hO1
  obtain ⟨AP1, cP1, eP1, -, -⟩ := hP1.open_
  subst eP1
  obtain ⟨BP1, dP1, eP1, -, -⟩ := kP1.open_
  subst eP1
  clear hL1 hM1 hN1 hO1
  obtain ⟨fP2, hf2⟩ : ∃ f, lP2.take 4 = f := ⟨_, rfl⟩
  obtain ⟨gP2, hg2⟩ : ∃ g, rP2.take 4 = g := ⟨_, rfl⟩
  obtain ⟨c, hq2⟩ : ∃ q, lrat nP2 fP2 gP2 = q := ⟨_, rfl⟩
  have hs2 : Qsz c 4 := hq2 ▸ few_qsz nP2 4 hf2 hg2 hL2 hM2 (by decide)
  have hlim2 := Lib.hid hL2
  have hlimd2 := Lib.hid hM2
  have hlen2 := Lib.hid hN2
  have hlend2 := Lib.hid hO2
  obtain ⟨AP2, cP2, eP2, -, -⟩ := hP2.open_
  subst eP2
  obtain ⟨BP2, dP2, eP2, -, -⟩ := kP2.open_
  subst eP2
  clear hL2 hM2 hN2 hO2
  go_enter Tryz.func10, Tryz.ntmps10
  go_upto_region 1 with fail
  have HB := Below.refl w.heap.size w
  have z0 : w.heap.size = w.heap.size := rfl
  have D0 := Box3.new w 26 (.bool nP0) (.slice AP0 lP0.length cP0) (.slice BP0 rP0.length dP0)
  rw [z0] at D0
  replace HB := HB.alloc (by rw [z0]; omega) (.cells #[.bool nP0, .slice AP0 lP0.length cP0, .slice BP0 rP0.length dP0] 26)
  have z1 : (w.alloc (.cells #[.bool nP0, .slice AP0 lP0.length cP0, .slice BP0 rP0.length dP0] 26)).heap.size = w.heap.size + 1 := by rw [World.size_alloc, z0]
  generalize w.alloc (.cells #[.bool nP0, .slice AP0 lP0.length cP0, .slice BP0 rP0.length dP0] 26) = u0 at *
  have D1 := Box3.new u0 26 (.bool nP1) (.slice AP1 lP1.length cP1) (.slice BP1 rP1.length dP1)
  rw [z1] at D1
  replace D0 := D0.alloc (.cells #[.bool nP1, .slice AP1 lP1.length cP1, .slice BP1 rP1.length dP1] 26)
  replace HB := HB.alloc (by rw [z1]; omega) (.cells #[.bool nP1, .slice AP1 lP1.length cP1, .slice BP1 rP1.length dP1] 26)
  have z2 : (u0.alloc (.cells #[.bool nP1, .slice AP1 lP1.length cP1, .slice BP1 rP1.length dP1] 26)).heap.size = w.heap.size + 1 + 1 := by rw [World.size_alloc, z1]
  generalize u0.alloc (.cells #[.bool nP1, .slice AP1 lP1.length cP1, .slice BP1 rP1.length dP1] 26) = u1 at *
  have D2 := Box3.new u1 26 (.bool nP2) (.slice AP2 lP2.length cP2) (.slice BP2 rP2.length dP2)
  rw [z2] at D2
  replace D0 := D0.alloc (.cells #[.bool nP2, .slice AP2 lP2.length cP2, .slice BP2 rP2.length dP2] 26)
  replace D1 := D1.alloc (.cells #[.bool nP2, .slice AP2 lP2.length cP2, .slice BP2 rP2.length dP2] 26)
  replace HB := HB.alloc (by rw [z2]; omega) (.cells #[.bool nP2, .slice AP2 lP2.length cP2, .slice BP2 rP2.length dP2] 26)
  have z3 : (u1.alloc (.cells #[.bool nP2, .slice AP2 lP2.length cP2, .slice BP2 rP2.length dP2] 26)).heap.size = w.heap.size + 1 + 1 + 1 := by rw [World.size_alloc, z2]
  generalize u1.alloc (.cells #[.bool nP2, .slice AP2 lP2.length cP2, .slice BP2 rP2.length dP2] 26) = u2 at *
  clear z0 z1 z2 z3
  replace HB := Lib.hid HB
  replace D0 := Lib.hid D0
  have SN0 := Lib.hid (hP0.below HB.out)
  have SD0 := Lib.hid (kP0.below HB.out)
  clear hP0 kP0
  replace D1 := Lib.hid D1
  have SN1 := Lib.hid (hP1.below HB.out)
  have SD1 := Lib.hid (kP1.below HB.out)
  clear hP1 kP1
  replace D2 := Lib.hid D2
  have SN2 := Lib.hid (hP2.below HB.out)
  have SD2 := Lib.hid (kP2.below HB.out)
  clear hP2 kP2
  have HL := Lib.hid hlen
  clear hlen
  refine wp_region_calm 2 [] ([fun vq _ => vq = .bool true,
      fun vq _ => vq = .bool false]) (by kernel_rfl) (by decide) ?hF ?steps ?fin
  case hF =>
    intro j hj; cases hj
  case steps =>
    refine AllOps.cons (Does.plain rfl fun lq aq wq hk hr K hK => ?_) ?_
    · refine wp_of_call (f := 39) (vs := #[]) (by go_simp) (qworks_v wq (HL.out.below (HB.out.trans (Below.mono hk.ext HB.out.size)))) ?_
      rintro e w1 ⟨u, rfl, hu, hb⟩
      exact ⟨u, rfl, hK.out _ _ hb (fun w2 h2 => hu) (fun h => absurd h (by decide))⟩
    refine AllOps.cons (Does.plain rfl fun lq aq wq hk hr K hK => ?_) ?_
    · obtain ⟨v0, E0, -, r0⟩ := hk.dep hr 0 8 (by kernel_rfl) (by kernel_rfl)
      replace E0 : ev aq (.tmp 8) = .bool true := E0.trans (r0 wq (Grows.refl wq))
      exact wp_of_value (by go_simp) (hK.out _ _ (Grows.refl _) (fun w2 h2 => rfl) (fun h => absurd h (by decide)))
    exact AllOps.nil
  case fin =>
    intro V x1 hG hV hap
    have r1 : (V 1) = .bool false := hV 1 (by decide)
    clear hV hap
    simp only [List.take_succ_cons, List.take_nil, List.drop_succ_cons, List.drop_nil, putAll, Act.put, List.setIfInBounds_toArray, List.set_cons_zero, List.set_cons_succ]
    have hb := (show Below _ _ _ from hG)
    replace D0 := Lib.hid (D0.out.below hb)
    replace SN0 := Lib.hid (SN0.out.below hb)
    replace SD0 := Lib.hid (SD0.out.below hb)
    replace D1 := Lib.hid (D1.out.below hb)
    replace SN1 := Lib.hid (SN1.out.below hb)
    replace SD1 := Lib.hid (SD1.out.below hb)
    replace D2 := Lib.hid (D2.out.below hb)
    replace SN2 := Lib.hid (SN2.out.below hb)
    replace SD2 := Lib.hid (SD2.out.below hb)
    replace HB := Lib.hid (HB.out.trans (Below.mono hb HB.out.size))
    clear hb hG
    rw [r1]
    clear r1
    go_upto_region 3 with fail
    refine wp_region_going 6 [] ([fun vq _ => vq = .agg #[.bool nP0, .slice AP0 lP0.length cP0, .slice BP0 rP0.length dP0],
        fun vq wq => QL wq vq nP0 fP0 gP0,
        fun vq _ => vq = .agg #[.bool nP1, .slice AP1 lP1.length cP1, .slice BP1 rP1.length dP1],
        fun vq wq => QL wq vq nP1 fP1 gP1,
        fun vq _ => vq = .agg #[.bool nP2, .slice AP2 lP2.length cP2, .slice BP2 rP2.length dP2],
        fun vq wq => QL wq vq nP2 fP2 gP2]) (by kernel_rfl) (by kernel_rfl) (by decide) (by kernel_rfl) (by kernel_rfl) ?hF ?steps ?fin
    case hF =>
      intro j hj; cases hj
    case steps =>
      refine AllOps.cons (Does.plain rfl fun lq aq wq hk hr K hK => ?_) ?_
      · have B3 : ev aq (.tmp 3) = .pointer (some ⟨w.heap.size, 0, none⟩) := hk.base 3 (by kernel_rfl) rfl
        have hb := grows_of hk.ext
        exact wp_of_value (op_load3 3 _ B3 (D0.out.below hb)) (hK.out _ _ (Grows.refl _) (fun w2 h2 => rfl) (fun h => absurd h (by decide)))
      refine AllOps.cons (Does.plain rfl fun lq aq wq hk hr K hK => ?_) ?_
      · obtain ⟨v0, E0, -, r0⟩ := hk.dep hr 0 10 (by kernel_rfl) (by kernel_rfl)
        replace E0 : ev aq (.tmp 10) = .agg #[.bool nP0, .slice AP0 lP0.length cP0, .slice BP0 rP0.length dP0] := E0.trans (r0 wq (Grows.refl wq))
        refine wp_of_call (f := 12) (vs := #[.agg #[.bool nP0, .slice AP0 lP0.length cP0, .slice BP0 rP0.length dP0], .int .i64 4]) (by go_simp) (few3_v wq 4 (i := 4) rfl (SN0.out.below (grows_of hk.ext)) (SD0.out.below (grows_of hk.ext)) hlim0.out hlen0.out hlimd0.out hlend0.out (by decide) hf0 hg0) ?_
        rintro e w1 ⟨u, rfl, hu, hb⟩
        exact ⟨u, rfl, hK.out _ _ hb (fun w2 h2 => (hu).grow h2) (fun h => absurd h (by decide))⟩
      refine AllOps.cons (Does.plain rfl fun lq aq wq hk hr K hK => ?_) ?_
      · have B4 : ev aq (.tmp 4) = .pointer (some ⟨w.heap.size + 1, 0, none⟩) := hk.base 4 (by kernel_rfl) rfl
        have hb := grows_of hk.ext
        exact wp_of_value (op_load3 4 _ B4 (D1.out.below hb)) (hK.out _ _ (Grows.refl _) (fun w2 h2 => rfl) (fun h => absurd h (by decide)))
      refine AllOps.cons (Does.plain rfl fun lq aq wq hk hr K hK => ?_) ?_
      · obtain ⟨v2, E2, -, r2⟩ := hk.dep hr 2 12 (by kernel_rfl) (by kernel_rfl)
        replace E2 : ev aq (.tmp 12) = .agg #[.bool nP1, .slice AP1 lP1.length cP1, .slice BP1 rP1.length dP1] := E2.trans (r2 wq (Grows.refl wq))
        refine wp_of_call (f := 12) (vs := #[.agg #[.bool nP1, .slice AP1 lP1.length cP1, .slice BP1 rP1.length dP1], .int .i64 4]) (by go_simp) (few3_v wq 4 (i := 4) rfl (SN1.out.below (grows_of hk.ext)) (SD1.out.below (grows_of hk.ext)) hlim1.out hlen1.out hlimd1.out hlend1.out (by decide) hf1 hg1) ?_
        rintro e w1 ⟨u, rfl, hu, hb⟩
        exact ⟨u, rfl, hK.out _ _ hb (fun w2 h2 => (hu).grow h2) (fun h => absurd h (by decide))⟩
      refine AllOps.cons (Does.plain rfl fun lq aq wq hk hr K hK => ?_) ?_
      · have B5 : ev aq (.tmp 5) = .pointer (some ⟨w.heap.size + 1 + 1, 0, none⟩) := hk.base 5 (by kernel_rfl) rfl
        have hb := grows_of hk.ext
        exact wp_of_value (op_load3 5 _ B5 (D2.out.below hb)) (hK.out _ _ (Grows.refl _) (fun w2 h2 => rfl) (fun h => absurd h (by decide)))
      refine AllOps.cons (Does.plain rfl fun lq aq wq hk hr K hK => ?_) ?_
      · obtain ⟨v4, E4, -, r4⟩ := hk.dep hr 4 14 (by kernel_rfl) (by kernel_rfl)
        replace E4 : ev aq (.tmp 14) = .agg #[.bool nP2, .slice AP2 lP2.length cP2, .slice BP2 rP2.length dP2] := E4.trans (r4 wq (Grows.refl wq))
        refine wp_of_call (f := 12) (vs := #[.agg #[.bool nP2, .slice AP2 lP2.length cP2, .slice BP2 rP2.length dP2], .int .i64 4]) (by go_simp) (few3_v wq 4 (i := 4) rfl (SN2.out.below (grows_of hk.ext)) (SD2.out.below (grows_of hk.ext)) hlim2.out hlen2.out hlimd2.out hlend2.out (by decide) hf2 hg2) ?_
        rintro e w1 ⟨u, rfl, hu, hb⟩
        exact ⟨u, rfl, hK.out _ _ hb (fun w2 h2 => (hu).grow h2) (fun h => absurd h (by decide))⟩
      exact AllOps.nil
    case fin =>
      intro V x2 hG hV hap
      have r1 : QL x2 (V 1) nP0 fP0 gP0 := hV 1 (by decide)
      have r3 : QL x2 (V 3) nP1 fP1 gP1 := hV 3 (by decide)
      have r5 : QL x2 (V 5) nP2 fP2 gP2 := hV 5 (by decide)
      clear hV hap
      simp only [List.take_succ_cons, List.take_zero, List.drop_succ_cons, List.drop_zero, putAll, Act.put, List.setIfInBounds_toArray, List.set_cons_zero, List.set_cons_succ]
      have hb := grows_of hG
      obtain ⟨Am3, cm3, Bm3, dm3, em3, sm3, tm3, hlm3, hmm3⟩ := r1
      simp only [em3]
      clear em3
      obtain ⟨Am4, cm4, Bm4, dm4, em4, sm4, tm4, hlm4, hmm4⟩ := r3
      simp only [em4]
      clear em4
      obtain ⟨Am5, cm5, Bm5, dm5, em5, sm5, tm5, hlm5, hmm5⟩ := r5
      simp only [em5]
      clear em5
      clear hG
      replace D0 := D0.out.below hb
      refine wpList_of_skip rfl (op_store3 3 11 _ rfl rfl D0) ?_
      replace D1 := Lib.hid (put3_far (x' := .bool nP0) (y' := .slice Am3 fP0.length cm3) (z' := .slice Bm3 gP0.length dm3) (D1.out.below hb) (show w.heap.size + 1 ≠ w.heap.size by omega))
      replace SN1 := Lib.hid ((SN1.out.below hb).put3 D0 (.bool nP0) (.slice Am3 fP0.length cm3) (.slice Bm3 gP0.length dm3))
      replace SD1 := Lib.hid ((SD1.out.below hb).put3 D0 (.bool nP0) (.slice Am3 fP0.length cm3) (.slice Bm3 gP0.length dm3))
      replace D2 := Lib.hid (put3_far (x' := .bool nP0) (y' := .slice Am3 fP0.length cm3) (z' := .slice Bm3 gP0.length dm3) (D2.out.below hb) (show w.heap.size + 1 + 1 ≠ w.heap.size by omega))
      replace SN2 := Lib.hid ((SN2.out.below hb).put3 D0 (.bool nP0) (.slice Am3 fP0.length cm3) (.slice Bm3 gP0.length dm3))
      replace SD2 := Lib.hid ((SD2.out.below hb).put3 D0 (.bool nP0) (.slice Am3 fP0.length cm3) (.slice Bm3 gP0.length dm3))
      replace sm4 := sm4.put3 D0 (.bool nP0) (.slice Am3 fP0.length cm3) (.slice Bm3 gP0.length dm3)
      replace tm4 := tm4.put3 D0 (.bool nP0) (.slice Am3 fP0.length cm3) (.slice Bm3 gP0.length dm3)
      replace sm5 := sm5.put3 D0 (.bool nP0) (.slice Am3 fP0.length cm3) (.slice Bm3 gP0.length dm3)
      replace tm5 := tm5.put3 D0 (.bool nP0) (.slice Am3 fP0.length cm3) (.slice Bm3 gP0.length dm3)
      replace SN0 := Lib.hid (sm3.put3 D0 (.bool nP0) (.slice Am3 fP0.length cm3) (.slice Bm3 gP0.length dm3))
      replace SD0 := Lib.hid (tm3.put3 D0 (.bool nP0) (.slice Am3 fP0.length cm3) (.slice Bm3 gP0.length dm3))
      replace HB := Lib.hid (put3_below (x' := .bool nP0) (y' := .slice Am3 fP0.length cm3) (z' := .slice Bm3 gP0.length dm3) (HB.out.trans (Below.mono hb HB.out.size)) (show w.heap.size ≤ w.heap.size by omega))
      replace D0 := Lib.hid (put3_own (x' := .bool nP0) (y' := .slice Am3 fP0.length cm3) (z' := .slice Bm3 gP0.length dm3) D0)
      clear hb sm3 tm3
      generalize put3 x2 w.heap.size (.bool nP0) (.slice Am3 fP0.length cm3) (.slice Bm3 gP0.length dm3) = y6 at *
      have hkm3 : szz (sg nP0 (val fP0)) ≤ 1000 := by unfold szz; rw [sg_natAbs]; exact Nat.le_trans (sz_num SN0.out) hlm3
      have hb := Below.refl (y6).heap.size (y6)
      replace D1 := D1.out.below hb
      refine wpList_of_skip rfl (op_store3 4 13 _ rfl rfl D1) ?_
      replace D0 := Lib.hid (put3_far (x' := .bool nP1) (y' := .slice Am4 fP1.length cm4) (z' := .slice Bm4 gP1.length dm4) (D0.out.below hb) (show w.heap.size ≠ w.heap.size + 1 by omega))
      replace SN0 := Lib.hid ((SN0.out.below hb).put3 D1 (.bool nP1) (.slice Am4 fP1.length cm4) (.slice Bm4 gP1.length dm4))
      replace SD0 := Lib.hid ((SD0.out.below hb).put3 D1 (.bool nP1) (.slice Am4 fP1.length cm4) (.slice Bm4 gP1.length dm4))
      replace D2 := Lib.hid (put3_far (x' := .bool nP1) (y' := .slice Am4 fP1.length cm4) (z' := .slice Bm4 gP1.length dm4) (D2.out.below hb) (show w.heap.size + 1 + 1 ≠ w.heap.size + 1 by omega))
      replace SN2 := Lib.hid ((SN2.out.below hb).put3 D1 (.bool nP1) (.slice Am4 fP1.length cm4) (.slice Bm4 gP1.length dm4))
      replace SD2 := Lib.hid ((SD2.out.below hb).put3 D1 (.bool nP1) (.slice Am4 fP1.length cm4) (.slice Bm4 gP1.length dm4))
      replace sm5 := sm5.put3 D1 (.bool nP1) (.slice Am4 fP1.length cm4) (.slice Bm4 gP1.length dm4)
      replace tm5 := tm5.put3 D1 (.bool nP1) (.slice Am4 fP1.length cm4) (.slice Bm4 gP1.length dm4)
      replace SN1 := Lib.hid (sm4.put3 D1 (.bool nP1) (.slice Am4 fP1.length cm4) (.slice Bm4 gP1.length dm4))
      replace SD1 := Lib.hid (tm4.put3 D1 (.bool nP1) (.slice Am4 fP1.length cm4) (.slice Bm4 gP1.length dm4))
      replace HB := Lib.hid (put3_below (x' := .bool nP1) (y' := .slice Am4 fP1.length cm4) (z' := .slice Bm4 gP1.length dm4) (HB.out.trans (Below.mono hb HB.out.size)) (show w.heap.size ≤ w.heap.size + 1 by omega))
      replace D1 := Lib.hid (put3_own (x' := .bool nP1) (y' := .slice Am4 fP1.length cm4) (z' := .slice Bm4 gP1.length dm4) D1)
      clear hb sm4 tm4
      generalize put3 y6 (w.heap.size + 1) (.bool nP1) (.slice Am4 fP1.length cm4) (.slice Bm4 gP1.length dm4) = y7 at *
      have hkm4 : szz (sg nP1 (val fP1)) ≤ 1000 := by unfold szz; rw [sg_natAbs]; exact Nat.le_trans (sz_num SN1.out) hlm4
      have hb := Below.refl (y7).heap.size (y7)
      replace D2 := D2.out.below hb
      refine wpList_of_skip rfl (op_store3 5 15 _ rfl rfl D2) ?_
      replace D0 := Lib.hid (put3_far (x' := .bool nP2) (y' := .slice Am5 fP2.length cm5) (z' := .slice Bm5 gP2.length dm5) (D0.out.below hb) (show w.heap.size ≠ w.heap.size + 1 + 1 by omega))
      replace SN0 := Lib.hid ((SN0.out.below hb).put3 D2 (.bool nP2) (.slice Am5 fP2.length cm5) (.slice Bm5 gP2.length dm5))
      replace SD0 := Lib.hid ((SD0.out.below hb).put3 D2 (.bool nP2) (.slice Am5 fP2.length cm5) (.slice Bm5 gP2.length dm5))
      replace D1 := Lib.hid (put3_far (x' := .bool nP2) (y' := .slice Am5 fP2.length cm5) (z' := .slice Bm5 gP2.length dm5) (D1.out.below hb) (show w.heap.size + 1 ≠ w.heap.size + 1 + 1 by omega))
      replace SN1 := Lib.hid ((SN1.out.below hb).put3 D2 (.bool nP2) (.slice Am5 fP2.length cm5) (.slice Bm5 gP2.length dm5))
      replace SD1 := Lib.hid ((SD1.out.below hb).put3 D2 (.bool nP2) (.slice Am5 fP2.length cm5) (.slice Bm5 gP2.length dm5))
      replace SN2 := Lib.hid (sm5.put3 D2 (.bool nP2) (.slice Am5 fP2.length cm5) (.slice Bm5 gP2.length dm5))
      replace SD2 := Lib.hid (tm5.put3 D2 (.bool nP2) (.slice Am5 fP2.length cm5) (.slice Bm5 gP2.length dm5))
      replace HB := Lib.hid (put3_below (x' := .bool nP2) (y' := .slice Am5 fP2.length cm5) (z' := .slice Bm5 gP2.length dm5) (HB.out.trans (Below.mono hb HB.out.size)) (show w.heap.size ≤ w.heap.size + 1 + 1 by omega))
      replace D2 := Lib.hid (put3_own (x' := .bool nP2) (y' := .slice Am5 fP2.length cm5) (z' := .slice Bm5 gP2.length dm5) D2)
      clear hb sm5 tm5
      generalize put3 y7 (w.heap.size + 1 + 1) (.bool nP2) (.slice Am5 fP2.length cm5) (.slice Bm5 gP2.length dm5) = y8 at *
      have hkm5 : szz (sg nP2 (val fP2)) ≤ 1000 := by unfold szz; rw [sg_natAbs]; exact Nat.le_trans (sz_num SN2.out) hlm5
      obtain ⟨k, hkc⟩ : ∃ k, qs (a - b) = k := ⟨_, rfl⟩
      obtain ⟨hk1, hk2⟩ := hkc ▸ qs_in (a - b)
      replace hkc := Lib.hid hkc
      go_upto_region 4 with fail
      refine wp_region_calm 3 [] ([fun vq wq => QL wq vq nP0 fP0 gP0,
          fun vq wq => QL wq vq nP1 fP1 gP1,
          fun vq _ => vq = .int .i64 k]) (by kernel_rfl) (by decide) ?hF ?steps ?fin
      case hF =>
        intro j hj; cases hj
      case steps =>
        refine AllOps.cons (Does.plain rfl fun lq aq wq hk hr K hK => ?_) ?_
        · have B3 : ev aq (.tmp 3) = .pointer (some ⟨w.heap.size, 0, none⟩) := hk.base 3 (by kernel_rfl) rfl
          have hb : Below _ _ _ := hk.ext
          exact wp_of_value (op_load3 3 _ B3 (D0.out.below hb)) (hK.out _ _ (Grows.refl _) (fun w2 h2 => QL.grow ⟨_, _, _, _, rfl, (SN0.out.below hb), (SD0.out.below hb), hlm3, hmm3⟩ h2) (fun h => absurd h (by decide)))
        refine AllOps.cons (Does.plain rfl fun lq aq wq hk hr K hK => ?_) ?_
        · have B4 : ev aq (.tmp 4) = .pointer (some ⟨w.heap.size + 1, 0, none⟩) := hk.base 4 (by kernel_rfl) rfl
          have hb : Below _ _ _ := hk.ext
          exact wp_of_value (op_load3 4 _ B4 (D1.out.below hb)) (hK.out _ _ (Grows.refl _) (fun w2 h2 => QL.grow ⟨_, _, _, _, rfl, (SN1.out.below hb), (SD1.out.below hb), hlm4, hmm4⟩ h2) (fun h => absurd h (by decide)))
        refine AllOps.cons (Does.plain rfl fun lq aq wq hk hr K hK => ?_) ?_
        · obtain ⟨v0, E0, -, r0⟩ := hk.dep hr 0 16 (by kernel_rfl) (by kernel_rfl)
          have r0 : QL wq v0 nP0 fP0 gP0 := r0 wq (Grows.refl wq)
          obtain ⟨v1, E1, -, r1⟩ := hk.dep hr 1 17 (by kernel_rfl) (by kernel_rfl)
          have r1 : QL wq v1 nP1 fP1 gP1 := r1 wq (Grows.refl wq)
          refine wp_of_call (f := 28) (vs := #[v0, v1]) (by go_simp) (qcmp_v wq ((r0).qv.to hq0) ((r1).qv.to hq1) (hs0.mono (by decide)) (hs1.mono (by decide)) (k := k) hkc.out) ?_
          rintro e w1 ⟨u, rfl, hu, hb⟩
          exact ⟨u, rfl, hK.out _ _ hb (fun w2 h2 => hu) (fun h => absurd h (by decide))⟩
        exact AllOps.nil
      case fin =>
        intro V x9 hG hV hap
        have r2 : (V 2) = .int .i64 k := hV 2 (by decide)
        clear hV hap
        simp only [List.take_succ_cons, List.take_zero, List.drop_succ_cons, List.drop_zero, putAll, Act.put, List.setIfInBounds_toArray, List.set_cons_zero, List.set_cons_succ]
        have hb := (show Below _ _ _ from hG)
        replace D0 := Lib.hid (D0.out.below hb)
        replace SN0 := Lib.hid (SN0.out.below hb)
        replace SD0 := Lib.hid (SD0.out.below hb)
        replace D1 := Lib.hid (D1.out.below hb)
        replace SN1 := Lib.hid (SN1.out.below hb)
        replace SD1 := Lib.hid (SD1.out.below hb)
        replace D2 := Lib.hid (D2.out.below hb)
        replace SN2 := Lib.hid (SN2.out.below hb)
        replace SD2 := Lib.hid (SD2.out.below hb)
        replace HB := Lib.hid (HB.out.trans (Below.mono hb HB.out.size))
        clear hb hG
        rw [r2]
        clear r2
        obtain ⟨m, hm⟩ : ∃ m, -k = m := ⟨_, rfl⟩
        have hw : IntKind.i64.wrap m = m := IntWalk.i64_in m (by omega)
        obtain ⟨kc, hkd⟩ : ∃ kc, qs c = kc := ⟨_, rfl⟩
        obtain ⟨hk3, hk4⟩ := hkd ▸ qs_in c
        obtain ⟨km, hkm⟩ : ∃ km, k * kc = km := ⟨_, rfl⟩
        have hkm2 : -1 ≤ km ∧ km ≤ 1 := by rw [← hkm]; exact prod_in hk1 hk2 hk3 hk4
        have hw2 : IntKind.i64.wrap km = km := IntWalk.i64_in km (by omega)
        have h1 := Lib.hid (show qs (b - a) = m by rw [qs_swap, hkc.out, hm])
        have h2 := Lib.hid (show qs (a + c - (b + c)) = k by rw [sub_shift, hkc.out])
        have h3 := Lib.hid (show qs (a * c - b * c) = km by rw [mul_shift, qs_mul, hkc.out, hkd, hkm])
        obtain ⟨t, ht⟩ : ∃ t, (k == 0) = t := ⟨_, rfl⟩
        have h4 := Lib.hid (show decide (-a = -b) = t by rw [← ht, ← hkc.out, qs_alike]; exact decide_eq_decide.2 ⟨fun e => by rw [← Rat.neg_neg a, e, Rat.neg_neg], fun e => by rw [e]⟩)
        replace hkd := Lib.hid hkd
        clear hkm2
        go_upto_region 5 with fail
        refine wp_region_going 47 [] ([fun vq _ => vq = .int .i64 k,
            fun vq _ => vq = .bool false,
            fun vq _ => vq = .bool false,
            fun vq _ => vq = .int .i64 k,
            fun vq _ => vq = .bool false,
            fun vq _ => vq = .bool false,
            fun vq _ => vq = .bool false,
            fun vq wq => QL wq vq nP1 fP1 gP1,
            fun vq wq => QL wq vq nP0 fP0 gP0,
            fun vq _ => vq = .int .i64 m,
            fun vq _ => vq = .int .i64 k,
            fun vq _ => vq = .int .i64 m,
            fun vq _ => vq = .bool false,
            fun vq _ => vq = .bool false,
            fun vq _ => vq = .bool false,
            fun vq wq => QL wq vq nP0 fP0 gP0,
            fun vq wq => QL wq vq nP2 fP2 gP2,
            fun vq wq => RV wq vq ((a + c)),
            fun vq wq => QL wq vq nP1 fP1 gP1,
            fun vq wq => QL wq vq nP2 fP2 gP2,
            fun vq wq => RV wq vq ((b + c)),
            fun vq _ => vq = .int .i64 k,
            fun vq _ => vq = .int .i64 k,
            fun vq _ => vq = .bool false,
            fun vq _ => vq = .bool false,
            fun vq _ => vq = .bool false,
            fun vq wq => QL wq vq nP0 fP0 gP0,
            fun vq wq => QL wq vq nP2 fP2 gP2,
            fun vq wq => RV wq vq ((a * c)),
            fun vq wq => QL wq vq nP1 fP1 gP1,
            fun vq wq => QL wq vq nP2 fP2 gP2,
            fun vq wq => RV wq vq ((b * c)),
            fun vq _ => vq = .int .i64 km,
            fun vq _ => vq = .int .i64 k,
            fun vq wq => QL wq vq nP2 fP2 gP2,
            fun vq _ => vq = .int .i64 kc,
            fun vq _ => vq = .int .i64 km,
            fun vq _ => vq = .bool false,
            fun vq _ => vq = .bool false,
            fun vq _ => vq = .bool false,
            fun vq wq => QL wq vq nP0 fP0 gP0,
            fun vq wq => QL wq vq nP1 fP1 gP1,
            fun vq wq => RV wq vq ((a - b)),
            fun vq _ => vq = .int .i64 k,
            fun vq _ => vq = .int .i64 k,
            fun vq _ => vq = .bool false,
            fun vq _ => vq = .bool false]) (by kernel_rfl) (by kernel_rfl) (by decide) (by kernel_rfl) (by kernel_rfl) ?hF ?steps ?fin
        case hF =>
          intro j hj; cases hj
        case steps =>
          refine AllOps.cons (Does.plain rfl fun lq aq wq hk hr K hK => ?_) ?_
          · have B7 : ev aq (.tmp 7) = .int .i64 k := hk.base 7 (by kernel_rfl) rfl
            exact wp_of_value (by go_simp) (hK.out _ _ (Grows.refl _) (fun w2 h2 => rfl) (fun h => absurd h (by decide)))
          refine AllOps.cons (Does.plain rfl fun lq aq wq hk hr K hK => ?_) ?_
          · obtain ⟨v0, E0, -, r0⟩ := hk.dep hr 0 19 (by kernel_rfl) (by kernel_rfl)
            replace E0 : ev aq (.tmp 19) = .int .i64 k := E0.trans (r0 wq (Grows.refl wq))
            exact wp_of_value (by first | (go_simp; done) | (go_simp; omega)) (hK.out _ _ (Grows.refl _) (fun w2 h2 => rfl) (fun h => absurd h (by decide)))
          refine AllOps.cons (Does.plain rfl fun lq aq wq hk hr K hK => ?_) ?_
          · obtain ⟨v1, E1, -, r1⟩ := hk.dep hr 1 20 (by kernel_rfl) (by kernel_rfl)
            replace E1 : ev aq (.tmp 20) = .bool false := E1.trans (r1 wq (Grows.refl wq))
            exact wp_of_value (by go_simp) (hK.out _ _ (Grows.refl _) (fun w2 h2 => rfl) (fun h => absurd h (by decide)))
          refine AllOps.cons (Does.lets (g := 2) (d := 21) (t := false) rfl (by kernel_rfl) (by kernel_rfl) (fun vq wq h => h wq (Grows.refl wq)) fun lq aq wq hk hr K hK => ?_) ?_
          · have B7 : ev aq (.tmp 7) = .int .i64 k := hk.base 7 (by kernel_rfl) rfl
            exact wp_of_value (by go_simp) (hK.out _ _ (Grows.refl _) (fun w2 h2 => rfl) (fun h => absurd h (by decide)))
          refine AllOps.cons (Does.lets (g := 2) (d := 21) (t := false) rfl (by kernel_rfl) (by kernel_rfl) (fun vq wq h => h wq (Grows.refl wq)) fun lq aq wq hk hr K hK => ?_) ?_
          · obtain ⟨v3, E3, -, r3⟩ := hk.dep hr 3 22 (by kernel_rfl) (by kernel_rfl)
            replace E3 : ev aq (.tmp 22) = .int .i64 k := E3.trans (r3 wq (Grows.refl wq))
            exact wp_of_value (by first | (go_simp; done) | (go_simp; omega)) (hK.out _ _ (Grows.refl _) (fun w2 h2 => rfl) (fun h => absurd h (by decide)))
          refine AllOps.cons (Does.plain rfl fun lq aq wq hk hr K hK => ?_) ?_
          · obtain ⟨v2, E2, -, r2⟩ := hk.dep hr 2 21 (by kernel_rfl) (by kernel_rfl)
            replace E2 : ev aq (.tmp 21) = .bool false := E2.trans (r2 wq (Grows.refl wq))
            obtain ⟨v4, E4, -, r4⟩ := hk.dep hr 4 23 (by kernel_rfl) (by kernel_rfl)
            replace E4 : ev aq (.tmp 23) = .bool false := E4.trans (r4 wq (Grows.refl wq))
            exact wp_of_value (by go_simp) (hK.out _ _ (Grows.refl _) (fun w2 h2 => rfl) (fun h => absurd h (by decide)))
          refine AllOps.cons (Does.plain rfl fun lq aq wq hk hr K hK => ?_) ?_
          · obtain ⟨v5, E5, -, r5⟩ := hk.dep hr 5 24 (by kernel_rfl) (by kernel_rfl)
            replace E5 : ev aq (.tmp 24) = .bool false := E5.trans (r5 wq (Grows.refl wq))
            exact wp_of_value (by go_simp) (hK.out _ _ (Grows.refl _) (fun w2 h2 => rfl) (fun h => absurd h (by decide)))
          refine AllOps.cons (Does.lets (g := 6) (d := 25) (t := false) rfl (by kernel_rfl) (by kernel_rfl) (fun vq wq h => h wq (Grows.refl wq)) fun lq aq wq hk hr K hK => ?_) ?_
          · have B4 : ev aq (.tmp 4) = .pointer (some ⟨w.heap.size + 1, 0, none⟩) := hk.base 4 (by kernel_rfl) rfl
            have hb := grows_of hk.ext
            exact wp_of_value (op_load3 4 _ B4 (D1.out.below hb)) (hK.out _ _ (Grows.refl _) (fun w2 h2 => QL.grow ⟨_, _, _, _, rfl, (SN1.out.below hb), (SD1.out.below hb), hlm4, hmm4⟩ h2) (fun h => absurd h (by decide)))
          refine AllOps.cons (Does.lets (g := 6) (d := 25) (t := false) rfl (by kernel_rfl) (by kernel_rfl) (fun vq wq h => h wq (Grows.refl wq)) fun lq aq wq hk hr K hK => ?_) ?_
          · have B3 : ev aq (.tmp 3) = .pointer (some ⟨w.heap.size, 0, none⟩) := hk.base 3 (by kernel_rfl) rfl
            have hb := grows_of hk.ext
            exact wp_of_value (op_load3 3 _ B3 (D0.out.below hb)) (hK.out _ _ (Grows.refl _) (fun w2 h2 => QL.grow ⟨_, _, _, _, rfl, (SN0.out.below hb), (SD0.out.below hb), hlm3, hmm3⟩ h2) (fun h => absurd h (by decide)))
          refine AllOps.cons (Does.lets (g := 6) (d := 25) (t := false) rfl (by kernel_rfl) (by kernel_rfl) (fun vq wq h => h wq (Grows.refl wq)) fun lq aq wq hk hr K hK => ?_) ?_
          · obtain ⟨v7, E7, -, r7⟩ := hk.dep hr 7 26 (by kernel_rfl) (by kernel_rfl)
            have r7 : QL wq v7 nP1 fP1 gP1 := r7 wq (Grows.refl wq)
            obtain ⟨v8, E8, -, r8⟩ := hk.dep hr 8 27 (by kernel_rfl) (by kernel_rfl)
            have r8 : QL wq v8 nP0 fP0 gP0 := r8 wq (Grows.refl wq)
            refine wp_of_call (f := 28) (vs := #[v7, v8]) (by go_simp) (qcmp_v wq ((r7).qv.to hq1) ((r8).qv.to hq0) (hs1.mono (by decide)) (hs0.mono (by decide)) (k := m) h1.out) ?_
            rintro e w1 ⟨u, rfl, hu, hb⟩
            exact ⟨u, rfl, hK.out _ _ hb (fun w2 h2 => hu) (fun h => absurd h (by decide))⟩
          refine AllOps.cons (Does.lets (g := 6) (d := 25) (t := false) rfl (by kernel_rfl) (by kernel_rfl) (fun vq wq h => h wq (Grows.refl wq)) fun lq aq wq hk hr K hK => ?_) ?_
          · have B7 : ev aq (.tmp 7) = .int .i64 k := hk.base 7 (by kernel_rfl) rfl
            exact wp_of_value (by go_simp) (hK.out _ _ (Grows.refl _) (fun w2 h2 => rfl) (fun h => absurd h (by decide)))
          refine AllOps.cons (Does.lets (g := 6) (d := 25) (t := false) rfl (by kernel_rfl) (by kernel_rfl) (fun vq wq h => h wq (Grows.refl wq)) fun lq aq wq hk hr K hK => ?_) ?_
          · obtain ⟨v10, E10, -, r10⟩ := hk.dep hr 10 29 (by kernel_rfl) (by kernel_rfl)
            replace E10 : ev aq (.tmp 29) = .int .i64 k := E10.trans (r10 wq (Grows.refl wq))
            exact wp_of_value (by go_simp) (hK.out _ _ (Grows.refl _) (fun w2 h2 => rfl) (fun h => absurd h (by decide)))
          refine AllOps.cons (Does.lets (g := 6) (d := 25) (t := false) rfl (by kernel_rfl) (by kernel_rfl) (fun vq wq h => h wq (Grows.refl wq)) fun lq aq wq hk hr K hK => ?_) ?_
          · obtain ⟨v9, E9, -, r9⟩ := hk.dep hr 9 28 (by kernel_rfl) (by kernel_rfl)
            replace E9 : ev aq (.tmp 28) = .int .i64 m := E9.trans (r9 wq (Grows.refl wq))
            obtain ⟨v11, E11, -, r11⟩ := hk.dep hr 11 30 (by kernel_rfl) (by kernel_rfl)
            replace E11 : ev aq (.tmp 30) = .int .i64 m := E11.trans (r11 wq (Grows.refl wq))
            exact wp_of_value (by go_simp) (hK.out _ _ (Grows.refl _) (fun w2 h2 => rfl) (fun h => absurd h (by decide)))
          refine AllOps.cons (Does.plain rfl fun lq aq wq hk hr K hK => ?_) ?_
          · obtain ⟨v6, E6, -, r6⟩ := hk.dep hr 6 25 (by kernel_rfl) (by kernel_rfl)
            replace E6 : ev aq (.tmp 25) = .bool false := E6.trans (r6 wq (Grows.refl wq))
            obtain ⟨v12, E12, -, r12⟩ := hk.dep hr 12 31 (by kernel_rfl) (by kernel_rfl)
            replace E12 : ev aq (.tmp 31) = .bool false := E12.trans (r12 wq (Grows.refl wq))
            exact wp_of_value (by go_simp) (hK.out _ _ (Grows.refl _) (fun w2 h2 => rfl) (fun h => absurd h (by decide)))
          refine AllOps.cons (Does.plain rfl fun lq aq wq hk hr K hK => ?_) ?_
          · obtain ⟨v13, E13, -, r13⟩ := hk.dep hr 13 32 (by kernel_rfl) (by kernel_rfl)
            replace E13 : ev aq (.tmp 32) = .bool false := E13.trans (r13 wq (Grows.refl wq))
            exact wp_of_value (by go_simp) (hK.out _ _ (Grows.refl _) (fun w2 h2 => rfl) (fun h => absurd h (by decide)))
          refine AllOps.cons (Does.lets (g := 14) (d := 33) (t := false) rfl (by kernel_rfl) (by kernel_rfl) (fun vq wq h => h wq (Grows.refl wq)) fun lq aq wq hk hr K hK => ?_) ?_
          · have B3 : ev aq (.tmp 3) = .pointer (some ⟨w.heap.size, 0, none⟩) := hk.base 3 (by kernel_rfl) rfl
            have hb := grows_of hk.ext
            exact wp_of_value (op_load3 3 _ B3 (D0.out.below hb)) (hK.out _ _ (Grows.refl _) (fun w2 h2 => QL.grow ⟨_, _, _, _, rfl, (SN0.out.below hb), (SD0.out.below hb), hlm3, hmm3⟩ h2) (fun h => absurd h (by decide)))
          refine AllOps.cons (Does.lets (g := 14) (d := 33) (t := false) rfl (by kernel_rfl) (by kernel_rfl) (fun vq wq h => h wq (Grows.refl wq)) fun lq aq wq hk hr K hK => ?_) ?_
          · have B5 : ev aq (.tmp 5) = .pointer (some ⟨w.heap.size + 1 + 1, 0, none⟩) := hk.base 5 (by kernel_rfl) rfl
            have hb := grows_of hk.ext
            exact wp_of_value (op_load3 5 _ B5 (D2.out.below hb)) (hK.out _ _ (Grows.refl _) (fun w2 h2 => QL.grow ⟨_, _, _, _, rfl, (SN2.out.below hb), (SD2.out.below hb), hlm5, hmm5⟩ h2) (fun h => absurd h (by decide)))
          refine AllOps.cons (Does.lets (g := 14) (d := 33) (t := false) rfl (by kernel_rfl) (by kernel_rfl) (fun vq wq h => h wq (Grows.refl wq)) fun lq aq wq hk hr K hK => ?_) ?_
          · obtain ⟨v15, E15, -, r15⟩ := hk.dep hr 15 34 (by kernel_rfl) (by kernel_rfl)
            have r15 : QL wq v15 nP0 fP0 gP0 := r15 wq (Grows.refl wq)
            obtain ⟨v16, E16, -, r16⟩ := hk.dep hr 16 35 (by kernel_rfl) (by kernel_rfl)
            have r16 : QL wq v16 nP2 fP2 gP2 := r16 wq (Grows.refl wq)
            refine wp_of_call (f := 22) (vs := #[v15, v16]) (by go_simp) (qadd_v wq ((r15).qv.to hq0) ((r16).qv.to hq2) (hs0.mono (by decide)) (hs2.mono (by decide))) ?_
            rintro e w1 ⟨u, rfl, hu, hb⟩
            exact ⟨u, rfl, hK.out _ _ hb (fun w2 h2 => (hu).grow h2) (fun h => absurd h (by decide))⟩
          refine AllOps.cons (Does.lets (g := 14) (d := 33) (t := false) rfl (by kernel_rfl) (by kernel_rfl) (fun vq wq h => h wq (Grows.refl wq)) fun lq aq wq hk hr K hK => ?_) ?_
          · have B4 : ev aq (.tmp 4) = .pointer (some ⟨w.heap.size + 1, 0, none⟩) := hk.base 4 (by kernel_rfl) rfl
            have hb := grows_of hk.ext
            exact wp_of_value (op_load3 4 _ B4 (D1.out.below hb)) (hK.out _ _ (Grows.refl _) (fun w2 h2 => QL.grow ⟨_, _, _, _, rfl, (SN1.out.below hb), (SD1.out.below hb), hlm4, hmm4⟩ h2) (fun h => absurd h (by decide)))
          refine AllOps.cons (Does.lets (g := 14) (d := 33) (t := false) rfl (by kernel_rfl) (by kernel_rfl) (fun vq wq h => h wq (Grows.refl wq)) fun lq aq wq hk hr K hK => ?_) ?_
          · have B5 : ev aq (.tmp 5) = .pointer (some ⟨w.heap.size + 1 + 1, 0, none⟩) := hk.base 5 (by kernel_rfl) rfl
            have hb := grows_of hk.ext
            exact wp_of_value (op_load3 5 _ B5 (D2.out.below hb)) (hK.out _ _ (Grows.refl _) (fun w2 h2 => QL.grow ⟨_, _, _, _, rfl, (SN2.out.below hb), (SD2.out.below hb), hlm5, hmm5⟩ h2) (fun h => absurd h (by decide)))
          refine AllOps.cons (Does.lets (g := 14) (d := 33) (t := false) rfl (by kernel_rfl) (by kernel_rfl) (fun vq wq h => h wq (Grows.refl wq)) fun lq aq wq hk hr K hK => ?_) ?_
          · obtain ⟨v18, E18, -, r18⟩ := hk.dep hr 18 37 (by kernel_rfl) (by kernel_rfl)
            have r18 : QL wq v18 nP1 fP1 gP1 := r18 wq (Grows.refl wq)
            obtain ⟨v19, E19, -, r19⟩ := hk.dep hr 19 38 (by kernel_rfl) (by kernel_rfl)
            have r19 : QL wq v19 nP2 fP2 gP2 := r19 wq (Grows.refl wq)
            refine wp_of_call (f := 22) (vs := #[v18, v19]) (by go_simp) (qadd_v wq ((r18).qv.to hq1) ((r19).qv.to hq2) (hs1.mono (by decide)) (hs2.mono (by decide))) ?_
            rintro e w1 ⟨u, rfl, hu, hb⟩
            exact ⟨u, rfl, hK.out _ _ hb (fun w2 h2 => (hu).grow h2) (fun h => absurd h (by decide))⟩
          refine AllOps.cons (Does.lets (g := 14) (d := 33) (t := false) rfl (by kernel_rfl) (by kernel_rfl) (fun vq wq h => h wq (Grows.refl wq)) fun lq aq wq hk hr K hK => ?_) ?_
          · obtain ⟨v17, E17, -, r17⟩ := hk.dep hr 17 36 (by kernel_rfl) (by kernel_rfl)
            have r17 : RV wq v17 ((a + c)) := r17 wq (Grows.refl wq)
            obtain ⟨v20, E20, -, r20⟩ := hk.dep hr 20 39 (by kernel_rfl) (by kernel_rfl)
            have r20 : RV wq v20 ((b + c)) := r20 wq (Grows.refl wq)
            refine wp_of_call (f := 28) (vs := #[v17, v20]) (by go_simp) (qcmp_v wq (r17).qv (r20).qv ((hs0.add hs2).mono (by decide)) ((hs1.add hs2).mono (by decide)) (k := k) h2.out) ?_
            rintro e w1 ⟨u, rfl, hu, hb⟩
            exact ⟨u, rfl, hK.out _ _ hb (fun w2 h2 => hu) (fun h => absurd h (by decide))⟩
          refine AllOps.cons (Does.lets (g := 14) (d := 33) (t := false) rfl (by kernel_rfl) (by kernel_rfl) (fun vq wq h => h wq (Grows.refl wq)) fun lq aq wq hk hr K hK => ?_) ?_
          · have B7 : ev aq (.tmp 7) = .int .i64 k := hk.base 7 (by kernel_rfl) rfl
            exact wp_of_value (by go_simp) (hK.out _ _ (Grows.refl _) (fun w2 h2 => rfl) (fun h => absurd h (by decide)))
          refine AllOps.cons (Does.lets (g := 14) (d := 33) (t := false) rfl (by kernel_rfl) (by kernel_rfl) (fun vq wq h => h wq (Grows.refl wq)) fun lq aq wq hk hr K hK => ?_) ?_
          · obtain ⟨v21, E21, -, r21⟩ := hk.dep hr 21 40 (by kernel_rfl) (by kernel_rfl)
            replace E21 : ev aq (.tmp 40) = .int .i64 k := E21.trans (r21 wq (Grows.refl wq))
            obtain ⟨v22, E22, -, r22⟩ := hk.dep hr 22 41 (by kernel_rfl) (by kernel_rfl)
            replace E22 : ev aq (.tmp 41) = .int .i64 k := E22.trans (r22 wq (Grows.refl wq))
            exact wp_of_value (by go_simp) (hK.out _ _ (Grows.refl _) (fun w2 h2 => rfl) (fun h => absurd h (by decide)))
          refine AllOps.cons (Does.plain rfl fun lq aq wq hk hr K hK => ?_) ?_
          · obtain ⟨v14, E14, -, r14⟩ := hk.dep hr 14 33 (by kernel_rfl) (by kernel_rfl)
            replace E14 : ev aq (.tmp 33) = .bool false := E14.trans (r14 wq (Grows.refl wq))
            obtain ⟨v23, E23, -, r23⟩ := hk.dep hr 23 42 (by kernel_rfl) (by kernel_rfl)
            replace E23 : ev aq (.tmp 42) = .bool false := E23.trans (r23 wq (Grows.refl wq))
            exact wp_of_value (by go_simp) (hK.out _ _ (Grows.refl _) (fun w2 h2 => rfl) (fun h => absurd h (by decide)))
          refine AllOps.cons (Does.plain rfl fun lq aq wq hk hr K hK => ?_) ?_
          · obtain ⟨v24, E24, -, r24⟩ := hk.dep hr 24 43 (by kernel_rfl) (by kernel_rfl)
            replace E24 : ev aq (.tmp 43) = .bool false := E24.trans (r24 wq (Grows.refl wq))
            exact wp_of_value (by go_simp) (hK.out _ _ (Grows.refl _) (fun w2 h2 => rfl) (fun h => absurd h (by decide)))
          refine AllOps.cons (Does.lets (g := 25) (d := 44) (t := false) rfl (by kernel_rfl) (by kernel_rfl) (fun vq wq h => h wq (Grows.refl wq)) fun lq aq wq hk hr K hK => ?_) ?_
          · have B3 : ev aq (.tmp 3) = .pointer (some ⟨w.heap.size, 0, none⟩) := hk.base 3 (by kernel_rfl) rfl
            have hb := grows_of hk.ext
            exact wp_of_value (op_load3 3 _ B3 (D0.out.below hb)) (hK.out _ _ (Grows.refl _) (fun w2 h2 => QL.grow ⟨_, _, _, _, rfl, (SN0.out.below hb), (SD0.out.below hb), hlm3, hmm3⟩ h2) (fun h => absurd h (by decide)))
          refine AllOps.cons (Does.lets (g := 25) (d := 44) (t := false) rfl (by kernel_rfl) (by kernel_rfl) (fun vq wq h => h wq (Grows.refl wq)) fun lq aq wq hk hr K hK => ?_) ?_
          · have B5 : ev aq (.tmp 5) = .pointer (some ⟨w.heap.size + 1 + 1, 0, none⟩) := hk.base 5 (by kernel_rfl) rfl
            have hb := grows_of hk.ext
            exact wp_of_value (op_load3 5 _ B5 (D2.out.below hb)) (hK.out _ _ (Grows.refl _) (fun w2 h2 => QL.grow ⟨_, _, _, _, rfl, (SN2.out.below hb), (SD2.out.below hb), hlm5, hmm5⟩ h2) (fun h => absurd h (by decide)))
          refine AllOps.cons (Does.lets (g := 25) (d := 44) (t := false) rfl (by kernel_rfl) (by kernel_rfl) (fun vq wq h => h wq (Grows.refl wq)) fun lq aq wq hk hr K hK => ?_) ?_
          · obtain ⟨v26, E26, -, r26⟩ := hk.dep hr 26 45 (by kernel_rfl) (by kernel_rfl)
            have r26 : QL wq v26 nP0 fP0 gP0 := r26 wq (Grows.refl wq)
            obtain ⟨v27, E27, -, r27⟩ := hk.dep hr 27 46 (by kernel_rfl) (by kernel_rfl)
            have r27 : QL wq v27 nP2 fP2 gP2 := r27 wq (Grows.refl wq)
            refine wp_of_call (f := 26) (vs := #[v26, v27]) (by go_simp) (qmulK_v wq ((r26).qv.to hq0) ((r27).qv.to hq2) (hs0.mono (by decide)) (hs2.mono (by decide))) ?_
            rintro e w1 ⟨u, rfl, hu, hb⟩
            exact ⟨u, rfl, hK.out _ _ hb (fun w2 h2 => (hu).grow h2) (fun h => absurd h (by decide))⟩
          refine AllOps.cons (Does.lets (g := 25) (d := 44) (t := false) rfl (by kernel_rfl) (by kernel_rfl) (fun vq wq h => h wq (Grows.refl wq)) fun lq aq wq hk hr K hK => ?_) ?_
          · have B4 : ev aq (.tmp 4) = .pointer (some ⟨w.heap.size + 1, 0, none⟩) := hk.base 4 (by kernel_rfl) rfl
            have hb := grows_of hk.ext
            exact wp_of_value (op_load3 4 _ B4 (D1.out.below hb)) (hK.out _ _ (Grows.refl _) (fun w2 h2 => QL.grow ⟨_, _, _, _, rfl, (SN1.out.below hb), (SD1.out.below hb), hlm4, hmm4⟩ h2) (fun h => absurd h (by decide)))
          refine AllOps.cons (Does.lets (g := 25) (d := 44) (t := false) rfl (by kernel_rfl) (by kernel_rfl) (fun vq wq h => h wq (Grows.refl wq)) fun lq aq wq hk hr K hK => ?_) ?_
          · have B5 : ev aq (.tmp 5) = .pointer (some ⟨w.heap.size + 1 + 1, 0, none⟩) := hk.base 5 (by kernel_rfl) rfl
            have hb := grows_of hk.ext
            exact wp_of_value (op_load3 5 _ B5 (D2.out.below hb)) (hK.out _ _ (Grows.refl _) (fun w2 h2 => QL.grow ⟨_, _, _, _, rfl, (SN2.out.below hb), (SD2.out.below hb), hlm5, hmm5⟩ h2) (fun h => absurd h (by decide)))
          refine AllOps.cons (Does.lets (g := 25) (d := 44) (t := false) rfl (by kernel_rfl) (by kernel_rfl) (fun vq wq h => h wq (Grows.refl wq)) fun lq aq wq hk hr K hK => ?_) ?_
          · obtain ⟨v29, E29, -, r29⟩ := hk.dep hr 29 48 (by kernel_rfl) (by kernel_rfl)
            have r29 : QL wq v29 nP1 fP1 gP1 := r29 wq (Grows.refl wq)
            obtain ⟨v30, E30, -, r30⟩ := hk.dep hr 30 49 (by kernel_rfl) (by kernel_rfl)
            have r30 : QL wq v30 nP2 fP2 gP2 := r30 wq (Grows.refl wq)
            refine wp_of_call (f := 26) (vs := #[v29, v30]) (by go_simp) (qmulK_v wq ((r29).qv.to hq1) ((r30).qv.to hq2) (hs1.mono (by decide)) (hs2.mono (by decide))) ?_
            rintro e w1 ⟨u, rfl, hu, hb⟩
            exact ⟨u, rfl, hK.out _ _ hb (fun w2 h2 => (hu).grow h2) (fun h => absurd h (by decide))⟩
          refine AllOps.cons (Does.lets (g := 25) (d := 44) (t := false) rfl (by kernel_rfl) (by kernel_rfl) (fun vq wq h => h wq (Grows.refl wq)) fun lq aq wq hk hr K hK => ?_) ?_
          · obtain ⟨v28, E28, -, r28⟩ := hk.dep hr 28 47 (by kernel_rfl) (by kernel_rfl)
            have r28 : RV wq v28 ((a * c)) := r28 wq (Grows.refl wq)
            obtain ⟨v31, E31, -, r31⟩ := hk.dep hr 31 50 (by kernel_rfl) (by kernel_rfl)
            have r31 : RV wq v31 ((b * c)) := r31 wq (Grows.refl wq)
            refine wp_of_call (f := 28) (vs := #[v28, v31]) (by go_simp) (qcmp_v wq (r28).qv (r31).qv ((hs0.mul hs2).mono (by decide)) ((hs1.mul hs2).mono (by decide)) (k := km) h3.out) ?_
            rintro e w1 ⟨u, rfl, hu, hb⟩
            exact ⟨u, rfl, hK.out _ _ hb (fun w2 h2 => hu) (fun h => absurd h (by decide))⟩
          refine AllOps.cons (Does.lets (g := 25) (d := 44) (t := false) rfl (by kernel_rfl) (by kernel_rfl) (fun vq wq h => h wq (Grows.refl wq)) fun lq aq wq hk hr K hK => ?_) ?_
          · have B7 : ev aq (.tmp 7) = .int .i64 k := hk.base 7 (by kernel_rfl) rfl
            exact wp_of_value (by go_simp) (hK.out _ _ (Grows.refl _) (fun w2 h2 => rfl) (fun h => absurd h (by decide)))
          refine AllOps.cons (Does.lets (g := 25) (d := 44) (t := false) rfl (by kernel_rfl) (by kernel_rfl) (fun vq wq h => h wq (Grows.refl wq)) fun lq aq wq hk hr K hK => ?_) ?_
          · have B5 : ev aq (.tmp 5) = .pointer (some ⟨w.heap.size + 1 + 1, 0, none⟩) := hk.base 5 (by kernel_rfl) rfl
            have hb := grows_of hk.ext
            exact wp_of_value (op_load3 5 _ B5 (D2.out.below hb)) (hK.out _ _ (Grows.refl _) (fun w2 h2 => QL.grow ⟨_, _, _, _, rfl, (SN2.out.below hb), (SD2.out.below hb), hlm5, hmm5⟩ h2) (fun h => absurd h (by decide)))
          refine AllOps.cons (Does.lets (g := 25) (d := 44) (t := false) rfl (by kernel_rfl) (by kernel_rfl) (fun vq wq h => h wq (Grows.refl wq)) fun lq aq wq hk hr K hK => ?_) ?_
          · obtain ⟨v34, E34, -, r34⟩ := hk.dep hr 34 53 (by kernel_rfl) (by kernel_rfl)
            have r34 : QL wq v34 nP2 fP2 gP2 := r34 wq (Grows.refl wq)
            refine wp_of_call (f := 30) (vs := #[v34]) (by go_simp) (qsign_v wq ((r34).qv.to hq2) (k := kc) hkd.out) ?_
            rintro e w1 ⟨u, rfl, hu, hb⟩
            exact ⟨u, rfl, hK.out _ _ hb (fun w2 h2 => hu) (fun h => absurd h (by decide))⟩
          refine AllOps.cons (Does.lets (g := 25) (d := 44) (t := false) rfl (by kernel_rfl) (by kernel_rfl) (fun vq wq h => h wq (Grows.refl wq)) fun lq aq wq hk hr K hK => ?_) ?_
          · obtain ⟨v33, E33, -, r33⟩ := hk.dep hr 33 52 (by kernel_rfl) (by kernel_rfl)
            replace E33 : ev aq (.tmp 52) = .int .i64 k := E33.trans (r33 wq (Grows.refl wq))
            obtain ⟨v35, E35, -, r35⟩ := hk.dep hr 35 54 (by kernel_rfl) (by kernel_rfl)
            replace E35 : ev aq (.tmp 54) = .int .i64 kc := E35.trans (r35 wq (Grows.refl wq))
            exact wp_of_value (by go_simp) (hK.out _ _ (Grows.refl _) (fun w2 h2 => rfl) (fun h => absurd h (by decide)))
          refine AllOps.cons (Does.lets (g := 25) (d := 44) (t := false) rfl (by kernel_rfl) (by kernel_rfl) (fun vq wq h => h wq (Grows.refl wq)) fun lq aq wq hk hr K hK => ?_) ?_
          · obtain ⟨v32, E32, -, r32⟩ := hk.dep hr 32 51 (by kernel_rfl) (by kernel_rfl)
            replace E32 : ev aq (.tmp 51) = .int .i64 km := E32.trans (r32 wq (Grows.refl wq))
            obtain ⟨v36, E36, -, r36⟩ := hk.dep hr 36 55 (by kernel_rfl) (by kernel_rfl)
            replace E36 : ev aq (.tmp 55) = .int .i64 km := E36.trans (r36 wq (Grows.refl wq))
            exact wp_of_value (by go_simp) (hK.out _ _ (Grows.refl _) (fun w2 h2 => rfl) (fun h => absurd h (by decide)))
          refine AllOps.cons (Does.plain rfl fun lq aq wq hk hr K hK => ?_) ?_
          · obtain ⟨v25, E25, -, r25⟩ := hk.dep hr 25 44 (by kernel_rfl) (by kernel_rfl)
            replace E25 : ev aq (.tmp 44) = .bool false := E25.trans (r25 wq (Grows.refl wq))
            obtain ⟨v37, E37, -, r37⟩ := hk.dep hr 37 56 (by kernel_rfl) (by kernel_rfl)
            replace E37 : ev aq (.tmp 56) = .bool false := E37.trans (r37 wq (Grows.refl wq))
            exact wp_of_value (by go_simp) (hK.out _ _ (Grows.refl _) (fun w2 h2 => rfl) (fun h => absurd h (by decide)))
          refine AllOps.cons (Does.plain rfl fun lq aq wq hk hr K hK => ?_) ?_
          · obtain ⟨v38, E38, -, r38⟩ := hk.dep hr 38 57 (by kernel_rfl) (by kernel_rfl)
            replace E38 : ev aq (.tmp 57) = .bool false := E38.trans (r38 wq (Grows.refl wq))
            exact wp_of_value (by go_simp) (hK.out _ _ (Grows.refl _) (fun w2 h2 => rfl) (fun h => absurd h (by decide)))
          refine AllOps.cons (Does.lets (g := 39) (d := 58) (t := false) rfl (by kernel_rfl) (by kernel_rfl) (fun vq wq h => h wq (Grows.refl wq)) fun lq aq wq hk hr K hK => ?_) ?_
          · have B3 : ev aq (.tmp 3) = .pointer (some ⟨w.heap.size, 0, none⟩) := hk.base 3 (by kernel_rfl) rfl
            have hb := grows_of hk.ext
            exact wp_of_value (op_load3 3 _ B3 (D0.out.below hb)) (hK.out _ _ (Grows.refl _) (fun w2 h2 => QL.grow ⟨_, _, _, _, rfl, (SN0.out.below hb), (SD0.out.below hb), hlm3, hmm3⟩ h2) (fun h => absurd h (by decide)))
          refine AllOps.cons (Does.lets (g := 39) (d := 58) (t := false) rfl (by kernel_rfl) (by kernel_rfl) (fun vq wq h => h wq (Grows.refl wq)) fun lq aq wq hk hr K hK => ?_) ?_
          · have B4 : ev aq (.tmp 4) = .pointer (some ⟨w.heap.size + 1, 0, none⟩) := hk.base 4 (by kernel_rfl) rfl
            have hb := grows_of hk.ext
            exact wp_of_value (op_load3 4 _ B4 (D1.out.below hb)) (hK.out _ _ (Grows.refl _) (fun w2 h2 => QL.grow ⟨_, _, _, _, rfl, (SN1.out.below hb), (SD1.out.below hb), hlm4, hmm4⟩ h2) (fun h => absurd h (by decide)))
          refine AllOps.cons (Does.lets (g := 39) (d := 58) (t := false) rfl (by kernel_rfl) (by kernel_rfl) (fun vq wq h => h wq (Grows.refl wq)) fun lq aq wq hk hr K hK => ?_) ?_
          · obtain ⟨v40, E40, -, r40⟩ := hk.dep hr 40 59 (by kernel_rfl) (by kernel_rfl)
            have r40 : QL wq v40 nP0 fP0 gP0 := r40 wq (Grows.refl wq)
            obtain ⟨v41, E41, -, r41⟩ := hk.dep hr 41 60 (by kernel_rfl) (by kernel_rfl)
            have r41 : QL wq v41 nP1 fP1 gP1 := r41 wq (Grows.refl wq)
            refine wp_of_call (f := 24) (vs := #[v40, v41]) (by go_simp) (qsub_v wq ((r40).qv.to hq0) ((r41).qv.to hq1) (hs0.mono (by decide)) (hs1.mono (by decide))) ?_
            rintro e w1 ⟨u, rfl, hu, hb⟩
            exact ⟨u, rfl, hK.out _ _ hb (fun w2 h2 => (hu).grow h2) (fun h => absurd h (by decide))⟩
          refine AllOps.cons (Does.lets (g := 39) (d := 58) (t := false) rfl (by kernel_rfl) (by kernel_rfl) (fun vq wq h => h wq (Grows.refl wq)) fun lq aq wq hk hr K hK => ?_) ?_
          · obtain ⟨v42, E42, -, r42⟩ := hk.dep hr 42 61 (by kernel_rfl) (by kernel_rfl)
            have r42 : RV wq v42 ((a - b)) := r42 wq (Grows.refl wq)
            refine wp_of_call (f := 30) (vs := #[v42]) (by go_simp) (qsign_v wq (r42).qv (k := k) hkc.out) ?_
            rintro e w1 ⟨u, rfl, hu, hb⟩
            exact ⟨u, rfl, hK.out _ _ hb (fun w2 h2 => hu) (fun h => absurd h (by decide))⟩
          refine AllOps.cons (Does.lets (g := 39) (d := 58) (t := false) rfl (by kernel_rfl) (by kernel_rfl) (fun vq wq h => h wq (Grows.refl wq)) fun lq aq wq hk hr K hK => ?_) ?_
          · have B7 : ev aq (.tmp 7) = .int .i64 k := hk.base 7 (by kernel_rfl) rfl
            exact wp_of_value (by go_simp) (hK.out _ _ (Grows.refl _) (fun w2 h2 => rfl) (fun h => absurd h (by decide)))
          refine AllOps.cons (Does.lets (g := 39) (d := 58) (t := false) rfl (by kernel_rfl) (by kernel_rfl) (fun vq wq h => h wq (Grows.refl wq)) fun lq aq wq hk hr K hK => ?_) ?_
          · obtain ⟨v43, E43, -, r43⟩ := hk.dep hr 43 62 (by kernel_rfl) (by kernel_rfl)
            replace E43 : ev aq (.tmp 62) = .int .i64 k := E43.trans (r43 wq (Grows.refl wq))
            obtain ⟨v44, E44, -, r44⟩ := hk.dep hr 44 63 (by kernel_rfl) (by kernel_rfl)
            replace E44 : ev aq (.tmp 63) = .int .i64 k := E44.trans (r44 wq (Grows.refl wq))
            exact wp_of_value (by go_simp) (hK.out _ _ (Grows.refl _) (fun w2 h2 => rfl) (fun h => absurd h (by decide)))
          refine AllOps.cons (Does.plain rfl fun lq aq wq hk hr K hK => ?_) ?_
          · obtain ⟨v39, E39, -, r39⟩ := hk.dep hr 39 58 (by kernel_rfl) (by kernel_rfl)
            replace E39 : ev aq (.tmp 58) = .bool false := E39.trans (r39 wq (Grows.refl wq))
            obtain ⟨v45, E45, -, r45⟩ := hk.dep hr 45 64 (by kernel_rfl) (by kernel_rfl)
            replace E45 : ev aq (.tmp 64) = .bool false := E45.trans (r45 wq (Grows.refl wq))
            exact wp_of_value (by go_simp) (hK.out _ _ (Grows.refl _) (fun w2 h2 => rfl) (fun h => absurd h (by decide)))
          exact AllOps.nil
        case fin =>
          intro V x10 hG hV hap
          have r27 : QL x10 (V 27) nP2 fP2 gP2 := hV 27 (by decide)
          have r46 : (V 46) = .bool false := hV 46 (by decide)
          clear hV hap
          simp only [List.take_succ_cons, List.take_nil, List.drop_succ_cons, List.drop_nil, putAll, Act.put, List.setIfInBounds_toArray, List.set_cons_zero, List.set_cons_succ]
          have hb := grows_of hG
          replace D0 := Lib.hid (D0.out.below hb)
          replace SN0 := Lib.hid (SN0.out.below hb)
          replace SD0 := Lib.hid (SD0.out.below hb)
          replace D1 := Lib.hid (D1.out.below hb)
          replace SN1 := Lib.hid (SN1.out.below hb)
          replace SD1 := Lib.hid (SD1.out.below hb)
          replace D2 := Lib.hid (D2.out.below hb)
          replace SN2 := Lib.hid (SN2.out.below hb)
          replace SD2 := Lib.hid (SD2.out.below hb)
          replace HB := Lib.hid (HB.out.trans (Below.mono hb HB.out.size))
          clear hb hG
          rw [r46]
          clear r46 hw hw2 hm hkm
          go_upto_region 7 with fail
          clear h1 h2 h3
          rcases Int.lt_or_le 0 k with hk0 | hk0
          · skip
            refine wp_region_going 24 [] ([fun vq _ => vq = .int .i64 k,
                fun vq _ => vq = .bool t,
                fun vq wq => QL wq vq nP0 fP0 gP0,
                fun vq wq => RV wq vq ((-a)),
                fun vq wq => QL wq vq nP1 fP1 gP1,
                fun vq wq => RV wq vq ((-b)),
                fun vq _ => vq = .bool t,
                fun vq _ => vq = .bool true,
                fun vq _ => vq = .bool true,
                fun vq _ => vq = .int .i64 k,
                fun vq _ => vq = .bool true,
                fun vq _ => vq = .bool true,
                fun vq _ => vq = undef,
                fun vq _ => vq = undef,
                fun vq _ => vq = undef,
                fun vq _ => vq = undef,
                fun vq _ => vq = .bool true,
                fun vq _ => vq = .bool true,
                fun vq _ => vq = undef,
                fun vq _ => vq = undef,
                fun vq _ => vq = undef,
                fun vq _ => vq = undef,
                fun vq _ => vq = .bool true,
                fun vq _ => vq = .bool true]) (by kernel_rfl) (by kernel_rfl) (by decide) (by kernel_rfl) (by kernel_rfl) ?hF ?steps ?fin
            case hF =>
              intro j hj; cases hj
            case steps =>
              refine AllOps.cons (Does.plain rfl fun lq aq wq hk hr K hK => ?_) ?_
              · have B7 : ev aq (.tmp 7) = .int .i64 k := hk.base 7 (by kernel_rfl) rfl
                exact wp_of_value (by go_simp) (hK.out _ _ (Grows.refl _) (fun w2 h2 => rfl) (fun h => absurd h (by decide)))
              refine AllOps.cons (Does.plain rfl fun lq aq wq hk hr K hK => ?_) ?_
              · obtain ⟨v0, E0, -, r0⟩ := hk.dep hr 0 66 (by kernel_rfl) (by kernel_rfl)
                replace E0 : ev aq (.tmp 66) = .int .i64 k := E0.trans (r0 wq (Grows.refl wq))
                exact wp_of_value (by go_simp) (hK.out _ _ (Grows.refl _) (fun w2 h2 => rfl) (fun h => absurd h (by decide)))
              refine AllOps.cons (Does.plain rfl fun lq aq wq hk hr K hK => ?_) ?_
              · have B3 : ev aq (.tmp 3) = .pointer (some ⟨w.heap.size, 0, none⟩) := hk.base 3 (by kernel_rfl) rfl
                have hb := grows_of hk.ext
                exact wp_of_value (op_load3 3 _ B3 (D0.out.below hb)) (hK.out _ _ (Grows.refl _) (fun w2 h2 => QL.grow ⟨_, _, _, _, rfl, (SN0.out.below hb), (SD0.out.below hb), hlm3, hmm3⟩ h2) (fun h => absurd h (by decide)))
              refine AllOps.cons (Does.plain rfl fun lq aq wq hk hr K hK => ?_) ?_
              · obtain ⟨v2, E2, -, r2⟩ := hk.dep hr 2 68 (by kernel_rfl) (by kernel_rfl)
                have r2 : QL wq v2 nP0 fP0 gP0 := r2 wq (Grows.refl wq)
                refine wp_of_call (f := 20) (vs := #[v2]) (by go_simp) (rneg_v wq ((r2).qv.to hq0)) ?_
                rintro e w1 ⟨u, rfl, hu, hb⟩
                exact ⟨u, rfl, hK.out _ _ hb (fun w2 h2 => (hu).grow h2) (fun h => absurd h (by decide))⟩
              refine AllOps.cons (Does.plain rfl fun lq aq wq hk hr K hK => ?_) ?_
              · have B4 : ev aq (.tmp 4) = .pointer (some ⟨w.heap.size + 1, 0, none⟩) := hk.base 4 (by kernel_rfl) rfl
                have hb := grows_of hk.ext
                exact wp_of_value (op_load3 4 _ B4 (D1.out.below hb)) (hK.out _ _ (Grows.refl _) (fun w2 h2 => QL.grow ⟨_, _, _, _, rfl, (SN1.out.below hb), (SD1.out.below hb), hlm4, hmm4⟩ h2) (fun h => absurd h (by decide)))
              refine AllOps.cons (Does.plain rfl fun lq aq wq hk hr K hK => ?_) ?_
              · obtain ⟨v4, E4, -, r4⟩ := hk.dep hr 4 70 (by kernel_rfl) (by kernel_rfl)
                have r4 : QL wq v4 nP1 fP1 gP1 := r4 wq (Grows.refl wq)
                refine wp_of_call (f := 20) (vs := #[v4]) (by go_simp) (rneg_v wq ((r4).qv.to hq1)) ?_
                rintro e w1 ⟨u, rfl, hu, hb⟩
                exact ⟨u, rfl, hK.out _ _ hb (fun w2 h2 => (hu).grow h2) (fun h => absurd h (by decide))⟩
              refine AllOps.cons (Does.plain rfl fun lq aq wq hk hr K hK => ?_) ?_
              · obtain ⟨v3, E3, -, r3⟩ := hk.dep hr 3 69 (by kernel_rfl) (by kernel_rfl)
                have r3 : RV wq v3 ((-a)) := r3 wq (Grows.refl wq)
                obtain ⟨v5, E5, -, r5⟩ := hk.dep hr 5 71 (by kernel_rfl) (by kernel_rfl)
                have r5 : RV wq v5 ((-b)) := r5 wq (Grows.refl wq)
                refine wp_of_call (f := 15) (vs := #[v3, v5]) (by go_simp) (lsameR_v wq r3 r5 (t := t) h4.out) ?_
                rintro e w1 ⟨u, rfl, hu, hb⟩
                exact ⟨u, rfl, hK.out _ _ hb (fun w2 h2 => hu) (fun h => absurd h (by decide))⟩
              refine AllOps.cons (Does.plain rfl fun lq aq wq hk hr K hK => ?_) ?_
              · obtain ⟨v1, E1, -, r1⟩ := hk.dep hr 1 67 (by kernel_rfl) (by kernel_rfl)
                replace E1 : ev aq (.tmp 67) = .bool t := E1.trans (r1 wq (Grows.refl wq))
                obtain ⟨v6, E6, -, r6⟩ := hk.dep hr 6 72 (by kernel_rfl) (by kernel_rfl)
                replace E6 : ev aq (.tmp 72) = .bool t := E6.trans (r6 wq (Grows.refl wq))
                exact wp_of_value (by go_simp) (hK.out _ _ (Grows.refl _) (fun w2 h2 => rfl) (fun h => absurd h (by decide)))
              refine AllOps.cons (Does.plain rfl fun lq aq wq hk hr K hK => ?_) ?_
              · obtain ⟨v7, E7, -, r7⟩ := hk.dep hr 7 73 (by kernel_rfl) (by kernel_rfl)
                replace E7 : ev aq (.tmp 73) = .bool true := E7.trans (r7 wq (Grows.refl wq))
                exact wp_of_value (by go_simp) (hK.out _ _ (Grows.refl _) (fun w2 h2 => rfl) (fun h => absurd h (by decide)))
              refine AllOps.cons (Does.lets (g := 8) (d := 74) (t := true) rfl (by kernel_rfl) (by kernel_rfl) (fun vq wq h => h wq (Grows.refl wq)) fun lq aq wq hk hr K hK => ?_) ?_
              · have B7 : ev aq (.tmp 7) = .int .i64 k := hk.base 7 (by kernel_rfl) rfl
                exact wp_of_value (by go_simp) (hK.out _ _ (Grows.refl _) (fun w2 h2 => rfl) (fun h => absurd h (by decide)))
              refine AllOps.cons (Does.lets (g := 8) (d := 74) (t := true) rfl (by kernel_rfl) (by kernel_rfl) (fun vq wq h => h wq (Grows.refl wq)) fun lq aq wq hk hr K hK => ?_) ?_
              · obtain ⟨v9, E9, -, r9⟩ := hk.dep hr 9 75 (by kernel_rfl) (by kernel_rfl)
                replace E9 : ev aq (.tmp 75) = .int .i64 k := E9.trans (r9 wq (Grows.refl wq))
                exact wp_of_value (by first | (go_simp; done) | (go_simp; omega)) (hK.out _ _ (Grows.refl _) (fun w2 h2 => rfl) (fun h => absurd h (by decide)))
              refine AllOps.cons (Does.lets (g := 8) (d := 74) (t := true) rfl (by kernel_rfl) (by kernel_rfl) (fun vq wq h => h wq (Grows.refl wq)) fun lq aq wq hk hr K hK => ?_) ?_
              · obtain ⟨v10, E10, -, r10⟩ := hk.dep hr 10 76 (by kernel_rfl) (by kernel_rfl)
                replace E10 : ev aq (.tmp 76) = .bool true := E10.trans (r10 wq (Grows.refl wq))
                exact wp_of_value (by go_simp) (hK.out _ _ (Grows.refl _) (fun w2 h2 => rfl) (fun h => absurd h (by decide)))
              refine AllOps.cons (Does.bars (g := 11) (d := 77) (t := false) (u := true) rfl (by kernel_rfl) (by kernel_rfl) (fun vq wq h => h wq (Grows.refl wq)) (by decide) (fun _ _ _ => rfl) rfl) ?_
              refine AllOps.cons (Does.bars (g := 11) (d := 77) (t := false) (u := true) rfl (by kernel_rfl) (by kernel_rfl) (fun vq wq h => h wq (Grows.refl wq)) (by decide) (fun _ _ _ => rfl) rfl) ?_
              refine AllOps.cons (Does.bars (g := 11) (d := 77) (t := false) (u := true) rfl (by kernel_rfl) (by kernel_rfl) (fun vq wq h => h wq (Grows.refl wq)) (by decide) (fun _ _ _ => rfl) rfl) ?_
              refine AllOps.cons (Does.bars (g := 11) (d := 77) (t := false) (u := true) rfl (by kernel_rfl) (by kernel_rfl) (fun vq wq h => h wq (Grows.refl wq)) (by decide) (fun _ _ _ => rfl) rfl) ?_
              refine AllOps.cons (Does.lets (g := 8) (d := 74) (t := true) rfl (by kernel_rfl) (by kernel_rfl) (fun vq wq h => h wq (Grows.refl wq)) fun lq aq wq hk hr K hK => ?_) ?_
              · obtain ⟨v11, E11, -, r11⟩ := hk.dep hr 11 77 (by kernel_rfl) (by kernel_rfl)
                replace E11 : ev aq (.tmp 77) = .bool true := E11.trans (r11 wq (Grows.refl wq))
                exact wp_of_value (by go_simp) (hK.out _ _ (Grows.refl _) (fun w2 h2 => rfl) (fun h => absurd h (by decide)))
              refine AllOps.cons (Does.lets (g := 8) (d := 74) (t := true) rfl (by kernel_rfl) (by kernel_rfl) (fun vq wq h => h wq (Grows.refl wq)) fun lq aq wq hk hr K hK => ?_) ?_
              · obtain ⟨v16, E16, -, r16⟩ := hk.dep hr 16 82 (by kernel_rfl) (by kernel_rfl)
                replace E16 : ev aq (.tmp 82) = .bool true := E16.trans (r16 wq (Grows.refl wq))
                exact wp_of_value (by go_simp) (hK.out _ _ (Grows.refl _) (fun w2 h2 => rfl) (fun h => absurd h (by decide)))
              refine AllOps.cons (Does.bars (g := 17) (d := 83) (t := false) (u := true) rfl (by kernel_rfl) (by kernel_rfl) (fun vq wq h => h wq (Grows.refl wq)) (by decide) (fun _ _ _ => rfl) rfl) ?_
              refine AllOps.cons (Does.bars (g := 17) (d := 83) (t := false) (u := true) rfl (by kernel_rfl) (by kernel_rfl) (fun vq wq h => h wq (Grows.refl wq)) (by decide) (fun _ _ _ => rfl) rfl) ?_
              refine AllOps.cons (Does.bars (g := 17) (d := 83) (t := false) (u := true) rfl (by kernel_rfl) (by kernel_rfl) (fun vq wq h => h wq (Grows.refl wq)) (by decide) (fun _ _ _ => rfl) rfl) ?_
              refine AllOps.cons (Does.bars (g := 17) (d := 83) (t := false) (u := true) rfl (by kernel_rfl) (by kernel_rfl) (fun vq wq h => h wq (Grows.refl wq)) (by decide) (fun _ _ _ => rfl) rfl) ?_
              refine AllOps.cons (Does.lets (g := 8) (d := 74) (t := true) rfl (by kernel_rfl) (by kernel_rfl) (fun vq wq h => h wq (Grows.refl wq)) fun lq aq wq hk hr K hK => ?_) ?_
              · obtain ⟨v17, E17, -, r17⟩ := hk.dep hr 17 83 (by kernel_rfl) (by kernel_rfl)
                replace E17 : ev aq (.tmp 83) = .bool true := E17.trans (r17 wq (Grows.refl wq))
                exact wp_of_value (by go_simp) (hK.out _ _ (Grows.refl _) (fun w2 h2 => rfl) (fun h => absurd h (by decide)))
              refine AllOps.cons (Does.plain rfl fun lq aq wq hk hr K hK => ?_) ?_
              · obtain ⟨v8, E8, -, r8⟩ := hk.dep hr 8 74 (by kernel_rfl) (by kernel_rfl)
                replace E8 : ev aq (.tmp 74) = .bool true := E8.trans (r8 wq (Grows.refl wq))
                obtain ⟨v22, E22, -, r22⟩ := hk.dep hr 22 88 (by kernel_rfl) (by kernel_rfl)
                replace E22 : ev aq (.tmp 88) = .bool true := E22.trans (r22 wq (Grows.refl wq))
                exact wp_of_value (by go_simp) (hK.out _ _ (Grows.refl _) (fun w2 h2 => rfl) (fun h => absurd h (by decide)))
              exact AllOps.nil
            case fin =>
              intro V x11 hG hV hap
              have r23 : (V 23) = .bool true := hV 23 (by decide)
              clear hV hap
              simp only [List.take_succ_cons, List.take_zero, List.drop_succ_cons, List.drop_zero, putAll, Act.put, List.setIfInBounds_toArray, List.set_cons_zero, List.set_cons_succ]
              have hb := grows_of hG
              replace D0 := Lib.hid (D0.out.below hb)
              replace SN0 := Lib.hid (SN0.out.below hb)
              replace SD0 := Lib.hid (SD0.out.below hb)
              replace D1 := Lib.hid (D1.out.below hb)
              replace SN1 := Lib.hid (SN1.out.below hb)
              replace SD1 := Lib.hid (SD1.out.below hb)
              replace D2 := Lib.hid (D2.out.below hb)
              replace SN2 := Lib.hid (SN2.out.below hb)
              replace SD2 := Lib.hid (SD2.out.below hb)
              replace HB := Lib.hid (HB.out.trans (Below.mono hb HB.out.size))
              clear hb hG
              rw [r23]
              clear r23
              go_wp2_with fail
              go_ret
              exact ⟨rfl, HB.out⟩
          · skip
            obtain ⟨j, hj⟩ : ∃ j, qs (b - c) = j := ⟨_, rfl⟩
            replace hj := Lib.hid hj
            rcases Int.lt_or_le 0 j with hj0 | hj0
            · skip
              refine wp_region_going 24 [] ([fun vq _ => vq = .int .i64 k,
                  fun vq _ => vq = .bool t,
                  fun vq wq => QL wq vq nP0 fP0 gP0,
                  fun vq wq => RV wq vq ((-a)),
                  fun vq wq => QL wq vq nP1 fP1 gP1,
                  fun vq wq => RV wq vq ((-b)),
                  fun vq _ => vq = .bool t,
                  fun vq _ => vq = .bool true,
                  fun vq _ => vq = .bool true,
                  fun vq _ => vq = .int .i64 k,
                  fun vq _ => vq = .bool false,
                  fun vq _ => vq = .bool false,
                  fun vq wq => QL wq vq nP1 fP1 gP1,
                  fun vq wq => QL wq vq nP2 fP2 gP2,
                  fun vq _ => vq = .int .i64 j,
                  fun vq _ => vq = .bool true,
                  fun vq _ => vq = .bool true,
                  fun vq _ => vq = .bool true,
                  fun vq _ => vq = undef,
                  fun vq _ => vq = undef,
                  fun vq _ => vq = undef,
                  fun vq _ => vq = undef,
                  fun vq _ => vq = .bool true,
                  fun vq _ => vq = .bool true]) (by kernel_rfl) (by kernel_rfl) (by decide) (by kernel_rfl) (by kernel_rfl) ?hF ?steps ?fin
              case hF =>
                intro j hj; cases hj
              case steps =>
                refine AllOps.cons (Does.plain rfl fun lq aq wq hk hr K hK => ?_) ?_
                · have B7 : ev aq (.tmp 7) = .int .i64 k := hk.base 7 (by kernel_rfl) rfl
                  exact wp_of_value (by go_simp) (hK.out _ _ (Grows.refl _) (fun w2 h2 => rfl) (fun h => absurd h (by decide)))
                refine AllOps.cons (Does.plain rfl fun lq aq wq hk hr K hK => ?_) ?_
                · obtain ⟨v0, E0, -, r0⟩ := hk.dep hr 0 66 (by kernel_rfl) (by kernel_rfl)
                  replace E0 : ev aq (.tmp 66) = .int .i64 k := E0.trans (r0 wq (Grows.refl wq))
                  exact wp_of_value (by go_simp) (hK.out _ _ (Grows.refl _) (fun w2 h2 => rfl) (fun h => absurd h (by decide)))
                refine AllOps.cons (Does.plain rfl fun lq aq wq hk hr K hK => ?_) ?_
                · have B3 : ev aq (.tmp 3) = .pointer (some ⟨w.heap.size, 0, none⟩) := hk.base 3 (by kernel_rfl) rfl
                  have hb := grows_of hk.ext
                  exact wp_of_value (op_load3 3 _ B3 (D0.out.below hb)) (hK.out _ _ (Grows.refl _) (fun w2 h2 => QL.grow ⟨_, _, _, _, rfl, (SN0.out.below hb), (SD0.out.below hb), hlm3, hmm3⟩ h2) (fun h => absurd h (by decide)))
                refine AllOps.cons (Does.plain rfl fun lq aq wq hk hr K hK => ?_) ?_
                · obtain ⟨v2, E2, -, r2⟩ := hk.dep hr 2 68 (by kernel_rfl) (by kernel_rfl)
                  have r2 : QL wq v2 nP0 fP0 gP0 := r2 wq (Grows.refl wq)
                  refine wp_of_call (f := 20) (vs := #[v2]) (by go_simp) (rneg_v wq ((r2).qv.to hq0)) ?_
                  rintro e w1 ⟨u, rfl, hu, hb⟩
                  exact ⟨u, rfl, hK.out _ _ hb (fun w2 h2 => (hu).grow h2) (fun h => absurd h (by decide))⟩
                refine AllOps.cons (Does.plain rfl fun lq aq wq hk hr K hK => ?_) ?_
                · have B4 : ev aq (.tmp 4) = .pointer (some ⟨w.heap.size + 1, 0, none⟩) := hk.base 4 (by kernel_rfl) rfl
                  have hb := grows_of hk.ext
                  exact wp_of_value (op_load3 4 _ B4 (D1.out.below hb)) (hK.out _ _ (Grows.refl _) (fun w2 h2 => QL.grow ⟨_, _, _, _, rfl, (SN1.out.below hb), (SD1.out.below hb), hlm4, hmm4⟩ h2) (fun h => absurd h (by decide)))
                refine AllOps.cons (Does.plain rfl fun lq aq wq hk hr K hK => ?_) ?_
                · obtain ⟨v4, E4, -, r4⟩ := hk.dep hr 4 70 (by kernel_rfl) (by kernel_rfl)
                  have r4 : QL wq v4 nP1 fP1 gP1 := r4 wq (Grows.refl wq)
                  refine wp_of_call (f := 20) (vs := #[v4]) (by go_simp) (rneg_v wq ((r4).qv.to hq1)) ?_
                  rintro e w1 ⟨u, rfl, hu, hb⟩
                  exact ⟨u, rfl, hK.out _ _ hb (fun w2 h2 => (hu).grow h2) (fun h => absurd h (by decide))⟩
                refine AllOps.cons (Does.plain rfl fun lq aq wq hk hr K hK => ?_) ?_
                · obtain ⟨v3, E3, -, r3⟩ := hk.dep hr 3 69 (by kernel_rfl) (by kernel_rfl)
                  have r3 : RV wq v3 ((-a)) := r3 wq (Grows.refl wq)
                  obtain ⟨v5, E5, -, r5⟩ := hk.dep hr 5 71 (by kernel_rfl) (by kernel_rfl)
                  have r5 : RV wq v5 ((-b)) := r5 wq (Grows.refl wq)
                  refine wp_of_call (f := 15) (vs := #[v3, v5]) (by go_simp) (lsameR_v wq r3 r5 (t := t) h4.out) ?_
                  rintro e w1 ⟨u, rfl, hu, hb⟩
                  exact ⟨u, rfl, hK.out _ _ hb (fun w2 h2 => hu) (fun h => absurd h (by decide))⟩
                refine AllOps.cons (Does.plain rfl fun lq aq wq hk hr K hK => ?_) ?_
                · obtain ⟨v1, E1, -, r1⟩ := hk.dep hr 1 67 (by kernel_rfl) (by kernel_rfl)
                  replace E1 : ev aq (.tmp 67) = .bool t := E1.trans (r1 wq (Grows.refl wq))
                  obtain ⟨v6, E6, -, r6⟩ := hk.dep hr 6 72 (by kernel_rfl) (by kernel_rfl)
                  replace E6 : ev aq (.tmp 72) = .bool t := E6.trans (r6 wq (Grows.refl wq))
                  exact wp_of_value (by go_simp) (hK.out _ _ (Grows.refl _) (fun w2 h2 => rfl) (fun h => absurd h (by decide)))
                refine AllOps.cons (Does.plain rfl fun lq aq wq hk hr K hK => ?_) ?_
                · obtain ⟨v7, E7, -, r7⟩ := hk.dep hr 7 73 (by kernel_rfl) (by kernel_rfl)
                  replace E7 : ev aq (.tmp 73) = .bool true := E7.trans (r7 wq (Grows.refl wq))
                  exact wp_of_value (by go_simp) (hK.out _ _ (Grows.refl _) (fun w2 h2 => rfl) (fun h => absurd h (by decide)))
                refine AllOps.cons (Does.lets (g := 8) (d := 74) (t := true) rfl (by kernel_rfl) (by kernel_rfl) (fun vq wq h => h wq (Grows.refl wq)) fun lq aq wq hk hr K hK => ?_) ?_
                · have B7 : ev aq (.tmp 7) = .int .i64 k := hk.base 7 (by kernel_rfl) rfl
                  exact wp_of_value (by go_simp) (hK.out _ _ (Grows.refl _) (fun w2 h2 => rfl) (fun h => absurd h (by decide)))
                refine AllOps.cons (Does.lets (g := 8) (d := 74) (t := true) rfl (by kernel_rfl) (by kernel_rfl) (fun vq wq h => h wq (Grows.refl wq)) fun lq aq wq hk hr K hK => ?_) ?_
                · obtain ⟨v9, E9, -, r9⟩ := hk.dep hr 9 75 (by kernel_rfl) (by kernel_rfl)
                  replace E9 : ev aq (.tmp 75) = .int .i64 k := E9.trans (r9 wq (Grows.refl wq))
                  exact wp_of_value (by first | (go_simp; done) | (go_simp; omega)) (hK.out _ _ (Grows.refl _) (fun w2 h2 => rfl) (fun h => absurd h (by decide)))
                refine AllOps.cons (Does.lets (g := 8) (d := 74) (t := true) rfl (by kernel_rfl) (by kernel_rfl) (fun vq wq h => h wq (Grows.refl wq)) fun lq aq wq hk hr K hK => ?_) ?_
                · obtain ⟨v10, E10, -, r10⟩ := hk.dep hr 10 76 (by kernel_rfl) (by kernel_rfl)
                  replace E10 : ev aq (.tmp 76) = .bool false := E10.trans (r10 wq (Grows.refl wq))
                  exact wp_of_value (by go_simp) (hK.out _ _ (Grows.refl _) (fun w2 h2 => rfl) (fun h => absurd h (by decide)))
                refine AllOps.cons (Does.lets (g := 11) (d := 77) (t := false) rfl (by kernel_rfl) (by kernel_rfl) (fun vq wq h => h wq (Grows.refl wq)) fun lq aq wq hk hr K hK => ?_) ?_
                · have B4 : ev aq (.tmp 4) = .pointer (some ⟨w.heap.size + 1, 0, none⟩) := hk.base 4 (by kernel_rfl) rfl
                  have hb := grows_of hk.ext
                  exact wp_of_value (op_load3 4 _ B4 (D1.out.below hb)) (hK.out _ _ (Grows.refl _) (fun w2 h2 => QL.grow ⟨_, _, _, _, rfl, (SN1.out.below hb), (SD1.out.below hb), hlm4, hmm4⟩ h2) (fun h => absurd h (by decide)))
                refine AllOps.cons (Does.lets (g := 11) (d := 77) (t := false) rfl (by kernel_rfl) (by kernel_rfl) (fun vq wq h => h wq (Grows.refl wq)) fun lq aq wq hk hr K hK => ?_) ?_
                · have B5 : ev aq (.tmp 5) = .pointer (some ⟨w.heap.size + 1 + 1, 0, none⟩) := hk.base 5 (by kernel_rfl) rfl
                  have hb := grows_of hk.ext
                  exact wp_of_value (op_load3 5 _ B5 (D2.out.below hb)) (hK.out _ _ (Grows.refl _) (fun w2 h2 => QL.grow ⟨_, _, _, _, rfl, (SN2.out.below hb), (SD2.out.below hb), hlm5, hmm5⟩ h2) (fun h => absurd h (by decide)))
                refine AllOps.cons (Does.lets (g := 11) (d := 77) (t := false) rfl (by kernel_rfl) (by kernel_rfl) (fun vq wq h => h wq (Grows.refl wq)) fun lq aq wq hk hr K hK => ?_) ?_
                · obtain ⟨v12, E12, -, r12⟩ := hk.dep hr 12 78 (by kernel_rfl) (by kernel_rfl)
                  have r12 : QL wq v12 nP1 fP1 gP1 := r12 wq (Grows.refl wq)
                  obtain ⟨v13, E13, -, r13⟩ := hk.dep hr 13 79 (by kernel_rfl) (by kernel_rfl)
                  have r13 : QL wq v13 nP2 fP2 gP2 := r13 wq (Grows.refl wq)
                  refine wp_of_call (f := 28) (vs := #[v12, v13]) (by go_simp) (qcmp_v wq ((r12).qv.to hq1) ((r13).qv.to hq2) (hs1.mono (by decide)) (hs2.mono (by decide)) (k := j) hj.out) ?_
                  rintro e w1 ⟨u, rfl, hu, hb⟩
                  exact ⟨u, rfl, hK.out _ _ hb (fun w2 h2 => hu) (fun h => absurd h (by decide))⟩
                refine AllOps.cons (Does.lets (g := 11) (d := 77) (t := false) rfl (by kernel_rfl) (by kernel_rfl) (fun vq wq h => h wq (Grows.refl wq)) fun lq aq wq hk hr K hK => ?_) ?_
                · obtain ⟨v14, E14, -, r14⟩ := hk.dep hr 14 80 (by kernel_rfl) (by kernel_rfl)
                  replace E14 : ev aq (.tmp 80) = .int .i64 j := E14.trans (r14 wq (Grows.refl wq))
                  exact wp_of_value (by first | (go_simp; done) | (go_simp; omega)) (hK.out _ _ (Grows.refl _) (fun w2 h2 => rfl) (fun h => absurd h (by decide)))
                refine AllOps.cons (Does.lets (g := 8) (d := 74) (t := true) rfl (by kernel_rfl) (by kernel_rfl) (fun vq wq h => h wq (Grows.refl wq)) fun lq aq wq hk hr K hK => ?_) ?_
                · obtain ⟨v11, E11, -, r11⟩ := hk.dep hr 11 77 (by kernel_rfl) (by kernel_rfl)
                  replace E11 : ev aq (.tmp 77) = .bool false := E11.trans (r11 wq (Grows.refl wq))
                  obtain ⟨v15, E15, -, r15⟩ := hk.dep hr 15 81 (by kernel_rfl) (by kernel_rfl)
                  replace E15 : ev aq (.tmp 81) = .bool true := E15.trans (r15 wq (Grows.refl wq))
                  exact wp_of_value (by go_simp) (hK.out _ _ (Grows.refl _) (fun w2 h2 => rfl) (fun h => absurd h (by decide)))
                refine AllOps.cons (Does.lets (g := 8) (d := 74) (t := true) rfl (by kernel_rfl) (by kernel_rfl) (fun vq wq h => h wq (Grows.refl wq)) fun lq aq wq hk hr K hK => ?_) ?_
                · obtain ⟨v16, E16, -, r16⟩ := hk.dep hr 16 82 (by kernel_rfl) (by kernel_rfl)
                  replace E16 : ev aq (.tmp 82) = .bool true := E16.trans (r16 wq (Grows.refl wq))
                  exact wp_of_value (by go_simp) (hK.out _ _ (Grows.refl _) (fun w2 h2 => rfl) (fun h => absurd h (by decide)))
                refine AllOps.cons (Does.bars (g := 17) (d := 83) (t := false) (u := true) rfl (by kernel_rfl) (by kernel_rfl) (fun vq wq h => h wq (Grows.refl wq)) (by decide) (fun _ _ _ => rfl) rfl) ?_
                refine AllOps.cons (Does.bars (g := 17) (d := 83) (t := false) (u := true) rfl (by kernel_rfl) (by kernel_rfl) (fun vq wq h => h wq (Grows.refl wq)) (by decide) (fun _ _ _ => rfl) rfl) ?_
                refine AllOps.cons (Does.bars (g := 17) (d := 83) (t := false) (u := true) rfl (by kernel_rfl) (by kernel_rfl) (fun vq wq h => h wq (Grows.refl wq)) (by decide) (fun _ _ _ => rfl) rfl) ?_
                refine AllOps.cons (Does.bars (g := 17) (d := 83) (t := false) (u := true) rfl (by kernel_rfl) (by kernel_rfl) (fun vq wq h => h wq (Grows.refl wq)) (by decide) (fun _ _ _ => rfl) rfl) ?_
                refine AllOps.cons (Does.lets (g := 8) (d := 74) (t := true) rfl (by kernel_rfl) (by kernel_rfl) (fun vq wq h => h wq (Grows.refl wq)) fun lq aq wq hk hr K hK => ?_) ?_
                · obtain ⟨v17, E17, -, r17⟩ := hk.dep hr 17 83 (by kernel_rfl) (by kernel_rfl)
                  replace E17 : ev aq (.tmp 83) = .bool true := E17.trans (r17 wq (Grows.refl wq))
                  exact wp_of_value (by go_simp) (hK.out _ _ (Grows.refl _) (fun w2 h2 => rfl) (fun h => absurd h (by decide)))
                refine AllOps.cons (Does.plain rfl fun lq aq wq hk hr K hK => ?_) ?_
                · obtain ⟨v8, E8, -, r8⟩ := hk.dep hr 8 74 (by kernel_rfl) (by kernel_rfl)
                  replace E8 : ev aq (.tmp 74) = .bool true := E8.trans (r8 wq (Grows.refl wq))
                  obtain ⟨v22, E22, -, r22⟩ := hk.dep hr 22 88 (by kernel_rfl) (by kernel_rfl)
                  replace E22 : ev aq (.tmp 88) = .bool true := E22.trans (r22 wq (Grows.refl wq))
                  exact wp_of_value (by go_simp) (hK.out _ _ (Grows.refl _) (fun w2 h2 => rfl) (fun h => absurd h (by decide)))
                exact AllOps.nil
              case fin =>
                intro V x11 hG hV hap
                have r23 : (V 23) = .bool true := hV 23 (by decide)
                clear hV hap
                simp only [List.take_succ_cons, List.take_zero, List.drop_succ_cons, List.drop_zero, putAll, Act.put, List.setIfInBounds_toArray, List.set_cons_zero, List.set_cons_succ]
                have hb := grows_of hG
                replace D0 := Lib.hid (D0.out.below hb)
                replace SN0 := Lib.hid (SN0.out.below hb)
                replace SD0 := Lib.hid (SD0.out.below hb)
                replace D1 := Lib.hid (D1.out.below hb)
                replace SN1 := Lib.hid (SN1.out.below hb)
                replace SD1 := Lib.hid (SD1.out.below hb)
                replace D2 := Lib.hid (D2.out.below hb)
                replace SN2 := Lib.hid (SN2.out.below hb)
                replace SD2 := Lib.hid (SD2.out.below hb)
                replace HB := Lib.hid (HB.out.trans (Below.mono hb HB.out.size))
                clear hb hG
                rw [r23]
                clear r23
                go_wp2_with fail
                go_ret
                exact ⟨rfl, HB.out⟩
            · skip
              obtain ⟨i, hi9⟩ : ∃ i, qs (a - c) = i := ⟨_, rfl⟩
              have hi0 : i ≤ 0 := by rw [← hi9]; exact qs_trans (by rw [hkc.out]; exact hk0) (by rw [hj.out]; exact hj0)
              replace hi9 := Lib.hid hi9
              refine wp_region_going 24 [] ([fun vq _ => vq = .int .i64 k,
                  fun vq _ => vq = .bool t,
                  fun vq wq => QL wq vq nP0 fP0 gP0,
                  fun vq wq => RV wq vq ((-a)),
                  fun vq wq => QL wq vq nP1 fP1 gP1,
                  fun vq wq => RV wq vq ((-b)),
                  fun vq _ => vq = .bool t,
                  fun vq _ => vq = .bool true,
                  fun vq _ => vq = .bool true,
                  fun vq _ => vq = .int .i64 k,
                  fun vq _ => vq = .bool false,
                  fun vq _ => vq = .bool false,
                  fun vq wq => QL wq vq nP1 fP1 gP1,
                  fun vq wq => QL wq vq nP2 fP2 gP2,
                  fun vq _ => vq = .int .i64 j,
                  fun vq _ => vq = .bool false,
                  fun vq _ => vq = .bool false,
                  fun vq _ => vq = .bool false,
                  fun vq wq => QL wq vq nP0 fP0 gP0,
                  fun vq wq => QL wq vq nP2 fP2 gP2,
                  fun vq _ => vq = .int .i64 i,
                  fun vq _ => vq = .bool true,
                  fun vq _ => vq = .bool true,
                  fun vq _ => vq = .bool true]) (by kernel_rfl) (by kernel_rfl) (by decide) (by kernel_rfl) (by kernel_rfl) ?hF ?steps ?fin
              case hF =>
                intro j hj; cases hj
              case steps =>
                refine AllOps.cons (Does.plain rfl fun lq aq wq hk hr K hK => ?_) ?_
                · have B7 : ev aq (.tmp 7) = .int .i64 k := hk.base 7 (by kernel_rfl) rfl
                  exact wp_of_value (by go_simp) (hK.out _ _ (Grows.refl _) (fun w2 h2 => rfl) (fun h => absurd h (by decide)))
                refine AllOps.cons (Does.plain rfl fun lq aq wq hk hr K hK => ?_) ?_
                · obtain ⟨v0, E0, -, r0⟩ := hk.dep hr 0 66 (by kernel_rfl) (by kernel_rfl)
                  replace E0 : ev aq (.tmp 66) = .int .i64 k := E0.trans (r0 wq (Grows.refl wq))
                  exact wp_of_value (by go_simp) (hK.out _ _ (Grows.refl _) (fun w2 h2 => rfl) (fun h => absurd h (by decide)))
                refine AllOps.cons (Does.plain rfl fun lq aq wq hk hr K hK => ?_) ?_
                · have B3 : ev aq (.tmp 3) = .pointer (some ⟨w.heap.size, 0, none⟩) := hk.base 3 (by kernel_rfl) rfl
                  have hb := grows_of hk.ext
                  exact wp_of_value (op_load3 3 _ B3 (D0.out.below hb)) (hK.out _ _ (Grows.refl _) (fun w2 h2 => QL.grow ⟨_, _, _, _, rfl, (SN0.out.below hb), (SD0.out.below hb), hlm3, hmm3⟩ h2) (fun h => absurd h (by decide)))
                refine AllOps.cons (Does.plain rfl fun lq aq wq hk hr K hK => ?_) ?_
                · obtain ⟨v2, E2, -, r2⟩ := hk.dep hr 2 68 (by kernel_rfl) (by kernel_rfl)
                  have r2 : QL wq v2 nP0 fP0 gP0 := r2 wq (Grows.refl wq)
                  refine wp_of_call (f := 20) (vs := #[v2]) (by go_simp) (rneg_v wq ((r2).qv.to hq0)) ?_
                  rintro e w1 ⟨u, rfl, hu, hb⟩
                  exact ⟨u, rfl, hK.out _ _ hb (fun w2 h2 => (hu).grow h2) (fun h => absurd h (by decide))⟩
                refine AllOps.cons (Does.plain rfl fun lq aq wq hk hr K hK => ?_) ?_
                · have B4 : ev aq (.tmp 4) = .pointer (some ⟨w.heap.size + 1, 0, none⟩) := hk.base 4 (by kernel_rfl) rfl
                  have hb := grows_of hk.ext
                  exact wp_of_value (op_load3 4 _ B4 (D1.out.below hb)) (hK.out _ _ (Grows.refl _) (fun w2 h2 => QL.grow ⟨_, _, _, _, rfl, (SN1.out.below hb), (SD1.out.below hb), hlm4, hmm4⟩ h2) (fun h => absurd h (by decide)))
                refine AllOps.cons (Does.plain rfl fun lq aq wq hk hr K hK => ?_) ?_
                · obtain ⟨v4, E4, -, r4⟩ := hk.dep hr 4 70 (by kernel_rfl) (by kernel_rfl)
                  have r4 : QL wq v4 nP1 fP1 gP1 := r4 wq (Grows.refl wq)
                  refine wp_of_call (f := 20) (vs := #[v4]) (by go_simp) (rneg_v wq ((r4).qv.to hq1)) ?_
                  rintro e w1 ⟨u, rfl, hu, hb⟩
                  exact ⟨u, rfl, hK.out _ _ hb (fun w2 h2 => (hu).grow h2) (fun h => absurd h (by decide))⟩
                refine AllOps.cons (Does.plain rfl fun lq aq wq hk hr K hK => ?_) ?_
                · obtain ⟨v3, E3, -, r3⟩ := hk.dep hr 3 69 (by kernel_rfl) (by kernel_rfl)
                  have r3 : RV wq v3 ((-a)) := r3 wq (Grows.refl wq)
                  obtain ⟨v5, E5, -, r5⟩ := hk.dep hr 5 71 (by kernel_rfl) (by kernel_rfl)
                  have r5 : RV wq v5 ((-b)) := r5 wq (Grows.refl wq)
                  refine wp_of_call (f := 15) (vs := #[v3, v5]) (by go_simp) (lsameR_v wq r3 r5 (t := t) h4.out) ?_
                  rintro e w1 ⟨u, rfl, hu, hb⟩
                  exact ⟨u, rfl, hK.out _ _ hb (fun w2 h2 => hu) (fun h => absurd h (by decide))⟩
                refine AllOps.cons (Does.plain rfl fun lq aq wq hk hr K hK => ?_) ?_
                · obtain ⟨v1, E1, -, r1⟩ := hk.dep hr 1 67 (by kernel_rfl) (by kernel_rfl)
                  replace E1 : ev aq (.tmp 67) = .bool t := E1.trans (r1 wq (Grows.refl wq))
                  obtain ⟨v6, E6, -, r6⟩ := hk.dep hr 6 72 (by kernel_rfl) (by kernel_rfl)
                  replace E6 : ev aq (.tmp 72) = .bool t := E6.trans (r6 wq (Grows.refl wq))
                  exact wp_of_value (by go_simp) (hK.out _ _ (Grows.refl _) (fun w2 h2 => rfl) (fun h => absurd h (by decide)))
                refine AllOps.cons (Does.plain rfl fun lq aq wq hk hr K hK => ?_) ?_
                · obtain ⟨v7, E7, -, r7⟩ := hk.dep hr 7 73 (by kernel_rfl) (by kernel_rfl)
                  replace E7 : ev aq (.tmp 73) = .bool true := E7.trans (r7 wq (Grows.refl wq))
                  exact wp_of_value (by go_simp) (hK.out _ _ (Grows.refl _) (fun w2 h2 => rfl) (fun h => absurd h (by decide)))
                refine AllOps.cons (Does.lets (g := 8) (d := 74) (t := true) rfl (by kernel_rfl) (by kernel_rfl) (fun vq wq h => h wq (Grows.refl wq)) fun lq aq wq hk hr K hK => ?_) ?_
                · have B7 : ev aq (.tmp 7) = .int .i64 k := hk.base 7 (by kernel_rfl) rfl
                  exact wp_of_value (by go_simp) (hK.out _ _ (Grows.refl _) (fun w2 h2 => rfl) (fun h => absurd h (by decide)))
                refine AllOps.cons (Does.lets (g := 8) (d := 74) (t := true) rfl (by kernel_rfl) (by kernel_rfl) (fun vq wq h => h wq (Grows.refl wq)) fun lq aq wq hk hr K hK => ?_) ?_
                · obtain ⟨v9, E9, -, r9⟩ := hk.dep hr 9 75 (by kernel_rfl) (by kernel_rfl)
                  replace E9 : ev aq (.tmp 75) = .int .i64 k := E9.trans (r9 wq (Grows.refl wq))
                  exact wp_of_value (by first | (go_simp; done) | (go_simp; omega)) (hK.out _ _ (Grows.refl _) (fun w2 h2 => rfl) (fun h => absurd h (by decide)))
                refine AllOps.cons (Does.lets (g := 8) (d := 74) (t := true) rfl (by kernel_rfl) (by kernel_rfl) (fun vq wq h => h wq (Grows.refl wq)) fun lq aq wq hk hr K hK => ?_) ?_
                · obtain ⟨v10, E10, -, r10⟩ := hk.dep hr 10 76 (by kernel_rfl) (by kernel_rfl)
                  replace E10 : ev aq (.tmp 76) = .bool false := E10.trans (r10 wq (Grows.refl wq))
                  exact wp_of_value (by go_simp) (hK.out _ _ (Grows.refl _) (fun w2 h2 => rfl) (fun h => absurd h (by decide)))
                refine AllOps.cons (Does.lets (g := 11) (d := 77) (t := false) rfl (by kernel_rfl) (by kernel_rfl) (fun vq wq h => h wq (Grows.refl wq)) fun lq aq wq hk hr K hK => ?_) ?_
                · have B4 : ev aq (.tmp 4) = .pointer (some ⟨w.heap.size + 1, 0, none⟩) := hk.base 4 (by kernel_rfl) rfl
                  have hb := grows_of hk.ext
                  exact wp_of_value (op_load3 4 _ B4 (D1.out.below hb)) (hK.out _ _ (Grows.refl _) (fun w2 h2 => QL.grow ⟨_, _, _, _, rfl, (SN1.out.below hb), (SD1.out.below hb), hlm4, hmm4⟩ h2) (fun h => absurd h (by decide)))
                refine AllOps.cons (Does.lets (g := 11) (d := 77) (t := false) rfl (by kernel_rfl) (by kernel_rfl) (fun vq wq h => h wq (Grows.refl wq)) fun lq aq wq hk hr K hK => ?_) ?_
                · have B5 : ev aq (.tmp 5) = .pointer (some ⟨w.heap.size + 1 + 1, 0, none⟩) := hk.base 5 (by kernel_rfl) rfl
                  have hb := grows_of hk.ext
                  exact wp_of_value (op_load3 5 _ B5 (D2.out.below hb)) (hK.out _ _ (Grows.refl _) (fun w2 h2 => QL.grow ⟨_, _, _, _, rfl, (SN2.out.below hb), (SD2.out.below hb), hlm5, hmm5⟩ h2) (fun h => absurd h (by decide)))
                refine AllOps.cons (Does.lets (g := 11) (d := 77) (t := false) rfl (by kernel_rfl) (by kernel_rfl) (fun vq wq h => h wq (Grows.refl wq)) fun lq aq wq hk hr K hK => ?_) ?_
                · obtain ⟨v12, E12, -, r12⟩ := hk.dep hr 12 78 (by kernel_rfl) (by kernel_rfl)
                  have r12 : QL wq v12 nP1 fP1 gP1 := r12 wq (Grows.refl wq)
                  obtain ⟨v13, E13, -, r13⟩ := hk.dep hr 13 79 (by kernel_rfl) (by kernel_rfl)
                  have r13 : QL wq v13 nP2 fP2 gP2 := r13 wq (Grows.refl wq)
                  refine wp_of_call (f := 28) (vs := #[v12, v13]) (by go_simp) (qcmp_v wq ((r12).qv.to hq1) ((r13).qv.to hq2) (hs1.mono (by decide)) (hs2.mono (by decide)) (k := j) hj.out) ?_
                  rintro e w1 ⟨u, rfl, hu, hb⟩
                  exact ⟨u, rfl, hK.out _ _ hb (fun w2 h2 => hu) (fun h => absurd h (by decide))⟩
                refine AllOps.cons (Does.lets (g := 11) (d := 77) (t := false) rfl (by kernel_rfl) (by kernel_rfl) (fun vq wq h => h wq (Grows.refl wq)) fun lq aq wq hk hr K hK => ?_) ?_
                · obtain ⟨v14, E14, -, r14⟩ := hk.dep hr 14 80 (by kernel_rfl) (by kernel_rfl)
                  replace E14 : ev aq (.tmp 80) = .int .i64 j := E14.trans (r14 wq (Grows.refl wq))
                  exact wp_of_value (by first | (go_simp; done) | (go_simp; omega)) (hK.out _ _ (Grows.refl _) (fun w2 h2 => rfl) (fun h => absurd h (by decide)))
                refine AllOps.cons (Does.lets (g := 8) (d := 74) (t := true) rfl (by kernel_rfl) (by kernel_rfl) (fun vq wq h => h wq (Grows.refl wq)) fun lq aq wq hk hr K hK => ?_) ?_
                · obtain ⟨v11, E11, -, r11⟩ := hk.dep hr 11 77 (by kernel_rfl) (by kernel_rfl)
                  replace E11 : ev aq (.tmp 77) = .bool false := E11.trans (r11 wq (Grows.refl wq))
                  obtain ⟨v15, E15, -, r15⟩ := hk.dep hr 15 81 (by kernel_rfl) (by kernel_rfl)
                  replace E15 : ev aq (.tmp 81) = .bool false := E15.trans (r15 wq (Grows.refl wq))
                  exact wp_of_value (by go_simp) (hK.out _ _ (Grows.refl _) (fun w2 h2 => rfl) (fun h => absurd h (by decide)))
                refine AllOps.cons (Does.lets (g := 8) (d := 74) (t := true) rfl (by kernel_rfl) (by kernel_rfl) (fun vq wq h => h wq (Grows.refl wq)) fun lq aq wq hk hr K hK => ?_) ?_
                · obtain ⟨v16, E16, -, r16⟩ := hk.dep hr 16 82 (by kernel_rfl) (by kernel_rfl)
                  replace E16 : ev aq (.tmp 82) = .bool false := E16.trans (r16 wq (Grows.refl wq))
                  exact wp_of_value (by go_simp) (hK.out _ _ (Grows.refl _) (fun w2 h2 => rfl) (fun h => absurd h (by decide)))
                refine AllOps.cons (Does.lets (g := 17) (d := 83) (t := false) rfl (by kernel_rfl) (by kernel_rfl) (fun vq wq h => h wq (Grows.refl wq)) fun lq aq wq hk hr K hK => ?_) ?_
                · have B3 : ev aq (.tmp 3) = .pointer (some ⟨w.heap.size, 0, none⟩) := hk.base 3 (by kernel_rfl) rfl
                  have hb := grows_of hk.ext
                  exact wp_of_value (op_load3 3 _ B3 (D0.out.below hb)) (hK.out _ _ (Grows.refl _) (fun w2 h2 => QL.grow ⟨_, _, _, _, rfl, (SN0.out.below hb), (SD0.out.below hb), hlm3, hmm3⟩ h2) (fun h => absurd h (by decide)))
                refine AllOps.cons (Does.lets (g := 17) (d := 83) (t := false) rfl (by kernel_rfl) (by kernel_rfl) (fun vq wq h => h wq (Grows.refl wq)) fun lq aq wq hk hr K hK => ?_) ?_
                · have B5 : ev aq (.tmp 5) = .pointer (some ⟨w.heap.size + 1 + 1, 0, none⟩) := hk.base 5 (by kernel_rfl) rfl
                  have hb := grows_of hk.ext
                  exact wp_of_value (op_load3 5 _ B5 (D2.out.below hb)) (hK.out _ _ (Grows.refl _) (fun w2 h2 => QL.grow ⟨_, _, _, _, rfl, (SN2.out.below hb), (SD2.out.below hb), hlm5, hmm5⟩ h2) (fun h => absurd h (by decide)))
                refine AllOps.cons (Does.lets (g := 17) (d := 83) (t := false) rfl (by kernel_rfl) (by kernel_rfl) (fun vq wq h => h wq (Grows.refl wq)) fun lq aq wq hk hr K hK => ?_) ?_
                · obtain ⟨v18, E18, -, r18⟩ := hk.dep hr 18 84 (by kernel_rfl) (by kernel_rfl)
                  have r18 : QL wq v18 nP0 fP0 gP0 := r18 wq (Grows.refl wq)
                  obtain ⟨v19, E19, -, r19⟩ := hk.dep hr 19 85 (by kernel_rfl) (by kernel_rfl)
                  have r19 : QL wq v19 nP2 fP2 gP2 := r19 wq (Grows.refl wq)
                  refine wp_of_call (f := 28) (vs := #[v18, v19]) (by go_simp) (qcmp_v wq ((r18).qv.to hq0) ((r19).qv.to hq2) (hs0.mono (by decide)) (hs2.mono (by decide)) (k := i) hi9.out) ?_
                  rintro e w1 ⟨u, rfl, hu, hb⟩
                  exact ⟨u, rfl, hK.out _ _ hb (fun w2 h2 => hu) (fun h => absurd h (by decide))⟩
                refine AllOps.cons (Does.lets (g := 17) (d := 83) (t := false) rfl (by kernel_rfl) (by kernel_rfl) (fun vq wq h => h wq (Grows.refl wq)) fun lq aq wq hk hr K hK => ?_) ?_
                · obtain ⟨v20, E20, -, r20⟩ := hk.dep hr 20 86 (by kernel_rfl) (by kernel_rfl)
                  replace E20 : ev aq (.tmp 86) = .int .i64 i := E20.trans (r20 wq (Grows.refl wq))
                  exact wp_of_value (by first | (go_simp; done) | (go_simp; omega)) (hK.out _ _ (Grows.refl _) (fun w2 h2 => rfl) (fun h => absurd h (by decide)))
                refine AllOps.cons (Does.lets (g := 8) (d := 74) (t := true) rfl (by kernel_rfl) (by kernel_rfl) (fun vq wq h => h wq (Grows.refl wq)) fun lq aq wq hk hr K hK => ?_) ?_
                · obtain ⟨v17, E17, -, r17⟩ := hk.dep hr 17 83 (by kernel_rfl) (by kernel_rfl)
                  replace E17 : ev aq (.tmp 83) = .bool false := E17.trans (r17 wq (Grows.refl wq))
                  obtain ⟨v21, E21, -, r21⟩ := hk.dep hr 21 87 (by kernel_rfl) (by kernel_rfl)
                  replace E21 : ev aq (.tmp 87) = .bool true := E21.trans (r21 wq (Grows.refl wq))
                  exact wp_of_value (by go_simp) (hK.out _ _ (Grows.refl _) (fun w2 h2 => rfl) (fun h => absurd h (by decide)))
                refine AllOps.cons (Does.plain rfl fun lq aq wq hk hr K hK => ?_) ?_
                · obtain ⟨v8, E8, -, r8⟩ := hk.dep hr 8 74 (by kernel_rfl) (by kernel_rfl)
                  replace E8 : ev aq (.tmp 74) = .bool true := E8.trans (r8 wq (Grows.refl wq))
                  obtain ⟨v22, E22, -, r22⟩ := hk.dep hr 22 88 (by kernel_rfl) (by kernel_rfl)
                  replace E22 : ev aq (.tmp 88) = .bool true := E22.trans (r22 wq (Grows.refl wq))
                  exact wp_of_value (by go_simp) (hK.out _ _ (Grows.refl _) (fun w2 h2 => rfl) (fun h => absurd h (by decide)))
                exact AllOps.nil
              case fin =>
                intro V x11 hG hV hap
                have r23 : (V 23) = .bool true := hV 23 (by decide)
                clear hV hap
                simp only [List.take_succ_cons, List.take_zero, List.drop_succ_cons, List.drop_zero, putAll, Act.put, List.setIfInBounds_toArray, List.set_cons_zero, List.set_cons_succ]
                have hb := grows_of hG
                replace D0 := Lib.hid (D0.out.below hb)
                replace SN0 := Lib.hid (SN0.out.below hb)
                replace SD0 := Lib.hid (SD0.out.below hb)
                replace D1 := Lib.hid (D1.out.below hb)
                replace SN1 := Lib.hid (SN1.out.below hb)
                replace SD1 := Lib.hid (SD1.out.below hb)
                replace D2 := Lib.hid (D2.out.below hb)
                replace SN2 := Lib.hid (SN2.out.below hb)
                replace SD2 := Lib.hid (SD2.out.below hb)
                replace HB := Lib.hid (HB.out.trans (Below.mono hb HB.out.size))
                clear hb hG
                rw [r23]
                clear r23
                go_wp2_with fail
                go_ret
                exact ⟨rfl, HB.out⟩
end Go.Proofs.YtbippecchpaleaaGreatDoor
