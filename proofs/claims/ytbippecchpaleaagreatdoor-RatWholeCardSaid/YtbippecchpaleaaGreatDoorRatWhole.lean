import Derived.Test.YtbippecchpaleaaGreatDoorGRatF
/- litmuslaw03.RatWhole returns true. -/
namespace Go.Proofs.YtbippecchpaleaaGreatDoor
open Go.RowKit Go.Num Go.Kp
attribute [local go_sem] Oper.semAt_some u64_mask ev_const ev_func ev_global
set_option maxHeartbeats 16000000 in
set_option maxRecDepth 100000 in
theorem ratWhole_any (w : World) (nP0 : Bool) (mP0 pP0 : Value) (lP0 rP0 : List Nat) (nP1 : Bool) (mP1 pP1 : Value) (lP1 rP1 : List Nat) (hlen : HasLen w) (hP0 : Arg encU w mP0 lP0) (kP0 : Arg encU w pP0 rP0) (hL0 : Lim lP0) (hM0 : Lim rP0) (hN0 : lP0.length ≤ 9223372036854775807) (hO0 : rP0.length ≤ 9223372036854775807) (hP1 : Arg encU w mP1 lP1) (kP1 : Arg encU w pP1 rP1) (hL1 : Lim lP1) (hM1 : Lim rP1) (hN1 : lP1.length ≤ 9223372036854775807) (hO1 : rP1.length ≤ 9223372036854775807) : Calls Tryz.prog 8 #[.agg #[.bool nP0, mP0, pP0], .agg #[.bool nP1, mP1, pP1]] w fun e w' => e = .returned (.bool true) ∧ Below w.heap.size w w' := by
  obtain ⟨fP0, hf0⟩ : ∃ f, lP0.take 4 = f := ⟨_, rfl⟩
  obtain ⟨gP0, hg0⟩ : ∃ g, rP0.take 4 = g := ⟨_, rfl⟩
  obtain ⟨a, hq0⟩ : ∃ q, lrat nP0 fP0 gP0 = q := ⟨_, rfl⟩
  have hs0 : Qsz a 4 := hq0 ▸ few_qsz nP0 4 hf0 hg0 hL0 hM0 (by decide)
  have hlim0 := Lib.hid hL0
  have hlimd0 := Lib.hid hM0
  have hlen0 := Lib.hid hN0
  have hlend0 := Lib.hid hO0
  obtain ⟨AP0, cP0, eP0, -, -⟩ := hP0.open_
  subst eP0
  obtain ⟨BP0, dP0, eP0, -, -⟩ := kP0.open_
  subst eP0
  clear hL0 hM0 hN0 hO0
  obtain ⟨fP1, hf1⟩ : ∃ f, lP1.take 4 = f := ⟨_, rfl⟩
  obtain ⟨gP1, hg1⟩ : ∃ g, rP1.take 4 = g := ⟨_, rfl⟩
  obtain ⟨b, hq1⟩ : ∃ q, lrat nP1 fP1 gP1 = q := ⟨_, rfl⟩
  have hs1 : Qsz b 4 := hq1 ▸ few_qsz nP1 4 hf1 hg1 hL1 hM1 (by decide)
  have hlim1 := Lib.hid hL1
  have hlimd1 := Lib.hid hM1
  have hlen1 := Lib.hid hN1
  have hlend1 := Lib.hid hO1
  obtain ⟨AP1, cP1, eP1, -, -⟩ := hP1.open_
  subst eP1
  obtain ⟨BP1, dP1, eP1, -, -⟩ := kP1.open_
  subst eP1
  clear hL1 hM1 hN1 hO1
  go_enter Tryz.func8, Tryz.ntmps8
  go_upto_region 1 with fail
  have HB := Below.refl w.heap.size w
  have z0 : w.heap.size = w.heap.size := rfl
  have D0 := Box3.new w 26 (.bool nP0) (.slice AP0 lP0.length cP0) (.slice BP0 rP0.length dP0)
  rw [z0] at D0
  replace HB := HB.alloc (by rw [z0]; omega) (.cells #[.bool nP0, .slice AP0 lP0.length cP0, .slice BP0 rP0.length dP0] 26)
  have z1 : (w.alloc (.cells #[.bool nP0, .slice AP0 lP0.length cP0, .slice BP0 rP0.length dP0] 26)).heap.size = w.heap.size + 1 := by rw [World.size_alloc, z0]
  generalize w.alloc (.cells #[.bool nP0, .slice AP0 lP0.length cP0, .slice BP0 rP0.length dP0] 26) = u0 at *
  have D1 := Box3.new u0 26 (.bool nP1) (.slice AP1 lP1.length cP1) (.slice BP1 rP1.length dP1)
  rw [z1] at D1
  replace D0 := D0.alloc (.cells #[.bool nP1, .slice AP1 lP1.length cP1, .slice BP1 rP1.length dP1] 26)
  replace HB := HB.alloc (by rw [z1]; omega) (.cells #[.bool nP1, .slice AP1 lP1.length cP1, .slice BP1 rP1.length dP1] 26)
  have z2 : (u0.alloc (.cells #[.bool nP1, .slice AP1 lP1.length cP1, .slice BP1 rP1.length dP1] 26)).heap.size = w.heap.size + 1 + 1 := by rw [World.size_alloc, z1]
  generalize u0.alloc (.cells #[.bool nP1, .slice AP1 lP1.length cP1, .slice BP1 rP1.length dP1] 26) = u1 at *
  clear z0 z1 z2
  replace HB := Lib.hid HB
  replace D0 := Lib.hid D0
  have SN0 := Lib.hid (hP0.below HB.out)
  have SD0 := Lib.hid (kP0.below HB.out)
  clear hP0 kP0
  replace D1 := Lib.hid D1
  have SN1 := Lib.hid (hP1.below HB.out)
  have SD1 := Lib.hid (kP1.below HB.out)
  clear hP1 kP1
  have HL := Lib.hid hlen
  clear hlen
  refine wp_region_calm 2 [] ([fun vq _ => vq = .bool true,
      fun vq _ => vq = .bool false]) (by kernel_rfl) (by decide) ?hF ?steps ?fin
  case hF =>
    intro j hj; cases hj
  case steps =>
    refine AllOps.cons (Does.plain rfl fun lq aq wq hk hr K hK => ?_) ?_
    · refine wp_of_call (f := 39) (vs := #[]) (by go_simp) (qworks_v wq (HL.out.below (HB.out.trans (Below.mono hk.ext HB.out.size)))) ?_
      rintro e w1 ⟨u, rfl, hu, hb⟩
      exact ⟨u, rfl, hK.out _ _ hb (fun w2 h2 => hu) (fun h => absurd h (by decide))⟩
    refine AllOps.cons (Does.plain rfl fun lq aq wq hk hr K hK => ?_) ?_
    · obtain ⟨v0, E0, -, r0⟩ := hk.dep hr 0 7 (by kernel_rfl) (by kernel_rfl)
      replace E0 : ev aq (.tmp 7) = .bool true := E0.trans (r0 wq (Grows.refl wq))
      exact wp_of_value (by go_simp) (hK.out _ _ (Grows.refl _) (fun w2 h2 => rfl) (fun h => absurd h (by decide)))
    exact AllOps.nil
  case fin =>
    intro V x1 hG hV hap
    have r1 : (V 1) = .bool false := hV 1 (by decide)
    clear hV hap
    simp only [List.take_succ_cons, List.take_nil, List.drop_succ_cons, List.drop_nil, putAll, Act.put, List.setIfInBounds_toArray, List.set_cons_zero, List.set_cons_succ]
    have hb := (show Below _ _ _ from hG)
    replace D0 := Lib.hid (D0.out.below hb)
    replace SN0 := Lib.hid (SN0.out.below hb)
    replace SD0 := Lib.hid (SD0.out.below hb)
    replace D1 := Lib.hid (D1.out.below hb)
    replace SN1 := Lib.hid (SN1.out.below hb)
    replace SD1 := Lib.hid (SD1.out.below hb)
    replace HB := Lib.hid (HB.out.trans (Below.mono hb HB.out.size))
    clear hb hG
    rw [r1]
    clear r1
    go_upto_region 3 with fail
    refine wp_region_going 4 [] ([fun vq _ => vq = .agg #[.bool nP0, .slice AP0 lP0.length cP0, .slice BP0 rP0.length dP0],
        fun vq wq => QL wq vq nP0 fP0 gP0,
        fun vq _ => vq = .agg #[.bool nP1, .slice AP1 lP1.length cP1, .slice BP1 rP1.length dP1],
        fun vq wq => QL wq vq nP1 fP1 gP1]) (by kernel_rfl) (by kernel_rfl) (by decide) (by kernel_rfl) (by kernel_rfl) ?hF ?steps ?fin
    case hF =>
      intro j hj; cases hj
    case steps =>
      refine AllOps.cons (Does.plain rfl fun lq aq wq hk hr K hK => ?_) ?_
      · have B2 : ev aq (.tmp 2) = .pointer (some ⟨w.heap.size, 0, none⟩) := hk.base 2 (by kernel_rfl) rfl
        have hb := grows_of hk.ext
        exact wp_of_value (op_load3 2 _ B2 (D0.out.below hb)) (hK.out _ _ (Grows.refl _) (fun w2 h2 => rfl) (fun h => absurd h (by decide)))
      refine AllOps.cons (Does.plain rfl fun lq aq wq hk hr K hK => ?_) ?_
      · obtain ⟨v0, E0, -, r0⟩ := hk.dep hr 0 9 (by kernel_rfl) (by kernel_rfl)
        replace E0 : ev aq (.tmp 9) = .agg #[.bool nP0, .slice AP0 lP0.length cP0, .slice BP0 rP0.length dP0] := E0.trans (r0 wq (Grows.refl wq))
        refine wp_of_call (f := 12) (vs := #[.agg #[.bool nP0, .slice AP0 lP0.length cP0, .slice BP0 rP0.length dP0], .int .i64 4]) (by go_simp) (few3_v wq 4 (i := 4) rfl (SN0.out.below (grows_of hk.ext)) (SD0.out.below (grows_of hk.ext)) hlim0.out hlen0.out hlimd0.out hlend0.out (by decide) hf0 hg0) ?_
        rintro e w1 ⟨u, rfl, hu, hb⟩
        exact ⟨u, rfl, hK.out _ _ hb (fun w2 h2 => (hu).grow h2) (fun h => absurd h (by decide))⟩
      refine AllOps.cons (Does.plain rfl fun lq aq wq hk hr K hK => ?_) ?_
      · have B3 : ev aq (.tmp 3) = .pointer (some ⟨w.heap.size + 1, 0, none⟩) := hk.base 3 (by kernel_rfl) rfl
        have hb := grows_of hk.ext
        exact wp_of_value (op_load3 3 _ B3 (D1.out.below hb)) (hK.out _ _ (Grows.refl _) (fun w2 h2 => rfl) (fun h => absurd h (by decide)))
      refine AllOps.cons (Does.plain rfl fun lq aq wq hk hr K hK => ?_) ?_
      · obtain ⟨v2, E2, -, r2⟩ := hk.dep hr 2 11 (by kernel_rfl) (by kernel_rfl)
        replace E2 : ev aq (.tmp 11) = .agg #[.bool nP1, .slice AP1 lP1.length cP1, .slice BP1 rP1.length dP1] := E2.trans (r2 wq (Grows.refl wq))
        refine wp_of_call (f := 12) (vs := #[.agg #[.bool nP1, .slice AP1 lP1.length cP1, .slice BP1 rP1.length dP1], .int .i64 4]) (by go_simp) (few3_v wq 4 (i := 4) rfl (SN1.out.below (grows_of hk.ext)) (SD1.out.below (grows_of hk.ext)) hlim1.out hlen1.out hlimd1.out hlend1.out (by decide) hf1 hg1) ?_
        rintro e w1 ⟨u, rfl, hu, hb⟩
        exact ⟨u, rfl, hK.out _ _ hb (fun w2 h2 => (hu).grow h2) (fun h => absurd h (by decide))⟩
      exact AllOps.nil
    case fin =>
      intro V x2 hG hV hap
      have r1 : QL x2 (V 1) nP0 fP0 gP0 := hV 1 (by decide)
      have r3 : QL x2 (V 3) nP1 fP1 gP1 := hV 3 (by decide)
      clear hV hap
      simp only [List.take_succ_cons, List.take_zero, List.drop_succ_cons, List.drop_zero, putAll, Act.put, List.setIfInBounds_toArray, List.set_cons_zero, List.set_cons_succ]
      have hb := grows_of hG
      obtain ⟨Am3, cm3, Bm3, dm3, em3, sm3, tm3, hlm3, hmm3⟩ := r1
      simp only [em3]
      clear em3
      obtain ⟨Am4, cm4, Bm4, dm4, em4, sm4, tm4, hlm4, hmm4⟩ := r3
      simp only [em4]
      clear em4
      clear hG
      replace D0 := D0.out.below hb
      refine wpList_of_skip rfl (op_store3 2 10 _ rfl rfl D0) ?_
      replace D1 := Lib.hid (put3_far (x' := .bool nP0) (y' := .slice Am3 fP0.length cm3) (z' := .slice Bm3 gP0.length dm3) (D1.out.below hb) (show w.heap.size + 1 ≠ w.heap.size by omega))
      replace SN1 := Lib.hid ((SN1.out.below hb).put3 D0 (.bool nP0) (.slice Am3 fP0.length cm3) (.slice Bm3 gP0.length dm3))
      replace SD1 := Lib.hid ((SD1.out.below hb).put3 D0 (.bool nP0) (.slice Am3 fP0.length cm3) (.slice Bm3 gP0.length dm3))
      replace sm4 := sm4.put3 D0 (.bool nP0) (.slice Am3 fP0.length cm3) (.slice Bm3 gP0.length dm3)
      replace tm4 := tm4.put3 D0 (.bool nP0) (.slice Am3 fP0.length cm3) (.slice Bm3 gP0.length dm3)
      replace SN0 := Lib.hid (sm3.put3 D0 (.bool nP0) (.slice Am3 fP0.length cm3) (.slice Bm3 gP0.length dm3))
      replace SD0 := Lib.hid (tm3.put3 D0 (.bool nP0) (.slice Am3 fP0.length cm3) (.slice Bm3 gP0.length dm3))
      replace HB := Lib.hid (put3_below (x' := .bool nP0) (y' := .slice Am3 fP0.length cm3) (z' := .slice Bm3 gP0.length dm3) (HB.out.trans (Below.mono hb HB.out.size)) (show w.heap.size ≤ w.heap.size by omega))
      replace D0 := Lib.hid (put3_own (x' := .bool nP0) (y' := .slice Am3 fP0.length cm3) (z' := .slice Bm3 gP0.length dm3) D0)
      clear hb sm3 tm3
      generalize put3 x2 w.heap.size (.bool nP0) (.slice Am3 fP0.length cm3) (.slice Bm3 gP0.length dm3) = y5 at *
      have hkm3 : szz (sg nP0 (val fP0)) ≤ 1000 := by unfold szz; rw [sg_natAbs]; exact Nat.le_trans (sz_num SN0.out) hlm3
      have hb := Below.refl (y5).heap.size (y5)
      replace D1 := D1.out.below hb
      refine wpList_of_skip rfl (op_store3 3 12 _ rfl rfl D1) ?_
      replace D0 := Lib.hid (put3_far (x' := .bool nP1) (y' := .slice Am4 fP1.length cm4) (z' := .slice Bm4 gP1.length dm4) (D0.out.below hb) (show w.heap.size ≠ w.heap.size + 1 by omega))
      replace SN0 := Lib.hid ((SN0.out.below hb).put3 D1 (.bool nP1) (.slice Am4 fP1.length cm4) (.slice Bm4 gP1.length dm4))
      replace SD0 := Lib.hid ((SD0.out.below hb).put3 D1 (.bool nP1) (.slice Am4 fP1.length cm4) (.slice Bm4 gP1.length dm4))
      replace SN1 := Lib.hid (sm4.put3 D1 (.bool nP1) (.slice Am4 fP1.length cm4) (.slice Bm4 gP1.length dm4))
      replace SD1 := Lib.hid (tm4.put3 D1 (.bool nP1) (.slice Am4 fP1.length cm4) (.slice Bm4 gP1.length dm4))
      replace HB := Lib.hid (put3_below (x' := .bool nP1) (y' := .slice Am4 fP1.length cm4) (z' := .slice Bm4 gP1.length dm4) (HB.out.trans (Below.mono hb HB.out.size)) (show w.heap.size ≤ w.heap.size + 1 by omega))
      replace D1 := Lib.hid (put3_own (x' := .bool nP1) (y' := .slice Am4 fP1.length cm4) (z' := .slice Bm4 gP1.length dm4) D1)
      clear hb sm4 tm4
      generalize put3 y5 (w.heap.size + 1) (.bool nP1) (.slice Am4 fP1.length cm4) (.slice Bm4 gP1.length dm4) = y6 at *
      have hkm4 : szz (sg nP1 (val fP1)) ≤ 1000 := by unfold szz; rw [sg_natAbs]; exact Nat.le_trans (sz_num SN1.out) hlm4
      go_upto_region 4 with fail
      have lw0 := D0.out.lt
      have lw1 := D1.out.lt
      refine wp_region_going 8 [6, 7] ([fun vq wq => QL wq vq nP0 fP0 gP0,
          fun vq wq => ZV wq vq ((Rat.floor a)),
          fun vq wq => RV wq vq ((((Rat.floor a) : Int) : Rat)),
          fun vq wq => QL wq vq nP0 fP0 gP0,
          fun vq wq => ZV wq vq ((qup a)),
          fun vq wq => RV wq vq ((((qup a) : Int) : Rat)),
          fun vq wq => ∃ bq, vq = .pointer (some ⟨bq, 0, none⟩) ∧ BoxN wq bq 26 #[.bool false, .slice none 0 0, .slice none 0 0] ∧ (y6).heap.size ≤ bq,
          fun vq wq => ∃ bq, vq = .pointer (some ⟨bq, 0, none⟩) ∧ BoxN wq bq 26 #[.bool false, .slice none 0 0, .slice none 0 0] ∧ (y6).heap.size ≤ bq]) (by kernel_rfl) (by kernel_rfl) (by decide) (by kernel_rfl) (by kernel_rfl) ?hF ?steps ?fin
      case hF =>
        intro j hj v w h
        simp only [List.mem_cons, List.not_mem_nil, or_false] at hj
        rcases hj with rfl | rfl
        all_goals (obtain ⟨b, rfl, hB, _⟩ := h; exact hB.lt)
      case steps =>
        refine AllOps.cons (Does.plain rfl fun lq aq wq hk hr K hK => ?_) ?_
        · have B2 : ev aq (.tmp 2) = .pointer (some ⟨w.heap.size, 0, none⟩) := hk.base 2 (by kernel_rfl) rfl
          have hb := grows_of hk.ext
          exact wp_of_value (op_load3 2 _ B2 (D0.out.below hb)) (hK.out _ _ (Grows.refl _) (fun w2 h2 => QL.grow ⟨_, _, _, _, rfl, (SN0.out.below hb), (SD0.out.below hb), hlm3, hmm3⟩ h2) (fun h => absurd h (by decide)))
        refine AllOps.cons (Does.plain rfl fun lq aq wq hk hr K hK => ?_) ?_
        · obtain ⟨v0, E0, -, r0⟩ := hk.dep hr 0 13 (by kernel_rfl) (by kernel_rfl)
          have r0 : QL wq v0 nP0 fP0 gP0 := r0 wq (Grows.refl wq)
          refine wp_of_call (f := 33) (vs := #[v0]) (by go_simp) (qfloor_v wq ((r0).qv.to hq0) (hs0.mono (by decide)).floor) ?_
          rintro e w1 ⟨u, rfl, hu, hb⟩
          exact ⟨u, rfl, hK.out _ _ hb (fun w2 h2 => (hu).grow h2) (fun h => absurd h (by decide))⟩
        refine AllOps.cons (Does.plain rfl fun lq aq wq hk hr K hK => ?_) ?_
        · obtain ⟨v1, E1, -, r1⟩ := hk.dep hr 1 14 (by kernel_rfl) (by kernel_rfl)
          have r1 : ZV wq v1 ((Rat.floor a)) := r1 wq (Grows.refl wq)
          refine wp_of_call (f := 45) (vs := #[v1]) (by go_simp) (int_v wq (r1).wv) ?_
          rintro e w1 ⟨u, rfl, hu, hb⟩
          exact ⟨u, rfl, hK.out _ _ hb (fun w2 h2 => (hu).grow h2) (fun h => absurd h (by decide))⟩
        refine AllOps.cons (Does.plain rfl fun lq aq wq hk hr K hK => ?_) ?_
        · have B2 : ev aq (.tmp 2) = .pointer (some ⟨w.heap.size, 0, none⟩) := hk.base 2 (by kernel_rfl) rfl
          have hb := grows_of hk.ext
          exact wp_of_value (op_load3 2 _ B2 (D0.out.below hb)) (hK.out _ _ (Grows.refl _) (fun w2 h2 => QL.grow ⟨_, _, _, _, rfl, (SN0.out.below hb), (SD0.out.below hb), hlm3, hmm3⟩ h2) (fun h => absurd h (by decide)))
        refine AllOps.cons (Does.plain rfl fun lq aq wq hk hr K hK => ?_) ?_
        · obtain ⟨v3, E3, -, r3⟩ := hk.dep hr 3 16 (by kernel_rfl) (by kernel_rfl)
          have r3 : QL wq v3 nP0 fP0 gP0 := r3 wq (Grows.refl wq)
          refine wp_of_call (f := 35) (vs := #[v3]) (by go_simp) (qceil_v wq ((r3).qv.to hq0) (hs0.mono (by decide)).neg.floor) ?_
          rintro e w1 ⟨u, rfl, hu, hb⟩
          exact ⟨u, rfl, hK.out _ _ hb (fun w2 h2 => (hu).grow h2) (fun h => absurd h (by decide))⟩
        refine AllOps.cons (Does.plain rfl fun lq aq wq hk hr K hK => ?_) ?_
        · obtain ⟨v4, E4, -, r4⟩ := hk.dep hr 4 17 (by kernel_rfl) (by kernel_rfl)
          have r4 : ZV wq v4 ((qup a)) := r4 wq (Grows.refl wq)
          refine wp_of_call (f := 45) (vs := #[v4]) (by go_simp) (int_v wq (r4).wv) ?_
          rintro e w1 ⟨u, rfl, hu, hb⟩
          exact ⟨u, rfl, hK.out _ _ hb (fun w2 h2 => (hu).grow h2) (fun h => absurd h (by decide))⟩
        refine AllOps.cons (Does.plain rfl fun lq aq wq hk hr K hK => ?_) ?_
        · exact wp_of_value (by go_simp) (hK.out _ _ ((Grows.refl _).alloc _) (fun w2 h2 => ⟨_, rfl, (BoxN.new wq 26 _).below h2, (grows_of hk.ext).size⟩) (fun _ => Nat.le_refl _))
        refine AllOps.cons (Does.plain rfl fun lq aq wq hk hr K hK => ?_) ?_
        · exact wp_of_value (by go_simp) (hK.out _ _ ((Grows.refl _).alloc _) (fun w2 h2 => ⟨_, rfl, (BoxN.new wq 26 _).below h2, (grows_of hk.ext).size⟩) (fun _ => Nat.le_refl _))
        exact AllOps.nil
      case fin =>
        intro V x7 hG hV hap
        have r2 : RV x7 (V 2) ((((Rat.floor a) : Int) : Rat)) := hV 2 (by decide)
        have r5 : RV x7 (V 5) ((((qup a) : Int) : Rat)) := hV 5 (by decide)
        have r6 : ∃ bq, (V 6) = .pointer (some ⟨bq, 0, none⟩) ∧ BoxN x7 bq 26 #[.bool false, .slice none 0 0, .slice none 0 0] ∧ (y6).heap.size ≤ bq := hV 6 (by decide)
        have r7 : ∃ bq, (V 7) = .pointer (some ⟨bq, 0, none⟩) ∧ BoxN x7 bq 26 #[.bool false, .slice none 0 0, .slice none 0 0] ∧ (y6).heap.size ≤ bq := hV 7 (by decide)
        clear hV
        simp only [List.take_succ_cons, List.take_zero, List.drop_succ_cons, List.drop_zero, putAll, Act.put, List.setIfInBounds_toArray, List.set_cons_zero, List.set_cons_succ]
        have hb := grows_of hG
        obtain ⟨bd, ed, Dd, gd⟩ := r6
        obtain ⟨nd, Ad, kd, cd, Bd, jd, dd, ed9, sd, td, hdd⟩ := r2
        obtain ⟨bu, eu, Du, gu⟩ := r7
        obtain ⟨nu, Au, ku, cu, Bu, ju, du, eu9, su, tu, hdu⟩ := r5
        have nndu : bd ≠ bu := by
          have h := hap 6 7 (by decide) (by decide) (by decide) (by decide) (by decide) rfl rfl
          rw [ed, eu] at h
          exact h
        simp only [ed, ed9, eu, eu9]
        clear hap hG ed ed9 eu eu9
        replace Dd : Box3 _ bd 26 (.bool false) (.slice none 0 0) (.slice none 0 0) := Dd
        replace Du : Box3 _ bu 26 (.bool false) (.slice none 0 0) (.slice none 0 0) := Du
        refine wpList_of_skip rfl (op_store3 5 15 _ rfl rfl Dd) ?_
        have hB1 := put3_below (x' := .bool nd) (y' := .slice Ad kd cd) (z' := .slice Bd jd dd) hb gd
        replace sd := sd.put3 Dd (.bool nd) (.slice Ad kd cd) (.slice Bd jd dd)
        replace td := td.put3 Dd (.bool nd) (.slice Ad kd cd) (.slice Bd jd dd)
        replace su := su.put3 Dd (.bool nd) (.slice Ad kd cd) (.slice Bd jd dd)
        replace tu := tu.put3 Dd (.bool nd) (.slice Ad kd cd) (.slice Bd jd dd)
        replace Du := put3_far (x' := .bool nd) (y' := .slice Ad kd cd) (z' := .slice Bd jd dd) Du (Ne.symm nndu)
        replace Dd := put3_own (x' := .bool nd) (y' := .slice Ad kd cd) (z' := .slice Bd jd dd) Dd
        refine wpList_of_skip rfl (op_store3 6 18 _ rfl rfl Du) ?_
        have hB := put3_below (x' := .bool nu) (y' := .slice Au ku cu) (z' := .slice Bu ju du) hB1 gu
        replace sd := sd.put3 Du (.bool nu) (.slice Au ku cu) (.slice Bu ju du)
        replace td := td.put3 Du (.bool nu) (.slice Au ku cu) (.slice Bu ju du)
        replace su := su.put3 Du (.bool nu) (.slice Au ku cu) (.slice Bu ju du)
        replace tu := tu.put3 Du (.bool nu) (.slice Au ku cu) (.slice Bu ju du)
        replace Dd := put3_far (x' := .bool nu) (y' := .slice Au ku cu) (z' := .slice Bu ju du) Dd nndu
        replace Du := put3_own (x' := .bool nu) (y' := .slice Au ku cu) (z' := .slice Bu ju du) Du
        clear hb hB1
        generalize put3 (put3 x7 bd (.bool nd) (.slice Ad kd cd) (.slice Bd jd dd)) bu (.bool nu) (.slice Au ku cu) (.slice Bu ju du) = y8 at *
        replace D0 := Lib.hid (D0.out.below hB)
        replace SN0 := Lib.hid (SN0.out.below hB)
        replace SD0 := Lib.hid (SD0.out.below hB)
        replace D1 := Lib.hid (D1.out.below hB)
        replace SN1 := Lib.hid (SN1.out.below hB)
        replace SD1 := Lib.hid (SD1.out.below hB)
        replace HB := Lib.hid (HB.out.trans (Below.mono hB HB.out.size))
        replace lw0 := Nat.lt_of_lt_of_le lw0 gd
        replace lw1 := Nat.lt_of_lt_of_le lw1 gd
        replace Dd := Lib.hid Dd
        have SNd := Lib.hid sd
        have SDd := Lib.hid td
        clear gd sd td
        replace Du := Lib.hid Du
        have SNu := Lib.hid su
        have SDu := Lib.hid tu
        clear gu su tu
        clear hB
        obtain ⟨k1, h1⟩ : ∃ k, qs ((a.floor : Rat) - a) = k := ⟨_, rfl⟩
        have b1 := h1 ▸ down_le a
        obtain ⟨k2, h2⟩ : ∃ k, qs (a - (qup a : Rat)) = k := ⟨_, rfl⟩
        have b2 := h2 ▸ le_up a
        obtain ⟨k3, h3⟩ : ∃ k, qs (a - (a.floor : Rat) - ((1 : Int) : Rat)) = k := ⟨_, rfl⟩
        have b3 : k3 < 0 := h3 ▸ down_near a
        obtain ⟨k4, h4⟩ : ∃ k, qs ((qup a : Rat) - a - ((1 : Int) : Rat)) = k := ⟨_, rfl⟩
        have b4 : k4 < 0 := h4 ▸ up_near a
        replace h1 := Lib.hid h1
        replace h2 := Lib.hid h2
        replace h3 := Lib.hid h3
        replace h4 := Lib.hid h4
        go_upto_region 5 with fail
        refine wp_region_calm 26 [] ([fun vq wq => RV wq vq ((((Rat.floor a) : Int) : Rat)),
            fun vq wq => QL wq vq nP0 fP0 gP0,
            fun vq _ => vq = .int .i64 k1,
            fun vq _ => vq = .bool false,
            fun vq _ => vq = .bool false,
            fun vq wq => QL wq vq nP0 fP0 gP0,
            fun vq wq => RV wq vq ((((qup a) : Int) : Rat)),
            fun vq _ => vq = .int .i64 k2,
            fun vq _ => vq = .bool false,
            fun vq _ => vq = .bool false,
            fun vq _ => vq = .bool false,
            fun vq wq => QL wq vq nP0 fP0 gP0,
            fun vq wq => RV wq vq ((((Rat.floor a) : Int) : Rat)),
            fun vq wq => RV wq vq ((a - (((Rat.floor a) : Int) : Rat))),
            fun vq wq => RV wq vq (((1 : Int) : Rat)),
            fun vq _ => vq = .int .i64 k3,
            fun vq _ => vq = .bool false,
            fun vq _ => vq = .bool false,
            fun vq _ => vq = .bool false,
            fun vq wq => RV wq vq ((((qup a) : Int) : Rat)),
            fun vq wq => QL wq vq nP0 fP0 gP0,
            fun vq wq => RV wq vq (((((qup a) : Int) : Rat) - a)),
            fun vq wq => RV wq vq (((1 : Int) : Rat)),
            fun vq _ => vq = .int .i64 k4,
            fun vq _ => vq = .bool false,
            fun vq _ => vq = .bool false]) (by kernel_rfl) (by decide) ?hF ?steps ?fin
        case hF =>
          intro j hj; cases hj
        case steps =>
          refine AllOps.cons (Does.plain rfl fun lq aq wq hk hr K hK => ?_) ?_
          · have B5 : ev aq (.tmp 5) = .pointer (some ⟨bd, 0, none⟩) := hk.base 5 (by kernel_rfl) rfl
            have hb : Below _ _ _ := hk.ext
            exact wp_of_value (op_load3 5 _ B5 (Dd.out.below hb)) (hK.out _ _ (Grows.refl _) (fun w2 h2 => RV.grow ⟨_, _, _, _, _, _, _, rfl, (SNd.out.below hb), (SDd.out.below hb), hdd⟩ h2) (fun h => absurd h (by decide)))
          refine AllOps.cons (Does.plain rfl fun lq aq wq hk hr K hK => ?_) ?_
          · have B2 : ev aq (.tmp 2) = .pointer (some ⟨w.heap.size, 0, none⟩) := hk.base 2 (by kernel_rfl) rfl
            have hb : Below _ _ _ := hk.ext
            exact wp_of_value (op_load3 2 _ B2 (D0.out.below hb)) (hK.out _ _ (Grows.refl _) (fun w2 h2 => QL.grow ⟨_, _, _, _, rfl, (SN0.out.below hb), (SD0.out.below hb), hlm3, hmm3⟩ h2) (fun h => absurd h (by decide)))
          refine AllOps.cons (Does.plain rfl fun lq aq wq hk hr K hK => ?_) ?_
          · obtain ⟨v0, E0, -, r0⟩ := hk.dep hr 0 19 (by kernel_rfl) (by kernel_rfl)
            have r0 : RV wq v0 ((((Rat.floor a) : Int) : Rat)) := r0 wq (Grows.refl wq)
            obtain ⟨v1, E1, -, r1⟩ := hk.dep hr 1 20 (by kernel_rfl) (by kernel_rfl)
            have r1 : QL wq v1 nP0 fP0 gP0 := r1 wq (Grows.refl wq)
            refine wp_of_call (f := 28) (vs := #[v0, v1]) (by go_simp) (qcmp_v wq (r0).qv ((r1).qv.to hq0) ((Qsz.int (hs0.floor) (by decide)).mono (by decide)) (hs0.mono (by decide)) (k := k1) h1.out) ?_
            rintro e w1 ⟨u, rfl, hu, hb⟩
            exact ⟨u, rfl, hK.out _ _ hb (fun w2 h2 => hu) (fun h => absurd h (by decide))⟩
          refine AllOps.cons (Does.plain rfl fun lq aq wq hk hr K hK => ?_) ?_
          · obtain ⟨v2, E2, -, r2⟩ := hk.dep hr 2 21 (by kernel_rfl) (by kernel_rfl)
            replace E2 : ev aq (.tmp 21) = .int .i64 k1 := E2.trans (r2 wq (Grows.refl wq))
            exact wp_of_value (by first | (go_simp; done) | (go_simp; omega)) (hK.out _ _ (Grows.refl _) (fun w2 h2 => rfl) (fun h => absurd h (by decide)))
          refine AllOps.cons (Does.plain rfl fun lq aq wq hk hr K hK => ?_) ?_
          · obtain ⟨v3, E3, -, r3⟩ := hk.dep hr 3 22 (by kernel_rfl) (by kernel_rfl)
            replace E3 : ev aq (.tmp 22) = .bool false := E3.trans (r3 wq (Grows.refl wq))
            exact wp_of_value (by go_simp) (hK.out _ _ (Grows.refl _) (fun w2 h2 => rfl) (fun h => absurd h (by decide)))
          refine AllOps.cons (Does.lets (g := 4) (d := 23) (t := false) rfl (by kernel_rfl) (by kernel_rfl) (fun vq wq h => h wq (Grows.refl wq)) fun lq aq wq hk hr K hK => ?_) ?_
          · have B2 : ev aq (.tmp 2) = .pointer (some ⟨w.heap.size, 0, none⟩) := hk.base 2 (by kernel_rfl) rfl
            have hb : Below _ _ _ := hk.ext
            exact wp_of_value (op_load3 2 _ B2 (D0.out.below hb)) (hK.out _ _ (Grows.refl _) (fun w2 h2 => QL.grow ⟨_, _, _, _, rfl, (SN0.out.below hb), (SD0.out.below hb), hlm3, hmm3⟩ h2) (fun h => absurd h (by decide)))
          refine AllOps.cons (Does.lets (g := 4) (d := 23) (t := false) rfl (by kernel_rfl) (by kernel_rfl) (fun vq wq h => h wq (Grows.refl wq)) fun lq aq wq hk hr K hK => ?_) ?_
          · have B6 : ev aq (.tmp 6) = .pointer (some ⟨bu, 0, none⟩) := hk.base 6 (by kernel_rfl) rfl
            have hb : Below _ _ _ := hk.ext
            exact wp_of_value (op_load3 6 _ B6 (Du.out.below hb)) (hK.out _ _ (Grows.refl _) (fun w2 h2 => RV.grow ⟨_, _, _, _, _, _, _, rfl, (SNu.out.below hb), (SDu.out.below hb), hdu⟩ h2) (fun h => absurd h (by decide)))
          refine AllOps.cons (Does.lets (g := 4) (d := 23) (t := false) rfl (by kernel_rfl) (by kernel_rfl) (fun vq wq h => h wq (Grows.refl wq)) fun lq aq wq hk hr K hK => ?_) ?_
          · obtain ⟨v5, E5, -, r5⟩ := hk.dep hr 5 24 (by kernel_rfl) (by kernel_rfl)
            have r5 : QL wq v5 nP0 fP0 gP0 := r5 wq (Grows.refl wq)
            obtain ⟨v6, E6, -, r6⟩ := hk.dep hr 6 25 (by kernel_rfl) (by kernel_rfl)
            have r6 : RV wq v6 ((((qup a) : Int) : Rat)) := r6 wq (Grows.refl wq)
            refine wp_of_call (f := 28) (vs := #[v5, v6]) (by go_simp) (qcmp_v wq ((r5).qv.to hq0) (r6).qv (hs0.mono (by decide)) ((Qsz.int (hs0.up) (by decide)).mono (by decide)) (k := k2) h2.out) ?_
            rintro e w1 ⟨u, rfl, hu, hb⟩
            exact ⟨u, rfl, hK.out _ _ hb (fun w2 h2 => hu) (fun h => absurd h (by decide))⟩
          refine AllOps.cons (Does.lets (g := 4) (d := 23) (t := false) rfl (by kernel_rfl) (by kernel_rfl) (fun vq wq h => h wq (Grows.refl wq)) fun lq aq wq hk hr K hK => ?_) ?_
          · obtain ⟨v7, E7, -, r7⟩ := hk.dep hr 7 26 (by kernel_rfl) (by kernel_rfl)
            replace E7 : ev aq (.tmp 26) = .int .i64 k2 := E7.trans (r7 wq (Grows.refl wq))
            exact wp_of_value (by first | (go_simp; done) | (go_simp; omega)) (hK.out _ _ (Grows.refl _) (fun w2 h2 => rfl) (fun h => absurd h (by decide)))
          refine AllOps.cons (Does.plain rfl fun lq aq wq hk hr K hK => ?_) ?_
          · obtain ⟨v4, E4, -, r4⟩ := hk.dep hr 4 23 (by kernel_rfl) (by kernel_rfl)
            replace E4 : ev aq (.tmp 23) = .bool false := E4.trans (r4 wq (Grows.refl wq))
            obtain ⟨v8, E8, -, r8⟩ := hk.dep hr 8 27 (by kernel_rfl) (by kernel_rfl)
            replace E8 : ev aq (.tmp 27) = .bool false := E8.trans (r8 wq (Grows.refl wq))
            exact wp_of_value (by go_simp) (hK.out _ _ (Grows.refl _) (fun w2 h2 => rfl) (fun h => absurd h (by decide)))
          refine AllOps.cons (Does.plain rfl fun lq aq wq hk hr K hK => ?_) ?_
          · obtain ⟨v9, E9, -, r9⟩ := hk.dep hr 9 28 (by kernel_rfl) (by kernel_rfl)
            replace E9 : ev aq (.tmp 28) = .bool false := E9.trans (r9 wq (Grows.refl wq))
            exact wp_of_value (by go_simp) (hK.out _ _ (Grows.refl _) (fun w2 h2 => rfl) (fun h => absurd h (by decide)))
          refine AllOps.cons (Does.lets (g := 10) (d := 29) (t := false) rfl (by kernel_rfl) (by kernel_rfl) (fun vq wq h => h wq (Grows.refl wq)) fun lq aq wq hk hr K hK => ?_) ?_
          · have B2 : ev aq (.tmp 2) = .pointer (some ⟨w.heap.size, 0, none⟩) := hk.base 2 (by kernel_rfl) rfl
            have hb : Below _ _ _ := hk.ext
            exact wp_of_value (op_load3 2 _ B2 (D0.out.below hb)) (hK.out _ _ (Grows.refl _) (fun w2 h2 => QL.grow ⟨_, _, _, _, rfl, (SN0.out.below hb), (SD0.out.below hb), hlm3, hmm3⟩ h2) (fun h => absurd h (by decide)))
          refine AllOps.cons (Does.lets (g := 10) (d := 29) (t := false) rfl (by kernel_rfl) (by kernel_rfl) (fun vq wq h => h wq (Grows.refl wq)) fun lq aq wq hk hr K hK => ?_) ?_
          · have B5 : ev aq (.tmp 5) = .pointer (some ⟨bd, 0, none⟩) := hk.base 5 (by kernel_rfl) rfl
            have hb : Below _ _ _ := hk.ext
            exact wp_of_value (op_load3 5 _ B5 (Dd.out.below hb)) (hK.out _ _ (Grows.refl _) (fun w2 h2 => RV.grow ⟨_, _, _, _, _, _, _, rfl, (SNd.out.below hb), (SDd.out.below hb), hdd⟩ h2) (fun h => absurd h (by decide)))
          refine AllOps.cons (Does.lets (g := 10) (d := 29) (t := false) rfl (by kernel_rfl) (by kernel_rfl) (fun vq wq h => h wq (Grows.refl wq)) fun lq aq wq hk hr K hK => ?_) ?_
          · obtain ⟨v11, E11, -, r11⟩ := hk.dep hr 11 30 (by kernel_rfl) (by kernel_rfl)
            have r11 : QL wq v11 nP0 fP0 gP0 := r11 wq (Grows.refl wq)
            obtain ⟨v12, E12, -, r12⟩ := hk.dep hr 12 31 (by kernel_rfl) (by kernel_rfl)
            have r12 : RV wq v12 ((((Rat.floor a) : Int) : Rat)) := r12 wq (Grows.refl wq)
            refine wp_of_call (f := 24) (vs := #[v11, v12]) (by go_simp) (qsub_v wq ((r11).qv.to hq0) (r12).qv (hs0.mono (by decide)) ((Qsz.int (hs0.floor) (by decide)).mono (by decide))) ?_
            rintro e w1 ⟨u, rfl, hu, hb⟩
            exact ⟨u, rfl, hK.out _ _ hb (fun w2 h2 => (hu).grow h2) (fun h => absurd h (by decide))⟩
          refine AllOps.cons (Does.lets (g := 10) (d := 29) (t := false) rfl (by kernel_rfl) (by kernel_rfl) (fun vq wq h => h wq (Grows.refl wq)) fun lq aq wq hk hr K hK => ?_) ?_
          · refine wp_of_call (f := 40) (vs := #[.int .i64 1]) (by go_simp) (rfrom_v wq 1 (by decide) (by decide)) ?_
            rintro e w1 ⟨u, rfl, hu, hb⟩
            exact ⟨u, rfl, hK.out _ _ hb (fun w2 h2 => (hu).grow h2) (fun h => absurd h (by decide))⟩
          refine AllOps.cons (Does.lets (g := 10) (d := 29) (t := false) rfl (by kernel_rfl) (by kernel_rfl) (fun vq wq h => h wq (Grows.refl wq)) fun lq aq wq hk hr K hK => ?_) ?_
          · obtain ⟨v13, E13, -, r13⟩ := hk.dep hr 13 32 (by kernel_rfl) (by kernel_rfl)
            have r13 : RV wq v13 ((a - (((Rat.floor a) : Int) : Rat))) := r13 wq (Grows.refl wq)
            obtain ⟨v14, E14, -, r14⟩ := hk.dep hr 14 33 (by kernel_rfl) (by kernel_rfl)
            have r14 : RV wq v14 (((1 : Int) : Rat)) := r14 wq (Grows.refl wq)
            refine wp_of_call (f := 28) (vs := #[v13, v14]) (by go_simp) (qcmp_v wq (r13).qv (r14).qv ((hs0.sub (Qsz.int (hs0.floor) (by decide))).mono (by decide)) ((Qsz.int (szz_i64 (by decide) (by decide)) (by decide)).mono (by decide)) (k := k3) h3.out) ?_
            rintro e w1 ⟨u, rfl, hu, hb⟩
            exact ⟨u, rfl, hK.out _ _ hb (fun w2 h2 => hu) (fun h => absurd h (by decide))⟩
          refine AllOps.cons (Does.lets (g := 10) (d := 29) (t := false) rfl (by kernel_rfl) (by kernel_rfl) (fun vq wq h => h wq (Grows.refl wq)) fun lq aq wq hk hr K hK => ?_) ?_
          · obtain ⟨v15, E15, -, r15⟩ := hk.dep hr 15 34 (by kernel_rfl) (by kernel_rfl)
            replace E15 : ev aq (.tmp 34) = .int .i64 k3 := E15.trans (r15 wq (Grows.refl wq))
            exact wp_of_value (by first | (go_simp; done) | (go_simp; omega)) (hK.out _ _ (Grows.refl _) (fun w2 h2 => rfl) (fun h => absurd h (by decide)))
          refine AllOps.cons (Does.plain rfl fun lq aq wq hk hr K hK => ?_) ?_
          · obtain ⟨v10, E10, -, r10⟩ := hk.dep hr 10 29 (by kernel_rfl) (by kernel_rfl)
            replace E10 : ev aq (.tmp 29) = .bool false := E10.trans (r10 wq (Grows.refl wq))
            obtain ⟨v16, E16, -, r16⟩ := hk.dep hr 16 35 (by kernel_rfl) (by kernel_rfl)
            replace E16 : ev aq (.tmp 35) = .bool false := E16.trans (r16 wq (Grows.refl wq))
            exact wp_of_value (by go_simp) (hK.out _ _ (Grows.refl _) (fun w2 h2 => rfl) (fun h => absurd h (by decide)))
          refine AllOps.cons (Does.plain rfl fun lq aq wq hk hr K hK => ?_) ?_
          · obtain ⟨v17, E17, -, r17⟩ := hk.dep hr 17 36 (by kernel_rfl) (by kernel_rfl)
            replace E17 : ev aq (.tmp 36) = .bool false := E17.trans (r17 wq (Grows.refl wq))
            exact wp_of_value (by go_simp) (hK.out _ _ (Grows.refl _) (fun w2 h2 => rfl) (fun h => absurd h (by decide)))
          refine AllOps.cons (Does.lets (g := 18) (d := 37) (t := false) rfl (by kernel_rfl) (by kernel_rfl) (fun vq wq h => h wq (Grows.refl wq)) fun lq aq wq hk hr K hK => ?_) ?_
          · have B6 : ev aq (.tmp 6) = .pointer (some ⟨bu, 0, none⟩) := hk.base 6 (by kernel_rfl) rfl
            have hb : Below _ _ _ := hk.ext
            exact wp_of_value (op_load3 6 _ B6 (Du.out.below hb)) (hK.out _ _ (Grows.refl _) (fun w2 h2 => RV.grow ⟨_, _, _, _, _, _, _, rfl, (SNu.out.below hb), (SDu.out.below hb), hdu⟩ h2) (fun h => absurd h (by decide)))
          refine AllOps.cons (Does.lets (g := 18) (d := 37) (t := false) rfl (by kernel_rfl) (by kernel_rfl) (fun vq wq h => h wq (Grows.refl wq)) fun lq aq wq hk hr K hK => ?_) ?_
          · have B2 : ev aq (.tmp 2) = .pointer (some ⟨w.heap.size, 0, none⟩) := hk.base 2 (by kernel_rfl) rfl
            have hb : Below _ _ _ := hk.ext
            exact wp_of_value (op_load3 2 _ B2 (D0.out.below hb)) (hK.out _ _ (Grows.refl _) (fun w2 h2 => QL.grow ⟨_, _, _, _, rfl, (SN0.out.below hb), (SD0.out.below hb), hlm3, hmm3⟩ h2) (fun h => absurd h (by decide)))
          refine AllOps.cons (Does.lets (g := 18) (d := 37) (t := false) rfl (by kernel_rfl) (by kernel_rfl) (fun vq wq h => h wq (Grows.refl wq)) fun lq aq wq hk hr K hK => ?_) ?_
          · obtain ⟨v19, E19, -, r19⟩ := hk.dep hr 19 38 (by kernel_rfl) (by kernel_rfl)
            have r19 : RV wq v19 ((((qup a) : Int) : Rat)) := r19 wq (Grows.refl wq)
            obtain ⟨v20, E20, -, r20⟩ := hk.dep hr 20 39 (by kernel_rfl) (by kernel_rfl)
            have r20 : QL wq v20 nP0 fP0 gP0 := r20 wq (Grows.refl wq)
            refine wp_of_call (f := 24) (vs := #[v19, v20]) (by go_simp) (qsub_v wq (r19).qv ((r20).qv.to hq0) ((Qsz.int (hs0.up) (by decide)).mono (by decide)) (hs0.mono (by decide))) ?_
            rintro e w1 ⟨u, rfl, hu, hb⟩
            exact ⟨u, rfl, hK.out _ _ hb (fun w2 h2 => (hu).grow h2) (fun h => absurd h (by decide))⟩
          refine AllOps.cons (Does.lets (g := 18) (d := 37) (t := false) rfl (by kernel_rfl) (by kernel_rfl) (fun vq wq h => h wq (Grows.refl wq)) fun lq aq wq hk hr K hK => ?_) ?_
          · refine wp_of_call (f := 40) (vs := #[.int .i64 1]) (by go_simp) (rfrom_v wq 1 (by decide) (by decide)) ?_
            rintro e w1 ⟨u, rfl, hu, hb⟩
            exact ⟨u, rfl, hK.out _ _ hb (fun w2 h2 => (hu).grow h2) (fun h => absurd h (by decide))⟩
          refine AllOps.cons (Does.lets (g := 18) (d := 37) (t := false) rfl (by kernel_rfl) (by kernel_rfl) (fun vq wq h => h wq (Grows.refl wq)) fun lq aq wq hk hr K hK => ?_) ?_
          · obtain ⟨v21, E21, -, r21⟩ := hk.dep hr 21 40 (by kernel_rfl) (by kernel_rfl)
            have r21 : RV wq v21 (((((qup a) : Int) : Rat) - a)) := r21 wq (Grows.refl wq)
            obtain ⟨v22, E22, -, r22⟩ := hk.dep hr 22 41 (by kernel_rfl) (by kernel_rfl)
            have r22 : RV wq v22 (((1 : Int) : Rat)) := r22 wq (Grows.refl wq)
            refine wp_of_call (f := 28) (vs := #[v21, v22]) (by go_simp) (qcmp_v wq (r21).qv (r22).qv (((Qsz.int (hs0.up) (by decide)).sub hs0).mono (by decide)) ((Qsz.int (szz_i64 (by decide) (by decide)) (by decide)).mono (by decide)) (k := k4) h4.out) ?_
            rintro e w1 ⟨u, rfl, hu, hb⟩
            exact ⟨u, rfl, hK.out _ _ hb (fun w2 h2 => hu) (fun h => absurd h (by decide))⟩
          refine AllOps.cons (Does.lets (g := 18) (d := 37) (t := false) rfl (by kernel_rfl) (by kernel_rfl) (fun vq wq h => h wq (Grows.refl wq)) fun lq aq wq hk hr K hK => ?_) ?_
          · obtain ⟨v23, E23, -, r23⟩ := hk.dep hr 23 42 (by kernel_rfl) (by kernel_rfl)
            replace E23 : ev aq (.tmp 42) = .int .i64 k4 := E23.trans (r23 wq (Grows.refl wq))
            exact wp_of_value (by first | (go_simp; done) | (go_simp; omega)) (hK.out _ _ (Grows.refl _) (fun w2 h2 => rfl) (fun h => absurd h (by decide)))
          refine AllOps.cons (Does.plain rfl fun lq aq wq hk hr K hK => ?_) ?_
          · obtain ⟨v18, E18, -, r18⟩ := hk.dep hr 18 37 (by kernel_rfl) (by kernel_rfl)
            replace E18 : ev aq (.tmp 37) = .bool false := E18.trans (r18 wq (Grows.refl wq))
            obtain ⟨v24, E24, -, r24⟩ := hk.dep hr 24 43 (by kernel_rfl) (by kernel_rfl)
            replace E24 : ev aq (.tmp 43) = .bool false := E24.trans (r24 wq (Grows.refl wq))
            exact wp_of_value (by go_simp) (hK.out _ _ (Grows.refl _) (fun w2 h2 => rfl) (fun h => absurd h (by decide)))
          exact AllOps.nil
        case fin =>
          intro V x9 hG hV hap
          have r6 : RV x9 (V 6) ((((qup a) : Int) : Rat)) := hV 6 (by decide)
          have r25 : (V 25) = .bool false := hV 25 (by decide)
          clear hV hap
          simp only [List.take_succ_cons, List.take_nil, List.drop_succ_cons, List.drop_nil, putAll, Act.put, List.setIfInBounds_toArray, List.set_cons_zero, List.set_cons_succ]
          have hb := (show Below _ _ _ from hG)
          replace D0 := Lib.hid (D0.out.below hb)
          replace SN0 := Lib.hid (SN0.out.below hb)
          replace SD0 := Lib.hid (SD0.out.below hb)
          replace D1 := Lib.hid (D1.out.below hb)
          replace SN1 := Lib.hid (SN1.out.below hb)
          replace SD1 := Lib.hid (SD1.out.below hb)
          replace Dd := Lib.hid (Dd.out.below hb)
          replace SNd := Lib.hid (SNd.out.below hb)
          replace SDd := Lib.hid (SDd.out.below hb)
          replace Du := Lib.hid (Du.out.below hb)
          replace SNu := Lib.hid (SNu.out.below hb)
          replace SDu := Lib.hid (SDu.out.below hb)
          replace HB := Lib.hid (HB.out.trans (Below.mono hb HB.out.size))
          clear hb hG
          rw [r25]
          clear r25 h1 h2 h3 h4 b1 b2 b3 b4
          obtain ⟨t, ht⟩ : ∃ t, decide (a.den = 1) = t := ⟨_, rfl⟩
          have ht2 := Lib.hid ((down_up a).trans ht)
          replace ht := Lib.hid ht
          go_upto_region 7 with fail
          refine wp_region_going 19 [] ([fun vq wq => RV wq vq ((((Rat.floor a) : Int) : Rat)),
              fun vq wq => RV wq vq ((((qup a) : Int) : Rat)),
              fun vq _ => vq = .bool t,
              fun vq wq => QL wq vq nP0 fP0 gP0,
              fun vq _ => vq = .bool t,
              fun vq _ => vq = .bool false,
              fun vq _ => vq = .bool false,
              fun vq wq => RV wq vq ((((Rat.floor a) : Int) : Rat)),
              fun vq _ => vq = .bool true,
              fun vq _ => vq = .bool false,
              fun vq _ => vq = .bool false,
              fun vq _ => vq = .bool false,
              fun vq wq => RV wq vq ((((qup a) : Int) : Rat)),
              fun vq wq => ZV wq vq ((Rat.floor ((((qup a) : Int) : Rat)))),
              fun vq wq => RV wq vq ((((Rat.floor ((((qup a) : Int) : Rat))) : Int) : Rat)),
              fun vq wq => RV wq vq ((((qup a) : Int) : Rat)),
              fun vq _ => vq = .bool true,
              fun vq _ => vq = .bool false,
              fun vq _ => vq = .bool false]) (by kernel_rfl) (by kernel_rfl) (by decide) (by kernel_rfl) (by kernel_rfl) ?hF ?steps ?fin
          case hF =>
            intro j hj; cases hj
          case steps =>
            refine AllOps.cons (Does.plain rfl fun lq aq wq hk hr K hK => ?_) ?_
            · have B5 : ev aq (.tmp 5) = .pointer (some ⟨bd, 0, none⟩) := hk.base 5 (by kernel_rfl) rfl
              have hb := grows_of hk.ext
              exact wp_of_value (op_load3 5 _ B5 (Dd.out.below hb)) (hK.out _ _ (Grows.refl _) (fun w2 h2 => RV.grow ⟨_, _, _, _, _, _, _, rfl, (SNd.out.below hb), (SDd.out.below hb), hdd⟩ h2) (fun h => absurd h (by decide)))
            refine AllOps.cons (Does.plain rfl fun lq aq wq hk hr K hK => ?_) ?_
            · have B6 : ev aq (.tmp 6) = .pointer (some ⟨bu, 0, none⟩) := hk.base 6 (by kernel_rfl) rfl
              have hb := grows_of hk.ext
              exact wp_of_value (op_load3 6 _ B6 (Du.out.below hb)) (hK.out _ _ (Grows.refl _) (fun w2 h2 => RV.grow ⟨_, _, _, _, _, _, _, rfl, (SNu.out.below hb), (SDu.out.below hb), hdu⟩ h2) (fun h => absurd h (by decide)))
            refine AllOps.cons (Does.plain rfl fun lq aq wq hk hr K hK => ?_) ?_
            · obtain ⟨v0, E0, -, r0⟩ := hk.dep hr 0 45 (by kernel_rfl) (by kernel_rfl)
              have r0 : RV wq v0 ((((Rat.floor a) : Int) : Rat)) := r0 wq (Grows.refl wq)
              obtain ⟨v1, E1, -, r1⟩ := hk.dep hr 1 46 (by kernel_rfl) (by kernel_rfl)
              have r1 : RV wq v1 ((((qup a) : Int) : Rat)) := r1 wq (Grows.refl wq)
              refine wp_of_call (f := 15) (vs := #[v0, v1]) (by go_simp) (lsameR_v wq r0 r1 (t := t) ht2.out) ?_
              rintro e w1 ⟨u, rfl, hu, hb⟩
              exact ⟨u, rfl, hK.out _ _ hb (fun w2 h2 => hu) (fun h => absurd h (by decide))⟩
            refine AllOps.cons (Does.plain rfl fun lq aq wq hk hr K hK => ?_) ?_
            · have B2 : ev aq (.tmp 2) = .pointer (some ⟨w.heap.size, 0, none⟩) := hk.base 2 (by kernel_rfl) rfl
              have hb := grows_of hk.ext
              exact wp_of_value (op_load3 2 _ B2 (D0.out.below hb)) (hK.out _ _ (Grows.refl _) (fun w2 h2 => QL.grow ⟨_, _, _, _, rfl, (SN0.out.below hb), (SD0.out.below hb), hlm3, hmm3⟩ h2) (fun h => absurd h (by decide)))
            refine AllOps.cons (Does.plain rfl fun lq aq wq hk hr K hK => ?_) ?_
            · obtain ⟨v3, E3, -, r3⟩ := hk.dep hr 3 48 (by kernel_rfl) (by kernel_rfl)
              have r3 : QL wq v3 nP0 fP0 gP0 := r3 wq (Grows.refl wq)
              refine wp_of_call (f := 43) (vs := #[v3]) (by go_simp) (qwhole_v wq ((r3).qv.to hq0) (t := t) ht.out) ?_
              rintro e w1 ⟨u, rfl, hu, hb⟩
              exact ⟨u, rfl, hK.out _ _ hb (fun w2 h2 => hu) (fun h => absurd h (by decide))⟩
            refine AllOps.cons (Does.plain rfl fun lq aq wq hk hr K hK => ?_) ?_
            · obtain ⟨v2, E2, -, r2⟩ := hk.dep hr 2 47 (by kernel_rfl) (by kernel_rfl)
              replace E2 : ev aq (.tmp 47) = .bool t := E2.trans (r2 wq (Grows.refl wq))
              obtain ⟨v4, E4, -, r4⟩ := hk.dep hr 4 49 (by kernel_rfl) (by kernel_rfl)
              replace E4 : ev aq (.tmp 49) = .bool t := E4.trans (r4 wq (Grows.refl wq))
              exact wp_of_value (by go_simp) (hK.out _ _ (Grows.refl _) (fun w2 h2 => rfl) (fun h => absurd h (by decide)))
            refine AllOps.cons (Does.plain rfl fun lq aq wq hk hr K hK => ?_) ?_
            · obtain ⟨v5, E5, -, r5⟩ := hk.dep hr 5 50 (by kernel_rfl) (by kernel_rfl)
              replace E5 : ev aq (.tmp 50) = .bool false := E5.trans (r5 wq (Grows.refl wq))
              exact wp_of_value (by go_simp) (hK.out _ _ (Grows.refl _) (fun w2 h2 => rfl) (fun h => absurd h (by decide)))
            refine AllOps.cons (Does.lets (g := 6) (d := 51) (t := false) rfl (by kernel_rfl) (by kernel_rfl) (fun vq wq h => h wq (Grows.refl wq)) fun lq aq wq hk hr K hK => ?_) ?_
            · have B5 : ev aq (.tmp 5) = .pointer (some ⟨bd, 0, none⟩) := hk.base 5 (by kernel_rfl) rfl
              have hb := grows_of hk.ext
              exact wp_of_value (op_load3 5 _ B5 (Dd.out.below hb)) (hK.out _ _ (Grows.refl _) (fun w2 h2 => RV.grow ⟨_, _, _, _, _, _, _, rfl, (SNd.out.below hb), (SDd.out.below hb), hdd⟩ h2) (fun h => absurd h (by decide)))
            refine AllOps.cons (Does.lets (g := 6) (d := 51) (t := false) rfl (by kernel_rfl) (by kernel_rfl) (fun vq wq h => h wq (Grows.refl wq)) fun lq aq wq hk hr K hK => ?_) ?_
            · obtain ⟨v7, E7, -, r7⟩ := hk.dep hr 7 52 (by kernel_rfl) (by kernel_rfl)
              have r7 : RV wq v7 ((((Rat.floor a) : Int) : Rat)) := r7 wq (Grows.refl wq)
              refine wp_of_call (f := 43) (vs := #[v7]) (by go_simp) (qwhole_v wq (r7).qv (t := true) (decide_eq_true rfl)) ?_
              rintro e w1 ⟨u, rfl, hu, hb⟩
              exact ⟨u, rfl, hK.out _ _ hb (fun w2 h2 => hu) (fun h => absurd h (by decide))⟩
            refine AllOps.cons (Does.lets (g := 6) (d := 51) (t := false) rfl (by kernel_rfl) (by kernel_rfl) (fun vq wq h => h wq (Grows.refl wq)) fun lq aq wq hk hr K hK => ?_) ?_
            · obtain ⟨v8, E8, -, r8⟩ := hk.dep hr 8 53 (by kernel_rfl) (by kernel_rfl)
              replace E8 : ev aq (.tmp 53) = .bool true := E8.trans (r8 wq (Grows.refl wq))
              exact wp_of_value (by go_simp) (hK.out _ _ (Grows.refl _) (fun w2 h2 => rfl) (fun h => absurd h (by decide)))
            refine AllOps.cons (Does.plain rfl fun lq aq wq hk hr K hK => ?_) ?_
            · obtain ⟨v6, E6, -, r6⟩ := hk.dep hr 6 51 (by kernel_rfl) (by kernel_rfl)
              replace E6 : ev aq (.tmp 51) = .bool false := E6.trans (r6 wq (Grows.refl wq))
              obtain ⟨v9, E9, -, r9⟩ := hk.dep hr 9 54 (by kernel_rfl) (by kernel_rfl)
              replace E9 : ev aq (.tmp 54) = .bool false := E9.trans (r9 wq (Grows.refl wq))
              exact wp_of_value (by go_simp) (hK.out _ _ (Grows.refl _) (fun w2 h2 => rfl) (fun h => absurd h (by decide)))
            refine AllOps.cons (Does.plain rfl fun lq aq wq hk hr K hK => ?_) ?_
            · obtain ⟨v10, E10, -, r10⟩ := hk.dep hr 10 55 (by kernel_rfl) (by kernel_rfl)
              replace E10 : ev aq (.tmp 55) = .bool false := E10.trans (r10 wq (Grows.refl wq))
              exact wp_of_value (by go_simp) (hK.out _ _ (Grows.refl _) (fun w2 h2 => rfl) (fun h => absurd h (by decide)))
            refine AllOps.cons (Does.lets (g := 11) (d := 56) (t := false) rfl (by kernel_rfl) (by kernel_rfl) (fun vq wq h => h wq (Grows.refl wq)) fun lq aq wq hk hr K hK => ?_) ?_
            · have B6 : ev aq (.tmp 6) = .pointer (some ⟨bu, 0, none⟩) := hk.base 6 (by kernel_rfl) rfl
              have hb := grows_of hk.ext
              exact wp_of_value (op_load3 6 _ B6 (Du.out.below hb)) (hK.out _ _ (Grows.refl _) (fun w2 h2 => RV.grow ⟨_, _, _, _, _, _, _, rfl, (SNu.out.below hb), (SDu.out.below hb), hdu⟩ h2) (fun h => absurd h (by decide)))
            refine AllOps.cons (Does.lets (g := 11) (d := 56) (t := false) rfl (by kernel_rfl) (by kernel_rfl) (fun vq wq h => h wq (Grows.refl wq)) fun lq aq wq hk hr K hK => ?_) ?_
            · obtain ⟨v12, E12, -, r12⟩ := hk.dep hr 12 57 (by kernel_rfl) (by kernel_rfl)
              have r12 : RV wq v12 ((((qup a) : Int) : Rat)) := r12 wq (Grows.refl wq)
              refine wp_of_call (f := 33) (vs := #[v12]) (by go_simp) (qfloor_v wq (r12).qv ((Qsz.int (hs0.up) (by decide)).mono (by decide)).floor) ?_
              rintro e w1 ⟨u, rfl, hu, hb⟩
              exact ⟨u, rfl, hK.out _ _ hb (fun w2 h2 => (hu).grow h2) (fun h => absurd h (by decide))⟩
            refine AllOps.cons (Does.lets (g := 11) (d := 56) (t := false) rfl (by kernel_rfl) (by kernel_rfl) (fun vq wq h => h wq (Grows.refl wq)) fun lq aq wq hk hr K hK => ?_) ?_
            · obtain ⟨v13, E13, -, r13⟩ := hk.dep hr 13 58 (by kernel_rfl) (by kernel_rfl)
              have r13 : ZV wq v13 ((Rat.floor ((((qup a) : Int) : Rat)))) := r13 wq (Grows.refl wq)
              refine wp_of_call (f := 45) (vs := #[v13]) (by go_simp) (int_v wq (r13).wv) ?_
              rintro e w1 ⟨u, rfl, hu, hb⟩
              exact ⟨u, rfl, hK.out _ _ hb (fun w2 h2 => (hu).grow h2) (fun h => absurd h (by decide))⟩
            refine AllOps.cons (Does.lets (g := 11) (d := 56) (t := false) rfl (by kernel_rfl) (by kernel_rfl) (fun vq wq h => h wq (Grows.refl wq)) fun lq aq wq hk hr K hK => ?_) ?_
            · have B6 : ev aq (.tmp 6) = .pointer (some ⟨bu, 0, none⟩) := hk.base 6 (by kernel_rfl) rfl
              have hb := grows_of hk.ext
              exact wp_of_value (op_load3 6 _ B6 (Du.out.below hb)) (hK.out _ _ (Grows.refl _) (fun w2 h2 => RV.grow ⟨_, _, _, _, _, _, _, rfl, (SNu.out.below hb), (SDu.out.below hb), hdu⟩ h2) (fun h => absurd h (by decide)))
            refine AllOps.cons (Does.lets (g := 11) (d := 56) (t := false) rfl (by kernel_rfl) (by kernel_rfl) (fun vq wq h => h wq (Grows.refl wq)) fun lq aq wq hk hr K hK => ?_) ?_
            · obtain ⟨v14, E14, -, r14⟩ := hk.dep hr 14 59 (by kernel_rfl) (by kernel_rfl)
              have r14 : RV wq v14 ((((Rat.floor ((((qup a) : Int) : Rat))) : Int) : Rat)) := r14 wq (Grows.refl wq)
              obtain ⟨v15, E15, -, r15⟩ := hk.dep hr 15 60 (by kernel_rfl) (by kernel_rfl)
              have r15 : RV wq v15 ((((qup a) : Int) : Rat)) := r15 wq (Grows.refl wq)
              refine wp_of_call (f := 15) (vs := #[v14, v15]) (by go_simp) (lsameR_v wq r14 r15 (t := true) (decide_eq_true (congrArg (fun z : Int => (z : Rat)) (up_floor a)))) ?_
              rintro e w1 ⟨u, rfl, hu, hb⟩
              exact ⟨u, rfl, hK.out _ _ hb (fun w2 h2 => hu) (fun h => absurd h (by decide))⟩
            refine AllOps.cons (Does.lets (g := 11) (d := 56) (t := false) rfl (by kernel_rfl) (by kernel_rfl) (fun vq wq h => h wq (Grows.refl wq)) fun lq aq wq hk hr K hK => ?_) ?_
            · obtain ⟨v16, E16, -, r16⟩ := hk.dep hr 16 61 (by kernel_rfl) (by kernel_rfl)
              replace E16 : ev aq (.tmp 61) = .bool true := E16.trans (r16 wq (Grows.refl wq))
              exact wp_of_value (by go_simp) (hK.out _ _ (Grows.refl _) (fun w2 h2 => rfl) (fun h => absurd h (by decide)))
            refine AllOps.cons (Does.plain rfl fun lq aq wq hk hr K hK => ?_) ?_
            · obtain ⟨v11, E11, -, r11⟩ := hk.dep hr 11 56 (by kernel_rfl) (by kernel_rfl)
              replace E11 : ev aq (.tmp 56) = .bool false := E11.trans (r11 wq (Grows.refl wq))
              obtain ⟨v17, E17, -, r17⟩ := hk.dep hr 17 62 (by kernel_rfl) (by kernel_rfl)
              replace E17 : ev aq (.tmp 62) = .bool false := E17.trans (r17 wq (Grows.refl wq))
              exact wp_of_value (by go_simp) (hK.out _ _ (Grows.refl _) (fun w2 h2 => rfl) (fun h => absurd h (by decide)))
            exact AllOps.nil
          case fin =>
            intro V x10 hG hV hap
            have r18 : (V 18) = .bool false := hV 18 (by decide)
            clear hV hap
            simp only [List.take_succ_cons, List.take_nil, List.drop_succ_cons, List.drop_nil, putAll, Act.put, List.setIfInBounds_toArray, List.set_cons_zero, List.set_cons_succ]
            have hb := grows_of hG
            replace D0 := Lib.hid (D0.out.below hb)
            replace SN0 := Lib.hid (SN0.out.below hb)
            replace SD0 := Lib.hid (SD0.out.below hb)
            replace D1 := Lib.hid (D1.out.below hb)
            replace SN1 := Lib.hid (SN1.out.below hb)
            replace SD1 := Lib.hid (SD1.out.below hb)
            replace Dd := Lib.hid (Dd.out.below hb)
            replace SNd := Lib.hid (SNd.out.below hb)
            replace SDd := Lib.hid (SDd.out.below hb)
            replace Du := Lib.hid (Du.out.below hb)
            replace SNu := Lib.hid (SNu.out.below hb)
            replace SDu := Lib.hid (SDu.out.below hb)
            replace HB := Lib.hid (HB.out.trans (Below.mono hb HB.out.size))
            clear hb hG
            rw [r18]
            clear r18
            obtain ⟨k, hkc⟩ : ∃ k, qs (a - b) = k := ⟨_, rfl⟩
            rcases Int.lt_or_le 0 k with hk0 | hk0
            · skip
              replace hkc := Lib.hid hkc
              go_upto_region 9 with fail
              refine wp_region_going 12 [] ([fun vq wq => QL wq vq nP0 fP0 gP0,
                  fun vq wq => QL wq vq nP1 fP1 gP1,
                  fun vq _ => vq = .int .i64 k,
                  fun vq _ => vq = .bool true,
                  fun vq _ => vq = .bool true,
                  fun vq _ => vq = undef,
                  fun vq _ => vq = undef,
                  fun vq _ => vq = undef,
                  fun vq _ => vq = undef,
                  fun vq _ => vq = undef,
                  fun vq _ => vq = undef,
                  fun vq _ => vq = .bool true]) (by kernel_rfl) (by kernel_rfl) (by decide) (by kernel_rfl) (by kernel_rfl) ?hF ?steps ?fin
              case hF =>
                intro j hj; cases hj
              case steps =>
                refine AllOps.cons (Does.plain rfl fun lq aq wq hk hr K hK => ?_) ?_
                · have B2 : ev aq (.tmp 2) = .pointer (some ⟨w.heap.size, 0, none⟩) := hk.base 2 (by kernel_rfl) rfl
                  have hb := grows_of hk.ext
                  exact wp_of_value (op_load3 2 _ B2 (D0.out.below hb)) (hK.out _ _ (Grows.refl _) (fun w2 h2 => QL.grow ⟨_, _, _, _, rfl, (SN0.out.below hb), (SD0.out.below hb), hlm3, hmm3⟩ h2) (fun h => absurd h (by decide)))
                refine AllOps.cons (Does.plain rfl fun lq aq wq hk hr K hK => ?_) ?_
                · have B3 : ev aq (.tmp 3) = .pointer (some ⟨w.heap.size + 1, 0, none⟩) := hk.base 3 (by kernel_rfl) rfl
                  have hb := grows_of hk.ext
                  exact wp_of_value (op_load3 3 _ B3 (D1.out.below hb)) (hK.out _ _ (Grows.refl _) (fun w2 h2 => QL.grow ⟨_, _, _, _, rfl, (SN1.out.below hb), (SD1.out.below hb), hlm4, hmm4⟩ h2) (fun h => absurd h (by decide)))
                refine AllOps.cons (Does.plain rfl fun lq aq wq hk hr K hK => ?_) ?_
                · obtain ⟨v0, E0, -, r0⟩ := hk.dep hr 0 64 (by kernel_rfl) (by kernel_rfl)
                  have r0 : QL wq v0 nP0 fP0 gP0 := r0 wq (Grows.refl wq)
                  obtain ⟨v1, E1, -, r1⟩ := hk.dep hr 1 65 (by kernel_rfl) (by kernel_rfl)
                  have r1 : QL wq v1 nP1 fP1 gP1 := r1 wq (Grows.refl wq)
                  refine wp_of_call (f := 28) (vs := #[v0, v1]) (by go_simp) (qcmp_v wq ((r0).qv.to hq0) ((r1).qv.to hq1) (hs0.mono (by decide)) (hs1.mono (by decide)) (k := k) hkc.out) ?_
                  rintro e w1 ⟨u, rfl, hu, hb⟩
                  exact ⟨u, rfl, hK.out _ _ hb (fun w2 h2 => hu) (fun h => absurd h (by decide))⟩
                refine AllOps.cons (Does.plain rfl fun lq aq wq hk hr K hK => ?_) ?_
                · obtain ⟨v2, E2, -, r2⟩ := hk.dep hr 2 66 (by kernel_rfl) (by kernel_rfl)
                  replace E2 : ev aq (.tmp 66) = .int .i64 k := E2.trans (r2 wq (Grows.refl wq))
                  exact wp_of_value (by first | (go_simp; done) | (go_simp; omega)) (hK.out _ _ (Grows.refl _) (fun w2 h2 => rfl) (fun h => absurd h (by decide)))
                refine AllOps.cons (Does.plain rfl fun lq aq wq hk hr K hK => ?_) ?_
                · obtain ⟨v3, E3, -, r3⟩ := hk.dep hr 3 67 (by kernel_rfl) (by kernel_rfl)
                  replace E3 : ev aq (.tmp 67) = .bool true := E3.trans (r3 wq (Grows.refl wq))
                  exact wp_of_value (by go_simp) (hK.out _ _ (Grows.refl _) (fun w2 h2 => rfl) (fun h => absurd h (by decide)))
                refine AllOps.cons (Does.bars (g := 4) (d := 68) (t := false) (u := true) rfl (by kernel_rfl) (by kernel_rfl) (fun vq wq h => h wq (Grows.refl wq)) (by decide) (fun _ _ _ => rfl) rfl) ?_
                refine AllOps.cons (Does.bars (g := 4) (d := 68) (t := false) (u := true) rfl (by kernel_rfl) (by kernel_rfl) (fun vq wq h => h wq (Grows.refl wq)) (by decide) (fun _ _ _ => rfl) rfl) ?_
                refine AllOps.cons (Does.bars (g := 4) (d := 68) (t := false) (u := true) rfl (by kernel_rfl) (by kernel_rfl) (fun vq wq h => h wq (Grows.refl wq)) (by decide) (fun _ _ _ => rfl) rfl) ?_
                refine AllOps.cons (Does.bars (g := 4) (d := 68) (t := false) (u := true) rfl (by kernel_rfl) (by kernel_rfl) (fun vq wq h => h wq (Grows.refl wq)) (by decide) (fun _ _ _ => rfl) rfl) ?_
                refine AllOps.cons (Does.bars (g := 4) (d := 68) (t := false) (u := true) rfl (by kernel_rfl) (by kernel_rfl) (fun vq wq h => h wq (Grows.refl wq)) (by decide) (fun _ _ _ => rfl) rfl) ?_
                refine AllOps.cons (Does.bars (g := 4) (d := 68) (t := false) (u := true) rfl (by kernel_rfl) (by kernel_rfl) (fun vq wq h => h wq (Grows.refl wq)) (by decide) (fun _ _ _ => rfl) rfl) ?_
                refine AllOps.cons (Does.plain rfl fun lq aq wq hk hr K hK => ?_) ?_
                · obtain ⟨v4, E4, -, r4⟩ := hk.dep hr 4 68 (by kernel_rfl) (by kernel_rfl)
                  replace E4 : ev aq (.tmp 68) = .bool true := E4.trans (r4 wq (Grows.refl wq))
                  exact wp_of_value (by go_simp) (hK.out _ _ (Grows.refl _) (fun w2 h2 => rfl) (fun h => absurd h (by decide)))
                exact AllOps.nil
              case fin =>
                intro V x11 hG hV hap
                have r11 : (V 11) = .bool true := hV 11 (by decide)
                clear hV hap
                simp only [List.take_succ_cons, List.take_zero, List.drop_succ_cons, List.drop_zero, putAll, Act.put, List.setIfInBounds_toArray, List.set_cons_zero, List.set_cons_succ]
                have hb := grows_of hG
                replace D0 := Lib.hid (D0.out.below hb)
                replace SN0 := Lib.hid (SN0.out.below hb)
                replace SD0 := Lib.hid (SD0.out.below hb)
                replace D1 := Lib.hid (D1.out.below hb)
                replace SN1 := Lib.hid (SN1.out.below hb)
                replace SD1 := Lib.hid (SD1.out.below hb)
                replace Dd := Lib.hid (Dd.out.below hb)
                replace SNd := Lib.hid (SNd.out.below hb)
                replace SDd := Lib.hid (SDd.out.below hb)
                replace Du := Lib.hid (Du.out.below hb)
                replace SNu := Lib.hid (SNu.out.below hb)
                replace SDu := Lib.hid (SDu.out.below hb)
                replace HB := Lib.hid (HB.out.trans (Below.mono hb HB.out.size))
                clear hb hG
                rw [r11]
                clear r11
                go_wp2_with fail
                go_ret
                exact ⟨rfl, HB.out⟩
            · skip
              obtain ⟨j, hj⟩ : ∃ j, qs ((a.floor : Rat) - (b.floor : Rat)) = j := ⟨_, rfl⟩
              have hj0 : j ≤ 0 := by rw [← hj]; exact floors (by rw [hkc]; exact hk0)
              replace hj := Lib.hid hj
              replace hkc := Lib.hid hkc
              go_upto_region 9 with fail
              refine wp_region_going 12 [] ([fun vq wq => QL wq vq nP0 fP0 gP0,
                  fun vq wq => QL wq vq nP1 fP1 gP1,
                  fun vq _ => vq = .int .i64 k,
                  fun vq _ => vq = .bool false,
                  fun vq _ => vq = .bool false,
                  fun vq wq => RV wq vq ((((Rat.floor a) : Int) : Rat)),
                  fun vq wq => QL wq vq nP1 fP1 gP1,
                  fun vq wq => ZV wq vq ((Rat.floor b)),
                  fun vq wq => RV wq vq ((((Rat.floor b) : Int) : Rat)),
                  fun vq _ => vq = .int .i64 j,
                  fun vq _ => vq = .bool true,
                  fun vq _ => vq = .bool true]) (by kernel_rfl) (by kernel_rfl) (by decide) (by kernel_rfl) (by kernel_rfl) ?hF ?steps ?fin
              case hF =>
                intro j hj; cases hj
              case steps =>
                refine AllOps.cons (Does.plain rfl fun lq aq wq hk hr K hK => ?_) ?_
                · have B2 : ev aq (.tmp 2) = .pointer (some ⟨w.heap.size, 0, none⟩) := hk.base 2 (by kernel_rfl) rfl
                  have hb := grows_of hk.ext
                  exact wp_of_value (op_load3 2 _ B2 (D0.out.below hb)) (hK.out _ _ (Grows.refl _) (fun w2 h2 => QL.grow ⟨_, _, _, _, rfl, (SN0.out.below hb), (SD0.out.below hb), hlm3, hmm3⟩ h2) (fun h => absurd h (by decide)))
                refine AllOps.cons (Does.plain rfl fun lq aq wq hk hr K hK => ?_) ?_
                · have B3 : ev aq (.tmp 3) = .pointer (some ⟨w.heap.size + 1, 0, none⟩) := hk.base 3 (by kernel_rfl) rfl
                  have hb := grows_of hk.ext
                  exact wp_of_value (op_load3 3 _ B3 (D1.out.below hb)) (hK.out _ _ (Grows.refl _) (fun w2 h2 => QL.grow ⟨_, _, _, _, rfl, (SN1.out.below hb), (SD1.out.below hb), hlm4, hmm4⟩ h2) (fun h => absurd h (by decide)))
                refine AllOps.cons (Does.plain rfl fun lq aq wq hk hr K hK => ?_) ?_
                · obtain ⟨v0, E0, -, r0⟩ := hk.dep hr 0 64 (by kernel_rfl) (by kernel_rfl)
                  have r0 : QL wq v0 nP0 fP0 gP0 := r0 wq (Grows.refl wq)
                  obtain ⟨v1, E1, -, r1⟩ := hk.dep hr 1 65 (by kernel_rfl) (by kernel_rfl)
                  have r1 : QL wq v1 nP1 fP1 gP1 := r1 wq (Grows.refl wq)
                  refine wp_of_call (f := 28) (vs := #[v0, v1]) (by go_simp) (qcmp_v wq ((r0).qv.to hq0) ((r1).qv.to hq1) (hs0.mono (by decide)) (hs1.mono (by decide)) (k := k) hkc.out) ?_
                  rintro e w1 ⟨u, rfl, hu, hb⟩
                  exact ⟨u, rfl, hK.out _ _ hb (fun w2 h2 => hu) (fun h => absurd h (by decide))⟩
                refine AllOps.cons (Does.plain rfl fun lq aq wq hk hr K hK => ?_) ?_
                · obtain ⟨v2, E2, -, r2⟩ := hk.dep hr 2 66 (by kernel_rfl) (by kernel_rfl)
                  replace E2 : ev aq (.tmp 66) = .int .i64 k := E2.trans (r2 wq (Grows.refl wq))
                  exact wp_of_value (by first | (go_simp; done) | (go_simp; omega)) (hK.out _ _ (Grows.refl _) (fun w2 h2 => rfl) (fun h => absurd h (by decide)))
                refine AllOps.cons (Does.plain rfl fun lq aq wq hk hr K hK => ?_) ?_
                · obtain ⟨v3, E3, -, r3⟩ := hk.dep hr 3 67 (by kernel_rfl) (by kernel_rfl)
                  replace E3 : ev aq (.tmp 67) = .bool false := E3.trans (r3 wq (Grows.refl wq))
                  exact wp_of_value (by go_simp) (hK.out _ _ (Grows.refl _) (fun w2 h2 => rfl) (fun h => absurd h (by decide)))
                refine AllOps.cons (Does.lets (g := 4) (d := 68) (t := false) rfl (by kernel_rfl) (by kernel_rfl) (fun vq wq h => h wq (Grows.refl wq)) fun lq aq wq hk hr K hK => ?_) ?_
                · have B5 : ev aq (.tmp 5) = .pointer (some ⟨bd, 0, none⟩) := hk.base 5 (by kernel_rfl) rfl
                  have hb := grows_of hk.ext
                  exact wp_of_value (op_load3 5 _ B5 (Dd.out.below hb)) (hK.out _ _ (Grows.refl _) (fun w2 h2 => RV.grow ⟨_, _, _, _, _, _, _, rfl, (SNd.out.below hb), (SDd.out.below hb), hdd⟩ h2) (fun h => absurd h (by decide)))
                refine AllOps.cons (Does.lets (g := 4) (d := 68) (t := false) rfl (by kernel_rfl) (by kernel_rfl) (fun vq wq h => h wq (Grows.refl wq)) fun lq aq wq hk hr K hK => ?_) ?_
                · have B3 : ev aq (.tmp 3) = .pointer (some ⟨w.heap.size + 1, 0, none⟩) := hk.base 3 (by kernel_rfl) rfl
                  have hb := grows_of hk.ext
                  exact wp_of_value (op_load3 3 _ B3 (D1.out.below hb)) (hK.out _ _ (Grows.refl _) (fun w2 h2 => QL.grow ⟨_, _, _, _, rfl, (SN1.out.below hb), (SD1.out.below hb), hlm4, hmm4⟩ h2) (fun h => absurd h (by decide)))
                refine AllOps.cons (Does.lets (g := 4) (d := 68) (t := false) rfl (by kernel_rfl) (by kernel_rfl) (fun vq wq h => h wq (Grows.refl wq)) fun lq aq wq hk hr K hK => ?_) ?_
                · obtain ⟨v6, E6, -, r6⟩ := hk.dep hr 6 70 (by kernel_rfl) (by kernel_rfl)
                  have r6 : QL wq v6 nP1 fP1 gP1 := r6 wq (Grows.refl wq)
                  refine wp_of_call (f := 33) (vs := #[v6]) (by go_simp) (qfloor_v wq ((r6).qv.to hq1) (hs1.mono (by decide)).floor) ?_
                  rintro e w1 ⟨u, rfl, hu, hb⟩
                  exact ⟨u, rfl, hK.out _ _ hb (fun w2 h2 => (hu).grow h2) (fun h => absurd h (by decide))⟩
                refine AllOps.cons (Does.lets (g := 4) (d := 68) (t := false) rfl (by kernel_rfl) (by kernel_rfl) (fun vq wq h => h wq (Grows.refl wq)) fun lq aq wq hk hr K hK => ?_) ?_
                · obtain ⟨v7, E7, -, r7⟩ := hk.dep hr 7 71 (by kernel_rfl) (by kernel_rfl)
                  have r7 : ZV wq v7 ((Rat.floor b)) := r7 wq (Grows.refl wq)
                  refine wp_of_call (f := 45) (vs := #[v7]) (by go_simp) (int_v wq (r7).wv) ?_
                  rintro e w1 ⟨u, rfl, hu, hb⟩
                  exact ⟨u, rfl, hK.out _ _ hb (fun w2 h2 => (hu).grow h2) (fun h => absurd h (by decide))⟩
                refine AllOps.cons (Does.lets (g := 4) (d := 68) (t := false) rfl (by kernel_rfl) (by kernel_rfl) (fun vq wq h => h wq (Grows.refl wq)) fun lq aq wq hk hr K hK => ?_) ?_
                · obtain ⟨v5, E5, -, r5⟩ := hk.dep hr 5 69 (by kernel_rfl) (by kernel_rfl)
                  have r5 : RV wq v5 ((((Rat.floor a) : Int) : Rat)) := r5 wq (Grows.refl wq)
                  obtain ⟨v8, E8, -, r8⟩ := hk.dep hr 8 72 (by kernel_rfl) (by kernel_rfl)
                  have r8 : RV wq v8 ((((Rat.floor b) : Int) : Rat)) := r8 wq (Grows.refl wq)
                  refine wp_of_call (f := 28) (vs := #[v5, v8]) (by go_simp) (qcmp_v wq (r5).qv (r8).qv ((Qsz.int (hs0.floor) (by decide)).mono (by decide)) ((Qsz.int (hs1.floor) (by decide)).mono (by decide)) (k := j) hj.out) ?_
                  rintro e w1 ⟨u, rfl, hu, hb⟩
                  exact ⟨u, rfl, hK.out _ _ hb (fun w2 h2 => hu) (fun h => absurd h (by decide))⟩
                refine AllOps.cons (Does.lets (g := 4) (d := 68) (t := false) rfl (by kernel_rfl) (by kernel_rfl) (fun vq wq h => h wq (Grows.refl wq)) fun lq aq wq hk hr K hK => ?_) ?_
                · obtain ⟨v9, E9, -, r9⟩ := hk.dep hr 9 73 (by kernel_rfl) (by kernel_rfl)
                  replace E9 : ev aq (.tmp 73) = .int .i64 j := E9.trans (r9 wq (Grows.refl wq))
                  exact wp_of_value (by first | (go_simp; done) | (go_simp; omega)) (hK.out _ _ (Grows.refl _) (fun w2 h2 => rfl) (fun h => absurd h (by decide)))
                refine AllOps.cons (Does.plain rfl fun lq aq wq hk hr K hK => ?_) ?_
                · obtain ⟨v4, E4, -, r4⟩ := hk.dep hr 4 68 (by kernel_rfl) (by kernel_rfl)
                  replace E4 : ev aq (.tmp 68) = .bool false := E4.trans (r4 wq (Grows.refl wq))
                  obtain ⟨v10, E10, -, r10⟩ := hk.dep hr 10 74 (by kernel_rfl) (by kernel_rfl)
                  replace E10 : ev aq (.tmp 74) = .bool true := E10.trans (r10 wq (Grows.refl wq))
                  exact wp_of_value (by go_simp) (hK.out _ _ (Grows.refl _) (fun w2 h2 => rfl) (fun h => absurd h (by decide)))
                exact AllOps.nil
              case fin =>
                intro V x11 hG hV hap
                have r11 : (V 11) = .bool true := hV 11 (by decide)
                clear hV hap
                simp only [List.take_succ_cons, List.take_zero, List.drop_succ_cons, List.drop_zero, putAll, Act.put, List.setIfInBounds_toArray, List.set_cons_zero, List.set_cons_succ]
                have hb := grows_of hG
                replace D0 := Lib.hid (D0.out.below hb)
                replace SN0 := Lib.hid (SN0.out.below hb)
                replace SD0 := Lib.hid (SD0.out.below hb)
                replace D1 := Lib.hid (D1.out.below hb)
                replace SN1 := Lib.hid (SN1.out.below hb)
                replace SD1 := Lib.hid (SD1.out.below hb)
                replace Dd := Lib.hid (Dd.out.below hb)
                replace SNd := Lib.hid (SNd.out.below hb)
                replace SDd := Lib.hid (SDd.out.below hb)
                replace Du := Lib.hid (Du.out.below hb)
                replace SNu := Lib.hid (SNu.out.below hb)
                replace SDu := Lib.hid (SDu.out.below hb)
                replace HB := Lib.hid (HB.out.trans (Below.mono hb HB.out.size))
                clear hb hG
                rw [r11]
                clear r11
                go_wp2_with fail
                go_ret
                exact ⟨rfl, HB.out⟩
end Go.Proofs.YtbippecchpaleaaGreatDoor
