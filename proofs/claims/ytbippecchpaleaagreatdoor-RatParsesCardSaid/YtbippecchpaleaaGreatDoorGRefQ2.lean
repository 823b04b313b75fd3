import Derived.Test.YtbippecchpaleaaGreatDoorGRefQ1
/- litmusref03.Of: what it returns. -/
namespace Go.Num
open Go Go.RowKit Go.Kp
theorem of_up {x y : Int} (hy : y ≠ 0) : sg (decide (x < 0) != decide (y < 0)) (x.natAbs / x.natAbs.gcd y.natAbs) = (Rat.divInt x y).num := by
  have hn : y.natAbs ≠ 0 := by omega
  rcases Int.lt_or_lt_of_ne hy with h | h
  · rw [← divInt_neg' h, ← reduce_up hn, Int.natAbs_neg, decide_eq_true h]
    rcases Int.lt_trichotomy x 0 with h1 | h1 | h1
    · rw [decide_eq_true h1, decide_eq_false (by omega)]; rfl
    · subst h1; simp [sg_zero]
    · rw [decide_eq_false (by omega), decide_eq_true (by omega)]; rfl
  · rw [← divInt_pos h, ← reduce_up hn, decide_eq_false (show ¬ y < 0 by omega)]
    cases decide (x < 0) <;> rfl
theorem of_down {x y : Int} (hy : y ≠ 0) : y.natAbs / x.natAbs.gcd y.natAbs = (Rat.divInt x y).den := by
  have hn : y.natAbs ≠ 0 := by omega
  rcases Int.lt_or_lt_of_ne hy with h | h
  · rw [← divInt_neg' h, ← reduce_down hn, Int.natAbs_neg]
  · rw [← divInt_pos h, ← reduce_down hn]
end Go.Num
namespace Go.Proofs.YtbippecchpaleaaGreatDoor
open Go.RowKit Go.Num Go.Kp
attribute [local go_sem] Oper.semAt_some u64_mask ev_const ev_func ev_global
set_option maxHeartbeats 16000000 in
set_option maxRecDepth 100000 in
theorem rof_v (w : World) {u v : Value} {x y : Int} (h0 : WV w u x) (h1 : WV w v y) (hy : y ≠ 0) : Calls Tryz.prog 44 #[u, v] w fun e w' => ∃ r, e = .returned r ∧ RV w' r (Rat.divInt x y) ∧ Grows w w' := by
  obtain ⟨n0, A0, k0, c0, rfl, s0⟩ := h0
  have hk0 : szz x ≤ 1000 := s0.size
  obtain ⟨n1, A1, k1, c1, rfl, s1⟩ := h1
  have hk1 : szz y ≤ 1000 := s1.size
  go_enter Tryz.func44, Tryz.ntmps44
  go_upto_region 1 with fail
  obtain ⟨x0, ex0, HB, D0, D1, DR⟩ := st_223 w 24 (.bool n0) (.slice A0 k0 c0) 24 (.bool n1) (.slice A1 k1 c1) 26 (.bool false) (.slice none 0 0) (.slice none 0 0)
  rw [ex0]
  clear ex0
  replace HB := Lib.hid HB
  replace D0 := Lib.hid D0
  replace D1 := Lib.hid D1
  replace DR := Lib.hid DR
  have SN0 := Lib.hid (s0.below HB.out)
  clear s0
  have SN1 := Lib.hid (s1.below HB.out)
  clear s1
  refine wp_region_calm 2 [] ([fun vq wq => WV wq vq x,
      fun vq wq => ZV wq vq x]) (by kernel_rfl) (by decide) ?_ ?_ ?_
  · intro j hj; cases hj
  · refine po rfl (fun lq aq wq hk hr K hK => ?_) ?_
    · have B2 : ev aq (.tmp 2) = .pointer (some ⟨w.heap.size, 0, none⟩) := hk.base 2 (by kernel_rfl) rfl
      have hb : Below _ _ _ := hk.ext
      exact vc hK (op_load 2 _ B2 (D0.out.below hb)) (fun w2 h2 => ⟨_, _, _, _, rfl, (SN0.out.below hb).below h2⟩)
    refine po rfl (fun lq aq wq hk hr K hK => ?_) ?_
    · obtain ⟨v0, E0, r0⟩ := hk.dp hr 0 12 (by kernel_rfl)
      have r0 : WV wq v0 x := r0
      exact yc hK (by go_simp) (whole_v wq r0) (fun u w1 hu w2 h2 => (hu).grow h2)
    exact AllOps.nil
  intro V x1 hG hV hap
  have r1 : ZV x1 (V 1) x := hV 1 (by decide)
  clear hV hap
  simp only [List.take_succ_cons, List.take_zero, List.drop_succ_cons, List.drop_zero, putAll, Act.put, List.setIfInBounds_toArray, List.set_cons_zero, List.set_cons_succ]
  have hb := (show Below _ _ _ from hG)
  obtain ⟨nm2, Am2, km2, cm2, em2, sm2⟩ := r1
  simp only [em2]
  clear em2
  clear hG
  replace D0 := D0.out.below hb
  refine wpList_of_skip rfl (op_store 2 13 _ rfl rfl D0) ?_
  replace D1 := Lib.hid (put2_far (u := .bool nm2) (v := .slice Am2 km2 cm2) (D1.out.below hb) (show w.heap.size + 1 ≠ w.heap.size by omega))
  replace SN1 := Lib.hid ((SN1.out.below hb).put D0 (.bool nm2) (.slice Am2 km2 cm2))
  replace DR := Lib.hid (Box3.put2_far (x' := .bool nm2) (y' := .slice Am2 km2 cm2) (DR.out.below hb) (show w.heap.size + 1 + 1 ≠ w.heap.size by omega))
  replace SN0 := Lib.hid (sm2.put D0 (.bool nm2) (.slice Am2 km2 cm2))
  replace HB := Lib.hid (put2_below (u := .bool nm2) (v := .slice Am2 km2 cm2) (HB.out.trans (Below.mono hb HB.out.size)) (show w.heap.size ≤ w.heap.size by omega))
  replace D0 := Lib.hid (put2_own (u := .bool nm2) (v := .slice Am2 km2 cm2) D0)
  clear hb sm2
  generalize put2 x1 w.heap.size (.bool nm2) (.slice Am2 km2 cm2) = y3 at *
  go_upto_region 2 with fail
  refine wp_region_calm 2 [] ([fun vq wq => WV wq vq y,
      fun vq wq => ZV wq vq y]) (by kernel_rfl) (by decide) ?_ ?_ ?_
  · intro j hj; cases hj
  · refine po rfl (fun lq aq wq hk hr K hK => ?_) ?_
    · have B3 : ev aq (.tmp 3) = .pointer (some ⟨w.heap.size + 1, 0, none⟩) := hk.base 3 (by kernel_rfl) rfl
      have hb : Below _ _ _ := hk.ext
      exact vc hK (op_load 3 _ B3 (D1.out.below hb)) (fun w2 h2 => ⟨_, _, _, _, rfl, (SN1.out.below hb).below h2⟩)
    refine po rfl (fun lq aq wq hk hr K hK => ?_) ?_
    · obtain ⟨v0, E0, r0⟩ := hk.dp hr 0 14 (by kernel_rfl)
      have r0 : WV wq v0 y := r0
      exact yc hK (by go_simp) (whole_v wq r0) (fun u w1 hu w2 h2 => (hu).grow h2)
    exact AllOps.nil
  intro V x4 hG hV hap
  have r1 : ZV x4 (V 1) y := hV 1 (by decide)
  clear hV hap
  simp only [List.take_succ_cons, List.take_zero, List.drop_succ_cons, List.drop_zero, putAll, Act.put, List.setIfInBounds_toArray, List.set_cons_zero, List.set_cons_succ]
  have hb := (show Below _ _ _ from hG)
  obtain ⟨nm5, Am5, km5, cm5, em5, sm5⟩ := r1
  simp only [em5]
  clear em5
  clear hG
  replace D1 := D1.out.below hb
  refine wpList_of_skip rfl (op_store 3 15 _ rfl rfl D1) ?_
  replace D0 := Lib.hid (put2_far (u := .bool nm5) (v := .slice Am5 km5 cm5) (D0.out.below hb) (show w.heap.size ≠ w.heap.size + 1 by omega))
  replace SN0 := Lib.hid ((SN0.out.below hb).put D1 (.bool nm5) (.slice Am5 km5 cm5))
  replace DR := Lib.hid (Box3.put2_far (x' := .bool nm5) (y' := .slice Am5 km5 cm5) (DR.out.below hb) (show w.heap.size + 1 + 1 ≠ w.heap.size + 1 by omega))
  replace SN1 := Lib.hid (sm5.put D1 (.bool nm5) (.slice Am5 km5 cm5))
  replace HB := Lib.hid (put2_below (u := .bool nm5) (v := .slice Am5 km5 cm5) (HB.out.trans (Below.mono hb HB.out.size)) (show w.heap.size ≤ w.heap.size + 1 by omega))
  replace D1 := Lib.hid (put2_own (u := .bool nm5) (v := .slice Am5 km5 cm5) D1)
  clear hb sm5
  generalize put2 x4 (w.heap.size + 1) (.bool nm5) (.slice Am5 km5 cm5) = y6 at *
  have hpos : 0 < y.natAbs := Int.natAbs_pos.2 hy
  obtain ⟨g, hg⟩ : ∃ g, x.natAbs.gcd y.natAbs = g := ⟨_, rfl⟩
  have hg0 : 0 < g := by rw [← hg]; exact Nat.gcd_pos_of_pos_right _ hpos
  have hgs : sz g ≤ 1000 := by rw [← hg]; exact Nat.le_trans (sz_mono (Nat.gcd_le_right _ hpos)) hk1
  have hup := of_up (x := x) hy
  have hdn := of_down (x := x) hy
  rw [hg] at hup hdn
  replace hup := Lib.hid (show sg (nm2 != nm5) (x.natAbs / g) = (Rat.divInt x y).num by rw [SN0.out.sign, SN1.out.sign]; exact hup)
  replace hdn := Lib.hid hdn
  replace hy := Lib.hid hy
  have hns : szz (Rat.divInt x y).num ≤ 1000 := by rw [← hup.out]; unfold szz; rw [sg_natAbs]; exact (show sz (x.natAbs / g) ≤ 1000 from Nat.le_trans (sz_mono (Nat.div_le_self _ _)) hk0)
  have hds : sz (Rat.divInt x y).den ≤ 1000 := by rw [← hdn.out]; exact (show sz (y.natAbs / g) ≤ 1000 from Nat.le_trans (sz_mono (Nat.div_le_self _ _)) hk1)
  go_upto_region 3 with fail
  refine wp_region_calm 5 [] ([fun vq _ => vq = .pointer (some ⟨w.heap.size, 1, none⟩),
      fun vq _ => vq = .slice Am2 km2 cm2,
      fun vq _ => vq = .pointer (some ⟨w.heap.size + 1, 1, none⟩),
      fun vq _ => vq = .slice Am5 km5 cm5,
      fun vq wq => LV wq vq ((limbs (x.natAbs.gcd y.natAbs))) ((x.natAbs.gcd y.natAbs))]) (by kernel_rfl) (by decide) ?_ ?_ ?_
  · intro j hj; cases hj
  · refine po rfl (fun lq aq wq hk hr K hK => ?_) ?_
    · have B2 : ev aq (.tmp 2) = .pointer (some ⟨w.heap.size, 0, none⟩) := hk.base 2 (by kernel_rfl) rfl
      exact vc hK (by go_simp) (fun w2 h2 => rfl)
    refine po rfl (fun lq aq wq hk hr K hK => ?_) ?_
    · have E0 : ev aq (.tmp 16) = .pointer (some ⟨w.heap.size, 1, none⟩) := hk.dc hr 0 (by kernel_rfl) fun _ _ h => h
      have hb : Below _ _ _ := hk.ext
      have c1 := (D0.out.below hb).c1
      exact vc hK (by go_simp) (fun w2 h2 => rfl)
    refine po rfl (fun lq aq wq hk hr K hK => ?_) ?_
    · have B3 : ev aq (.tmp 3) = .pointer (some ⟨w.heap.size + 1, 0, none⟩) := hk.base 3 (by kernel_rfl) rfl
      exact vc hK (by go_simp) (fun w2 h2 => rfl)
    refine po rfl (fun lq aq wq hk hr K hK => ?_) ?_
    · have E2 : ev aq (.tmp 18) = .pointer (some ⟨w.heap.size + 1, 1, none⟩) := hk.dc hr 2 (by kernel_rfl) fun _ _ h => h
      have hb : Below _ _ _ := hk.ext
      have c1 := (D1.out.below hb).c1
      exact vc hK (by go_simp) (fun w2 h2 => rfl)
    refine po rfl (fun lq aq wq hk hr K hK => ?_) ?_
    · have E1 : ev aq (.tmp 17) = .slice Am2 km2 cm2 := hk.dc hr 1 (by kernel_rfl) fun _ _ h => h
      have E3 : ev aq (.tmp 19) = .slice Am5 km5 cm5 := hk.dc hr 3 (by kernel_rfl) fun _ _ h => h
      exact yc hK (by go_simp) (rgcdn_v wq (SN0.out.num.below hk.ext).lv (SN1.out.num.below hk.ext).lv hk1 hpos) (fun u w1 hu w2 h2 => (hu).grow h2)
    exact AllOps.nil
  intro V x7 hG hV hap
  have r4 : LV x7 (V 4) ((limbs (x.natAbs.gcd y.natAbs))) ((x.natAbs.gcd y.natAbs)) := hV 4 (by decide)
  clear hV hap
  simp only [List.take_succ_cons, List.take_zero, List.drop_succ_cons, List.drop_zero, putAll, Act.put, List.setIfInBounds_toArray, List.set_cons_zero, List.set_cons_succ]
  have hb := (show Below _ _ _ from hG)
  replace D0 := Lib.hid (D0.out.below hb)
  replace SN0 := Lib.hid (SN0.out.below hb)
  replace D1 := Lib.hid (D1.out.below hb)
  replace SN1 := Lib.hid (SN1.out.below hb)
  replace DR := Lib.hid (DR.out.below hb)
  replace HB := Lib.hid (HB.out.trans (Below.mono hb HB.out.size))
  clear hb hG
  rw [hg] at r4
  obtain ⟨A5, c5, e5, q5⟩ := r4
  simp only [e5]
  rw [e5] at q5
  have Q5 := Lib.hid q5
  clear e5 q5
  go_upto_region 4 with fail
  refine wp_region_calm 8 [] ([fun vq _ => vq = .pointer (some ⟨w.heap.size, 1, none⟩),
      fun vq _ => vq = .slice Am2 km2 cm2,
      fun vq _ => vq = .slice A5 (limbs g).length c5,
      fun vq wq => ∃ u0 u1, vq = .tuple #[u0, u1, .int .i64 0] ∧ LV wq u0 ((limbs (x.natAbs / g))) ((x.natAbs / g)) ∧ LV wq u1 ((limbs (x.natAbs % g))) ((x.natAbs % g)),
      fun vq wq => ∃ u0 u1, vq = .tuple #[u0, u1, .int .i64 0] ∧ LV wq u0 ((limbs (x.natAbs / g))) ((x.natAbs / g)) ∧ LV wq u1 ((limbs (x.natAbs % g))) ((x.natAbs % g)),
      fun vq wq => LV wq vq ((limbs (x.natAbs / g))) ((x.natAbs / g)),
      fun vq wq => LV wq vq ((limbs (x.natAbs % g))) ((x.natAbs % g)),
      fun vq _ => vq = .int .i64 0]) (by kernel_rfl) (by decide) ?_ ?_ ?_
  · intro j hj; cases hj
  · refine po rfl (fun lq aq wq hk hr K hK => ?_) ?_
    · have B2 : ev aq (.tmp 2) = .pointer (some ⟨w.heap.size, 0, none⟩) := hk.base 2 (by kernel_rfl) rfl
      exact vc hK (by go_simp) (fun w2 h2 => rfl)
    refine po rfl (fun lq aq wq hk hr K hK => ?_) ?_
    · have E0 : ev aq (.tmp 22) = .pointer (some ⟨w.heap.size, 1, none⟩) := hk.dc hr 0 (by kernel_rfl) fun _ _ h => h
      have hb : Below _ _ _ := hk.ext
      have c1 := (D0.out.below hb).c1
      exact vc hK (by go_simp) (fun w2 h2 => rfl)
    refine po rfl (fun lq aq wq hk hr K hK => ?_) ?_
    · have B5 : ev aq (.tmp 5) = .slice A5 (limbs g).length c5 := hk.base 5 (by kernel_rfl) rfl
      exact vc hK (by go_simp) (fun w2 h2 => rfl)
    refine po rfl (fun lq aq wq hk hr K hK => ?_) ?_
    · have E1 : ev aq (.tmp 23) = .slice Am2 km2 cm2 := hk.dc hr 1 (by kernel_rfl) fun _ _ h => h
      have E2 : ev aq (.tmp 24) = .slice A5 (limbs g).length c5 := hk.dc hr 2 (by kernel_rfl) fun _ _ h => h
      exact yc hK (by go_simp) (rdivn_v wq (SN0.out.num.below hk.ext).lv (Q5.out.below hk.ext).lv SN0.out.short hgs hg0) (fun u w1 hu w2 h2 => (let ⟨u0, u1, e0, h0, h1⟩ := hu; ⟨u0, u1, e0, (h0).grow h2, (h1).grow h2⟩))
    refine po rfl (fun lq aq wq hk hr K hK => ?_) ?_
    · obtain ⟨v3, E3, r3⟩ := hk.dp hr 3 25 (by kernel_rfl)
      have r3 : ∃ u0 u1, v3 = .tuple #[u0, u1, .int .i64 0] ∧ LV wq u0 ((limbs (x.natAbs / g))) ((x.natAbs / g)) ∧ LV wq u1 ((limbs (x.natAbs % g))) ((x.natAbs % g)) := r3
      exact vc hK (by go_simp) (fun w2 h2 => (let ⟨u0, u1, e0, h0, h1⟩ := r3; ⟨u0, u1, e0, (h0).grow h2, (h1).grow h2⟩))
    refine po rfl (fun lq aq wq hk hr K hK => ?_) ?_
    · obtain ⟨v4, E4, r4⟩ := hk.dp hr 4 21 (by kernel_rfl)
      have r4 : ∃ u0 u1, v4 = .tuple #[u0, u1, .int .i64 0] ∧ LV wq u0 ((limbs (x.natAbs / g))) ((x.natAbs / g)) ∧ LV wq u1 ((limbs (x.natAbs % g))) ((x.natAbs % g)) := r4
      obtain ⟨u0, u1, rfl, h0, h1⟩ := r4
      exact vc hK (by go_simp) (fun w2 h2 => (h0).grow h2)
    refine po rfl (fun lq aq wq hk hr K hK => ?_) ?_
    · obtain ⟨v4, E4, r4⟩ := hk.dp hr 4 21 (by kernel_rfl)
      have r4 : ∃ u0 u1, v4 = .tuple #[u0, u1, .int .i64 0] ∧ LV wq u0 ((limbs (x.natAbs / g))) ((x.natAbs / g)) ∧ LV wq u1 ((limbs (x.natAbs % g))) ((x.natAbs % g)) := r4
      obtain ⟨u0, u1, rfl, h0, h1⟩ := r4
      exact vc hK (by go_simp) (fun w2 h2 => (h1).grow h2)
    refine po rfl (fun lq aq wq hk hr K hK => ?_) ?_
    · obtain ⟨v4, E4, r4⟩ := hk.dp hr 4 21 (by kernel_rfl)
      have r4 : ∃ u0 u1, v4 = .tuple #[u0, u1, .int .i64 0] ∧ LV wq u0 ((limbs (x.natAbs / g))) ((x.natAbs / g)) ∧ LV wq u1 ((limbs (x.natAbs % g))) ((x.natAbs % g)) := r4
      obtain ⟨u0, u1, rfl, h0, h1⟩ := r4
      exact vc hK (by go_simp) (fun w2 h2 => rfl)
    exact AllOps.nil
  intro V x8 hG hV hap
  have r5 : LV x8 (V 5) ((limbs (x.natAbs / g))) ((x.natAbs / g)) := hV 5 (by decide)
  have r6 : LV x8 (V 6) ((limbs (x.natAbs % g))) ((x.natAbs % g)) := hV 6 (by decide)
  have r7 : (V 7) = .int .i64 0 := hV 7 (by decide)
  clear hV hap
  simp only [List.take_succ_cons, List.take_zero, List.drop_succ_cons, List.drop_zero, putAll, Act.put, List.setIfInBounds_toArray, List.set_cons_zero, List.set_cons_succ]
  have hb := (show Below _ _ _ from hG)
  replace D0 := Lib.hid (D0.out.below hb)
  replace SN0 := Lib.hid (SN0.out.below hb)
  replace D1 := Lib.hid (D1.out.below hb)
  replace SN1 := Lib.hid (SN1.out.below hb)
  replace DR := Lib.hid (DR.out.below hb)
  replace Q5 := Lib.hid (Q5.out.below hb)
  replace HB := Lib.hid (HB.out.trans (Below.mono hb HB.out.size))
  clear hb hG
  rw [r7]
  clear r7
  obtain ⟨A6, c6, e6, q6⟩ := r5
  simp only [e6]
  rw [e6] at q6
  have Q6 := Lib.hid q6
  clear e6 q6
  obtain ⟨A7, c7, e7, q7⟩ := r6
  simp only [e7]
  rw [e7] at q7
  have Q7 := Lib.hid q7
  clear e7 q7
  go_upto_region 5 with fail
  refine wp_region_calm 8 [] ([fun vq _ => vq = .pointer (some ⟨w.heap.size + 1, 1, none⟩),
      fun vq _ => vq = .slice Am5 km5 cm5,
      fun vq _ => vq = .slice A5 (limbs g).length c5,
      fun vq wq => ∃ u0 u1, vq = .tuple #[u0, u1, .int .i64 0] ∧ LV wq u0 ((limbs (y.natAbs / g))) ((y.natAbs / g)) ∧ LV wq u1 ((limbs (y.natAbs % g))) ((y.natAbs % g)),
      fun vq wq => ∃ u0 u1, vq = .tuple #[u0, u1, .int .i64 0] ∧ LV wq u0 ((limbs (y.natAbs / g))) ((y.natAbs / g)) ∧ LV wq u1 ((limbs (y.natAbs % g))) ((y.natAbs % g)),
      fun vq wq => LV wq vq ((limbs (y.natAbs / g))) ((y.natAbs / g)),
      fun vq wq => LV wq vq ((limbs (y.natAbs % g))) ((y.natAbs % g)),
      fun vq _ => vq = .int .i64 0]) (by kernel_rfl) (by decide) ?_ ?_ ?_
  · intro j hj; cases hj
  · refine po rfl (fun lq aq wq hk hr K hK => ?_) ?_
    · have B3 : ev aq (.tmp 3) = .pointer (some ⟨w.heap.size + 1, 0, none⟩) := hk.base 3 (by kernel_rfl) rfl
      exact vc hK (by go_simp) (fun w2 h2 => rfl)
    refine po rfl (fun lq aq wq hk hr K hK => ?_) ?_
    · have E0 : ev aq (.tmp 30) = .pointer (some ⟨w.heap.size + 1, 1, none⟩) := hk.dc hr 0 (by kernel_rfl) fun _ _ h => h
      have hb : Below _ _ _ := hk.ext
      have c1 := (D1.out.below hb).c1
      exact vc hK (by go_simp) (fun w2 h2 => rfl)
    refine po rfl (fun lq aq wq hk hr K hK => ?_) ?_
    · have B5 : ev aq (.tmp 5) = .slice A5 (limbs g).length c5 := hk.base 5 (by kernel_rfl) rfl
      exact vc hK (by go_simp) (fun w2 h2 => rfl)
    refine po rfl (fun lq aq wq hk hr K hK => ?_) ?_
    · have E1 : ev aq (.tmp 31) = .slice Am5 km5 cm5 := hk.dc hr 1 (by kernel_rfl) fun _ _ h => h
      have E2 : ev aq (.tmp 32) = .slice A5 (limbs g).length c5 := hk.dc hr 2 (by kernel_rfl) fun _ _ h => h
      exact yc hK (by go_simp) (rdivn_v wq (SN1.out.num.below hk.ext).lv (Q5.out.below hk.ext).lv SN1.out.short hgs hg0) (fun u w1 hu w2 h2 => (let ⟨u0, u1, e0, h0, h1⟩ := hu; ⟨u0, u1, e0, (h0).grow h2, (h1).grow h2⟩))
    refine po rfl (fun lq aq wq hk hr K hK => ?_) ?_
    · obtain ⟨v3, E3, r3⟩ := hk.dp hr 3 33 (by kernel_rfl)
      have r3 : ∃ u0 u1, v3 = .tuple #[u0, u1, .int .i64 0] ∧ LV wq u0 ((limbs (y.natAbs / g))) ((y.natAbs / g)) ∧ LV wq u1 ((limbs (y.natAbs % g))) ((y.natAbs % g)) := r3
      exact vc hK (by go_simp) (fun w2 h2 => (let ⟨u0, u1, e0, h0, h1⟩ := r3; ⟨u0, u1, e0, (h0).grow h2, (h1).grow h2⟩))
    refine po rfl (fun lq aq wq hk hr K hK => ?_) ?_
    · obtain ⟨v4, E4, r4⟩ := hk.dp hr 4 29 (by kernel_rfl)
      have r4 : ∃ u0 u1, v4 = .tuple #[u0, u1, .int .i64 0] ∧ LV wq u0 ((limbs (y.natAbs / g))) ((y.natAbs / g)) ∧ LV wq u1 ((limbs (y.natAbs % g))) ((y.natAbs % g)) := r4
      obtain ⟨u0, u1, rfl, h0, h1⟩ := r4
      exact vc hK (by go_simp) (fun w2 h2 => (h0).grow h2)
    refine po rfl (fun lq aq wq hk hr K hK => ?_) ?_
    · obtain ⟨v4, E4, r4⟩ := hk.dp hr 4 29 (by kernel_rfl)
      have r4 : ∃ u0 u1, v4 = .tuple #[u0, u1, .int .i64 0] ∧ LV wq u0 ((limbs (y.natAbs / g))) ((y.natAbs / g)) ∧ LV wq u1 ((limbs (y.natAbs % g))) ((y.natAbs % g)) := r4
      obtain ⟨u0, u1, rfl, h0, h1⟩ := r4
      exact vc hK (by go_simp) (fun w2 h2 => (h1).grow h2)
    refine po rfl (fun lq aq wq hk hr K hK => ?_) ?_
    · obtain ⟨v4, E4, r4⟩ := hk.dp hr 4 29 (by kernel_rfl)
      have r4 : ∃ u0 u1, v4 = .tuple #[u0, u1, .int .i64 0] ∧ LV wq u0 ((limbs (y.natAbs / g))) ((y.natAbs / g)) ∧ LV wq u1 ((limbs (y.natAbs % g))) ((y.natAbs % g)) := r4
      obtain ⟨u0, u1, rfl, h0, h1⟩ := r4
      exact vc hK (by go_simp) (fun w2 h2 => rfl)
    exact AllOps.nil
  intro V x9 hG hV hap
  have r5 : LV x9 (V 5) ((limbs (y.natAbs / g))) ((y.natAbs / g)) := hV 5 (by decide)
  have r6 : LV x9 (V 6) ((limbs (y.natAbs % g))) ((y.natAbs % g)) := hV 6 (by decide)
  have r7 : (V 7) = .int .i64 0 := hV 7 (by decide)
  clear hV hap
  simp only [List.take_succ_cons, List.take_zero, List.drop_succ_cons, List.drop_zero, putAll, Act.put, List.setIfInBounds_toArray, List.set_cons_zero, List.set_cons_succ]
  have hb := (show Below _ _ _ from hG)
  replace D0 := Lib.hid (D0.out.below hb)
  replace SN0 := Lib.hid (SN0.out.below hb)
  replace D1 := Lib.hid (D1.out.below hb)
  replace SN1 := Lib.hid (SN1.out.below hb)
  replace DR := Lib.hid (DR.out.below hb)
  replace Q5 := Lib.hid (Q5.out.below hb)
  replace Q6 := Lib.hid (Q6.out.below hb)
  replace Q7 := Lib.hid (Q7.out.below hb)
  replace HB := Lib.hid (HB.out.trans (Below.mono hb HB.out.size))
  clear hb hG
  rw [r7]
  clear r7
  obtain ⟨A9, c9, e9, q9⟩ := r5
  simp only [e9]
  rw [e9] at q9
  have Q9 := Lib.hid q9
  clear e9 q9
  obtain ⟨A10, c10, e10, q10⟩ := r6
  simp only [e10]
  rw [e10] at q10
  have Q10 := Lib.hid q10
  clear e10 q10
  go_upto_region 6 with fail
  refine wp_region_calm 10 [] ([fun vq _ => vq = .pointer (some ⟨w.heap.size, 0, none⟩),
      fun vq _ => vq = .bool nm2,
      fun vq _ => vq = .pointer (some ⟨w.heap.size + 1, 0, none⟩),
      fun vq _ => vq = .bool nm5,
      fun vq _ => vq = .bool (nm2 != nm5),
      fun vq _ => vq = .slice A6 (limbs (x.natAbs / g)).length c6,
      fun vq wq => WV wq vq ((Rat.divInt x y).num),
      fun vq wq => ZV wq vq ((Rat.divInt x y).num),
      fun vq _ => vq = .slice A9 (limbs (y.natAbs / g)).length c9,
      fun vq wq => RV wq vq ((Rat.divInt x y))]) (by kernel_rfl) (by decide) ?_ ?_ ?_
  · intro j hj; cases hj
  · refine po rfl (fun lq aq wq hk hr K hK => ?_) ?_
    · have B2 : ev aq (.tmp 2) = .pointer (some ⟨w.heap.size, 0, none⟩) := hk.base 2 (by kernel_rfl) rfl
      exact vc hK (by go_simp) (fun w2 h2 => rfl)
    refine po rfl (fun lq aq wq hk hr K hK => ?_) ?_
    · have E0 : ev aq (.tmp 37) = .pointer (some ⟨w.heap.size, 0, none⟩) := hk.dc hr 0 (by kernel_rfl) fun _ _ h => h
      have hb : Below _ _ _ := hk.ext
      have c0 := (D0.out.below hb).c0
      exact vc hK (by go_simp) (fun w2 h2 => rfl)
    refine po rfl (fun lq aq wq hk hr K hK => ?_) ?_
    · have B3 : ev aq (.tmp 3) = .pointer (some ⟨w.heap.size + 1, 0, none⟩) := hk.base 3 (by kernel_rfl) rfl
      exact vc hK (by go_simp) (fun w2 h2 => rfl)
    refine po rfl (fun lq aq wq hk hr K hK => ?_) ?_
    · have E2 : ev aq (.tmp 39) = .pointer (some ⟨w.heap.size + 1, 0, none⟩) := hk.dc hr 2 (by kernel_rfl) fun _ _ h => h
      have hb : Below _ _ _ := hk.ext
      have c0 := (D1.out.below hb).c0
      exact vc hK (by go_simp) (fun w2 h2 => rfl)
    refine po rfl (fun lq aq wq hk hr K hK => ?_) ?_
    · have E1 : ev aq (.tmp 38) = .bool nm2 := hk.dc hr 1 (by kernel_rfl) fun _ _ h => h
      have E3 : ev aq (.tmp 40) = .bool nm5 := hk.dc hr 3 (by kernel_rfl) fun _ _ h => h
      exact vc hK (by go_simp; cases nm2 <;> cases nm5 <;> rfl) (fun w2 h2 => rfl)
    refine po rfl (fun lq aq wq hk hr K hK => ?_) ?_
    · have B6 : ev aq (.tmp 6) = .slice A6 (limbs (x.natAbs / g)).length c6 := hk.base 6 (by kernel_rfl) rfl
      exact vc hK (by go_simp) (fun w2 h2 => rfl)
    refine po rfl (fun lq aq wq hk hr K hK => ?_) ?_
    · have E4 : ev aq (.tmp 41) = .bool (nm2 != nm5) := hk.dc hr 4 (by kernel_rfl) fun _ _ h => h
      have E5 : ev aq (.tmp 42) = .slice A6 (limbs (x.natAbs / g)).length c6 := hk.dc hr 5 (by kernel_rfl) fun _ _ h => h
      exact vc hK (by go_simp) (fun w2 h2 => (wv_lit (nm2 != nm5) (Q6.out.below hk.ext) (show sz (x.natAbs / g) ≤ 1000 from Nat.le_trans (sz_mono (Nat.div_le_self _ _)) hk0) hup.out).grow h2)
    refine po rfl (fun lq aq wq hk hr K hK => ?_) ?_
    · obtain ⟨v6, E6, r6⟩ := hk.dp hr 6 43 (by kernel_rfl)
      have r6 : WV wq v6 ((Rat.divInt x y).num) := r6
      exact yc hK (by go_simp) (whole_v wq r6) (fun u w1 hu w2 h2 => (hu).grow h2)
    refine po rfl (fun lq aq wq hk hr K hK => ?_) ?_
    · have B9 : ev aq (.tmp 9) = .slice A9 (limbs (y.natAbs / g)).length c9 := hk.base 9 (by kernel_rfl) rfl
      exact vc hK (by go_simp) (fun w2 h2 => rfl)
    refine po rfl (fun lq aq wq hk hr K hK => ?_) ?_
    · obtain ⟨v7, E7, r7⟩ := hk.dp hr 7 44 (by kernel_rfl)
      have r7 : ZV wq v7 ((Rat.divInt x y).num) := r7
      have E8 : ev aq (.tmp 45) = .slice A9 (limbs (y.natAbs / g)).length c9 := hk.dc hr 8 (by kernel_rfl) fun _ _ h => h
      obtain ⟨n7, A7, k7, c7, rfl, s7⟩ := r7
      have hsl : ∃ B j e, .slice A9 (limbs (y.natAbs / g)).length c9 = Value.slice B j e := ⟨_, _, _, rfl⟩
      have hnd := Q9.out.below hk.ext
      exact vc hK (op_rat 44 45 E7 E8 hsl) (fun w2 h2 => RV.grow ⟨_, _, _, _, _, _, _, rfl, s7, (Num.to hnd hdn.out), hds⟩ h2)
    exact AllOps.nil
  intro V x10 hG hV hap
  have r9 : RV x10 (V 9) ((Rat.divInt x y)) := hV 9 (by decide)
  clear hV hap
  simp only [List.take_succ_cons, List.take_zero, List.drop_succ_cons, List.drop_zero, putAll, Act.put, List.setIfInBounds_toArray, List.set_cons_zero, List.set_cons_succ]
  have hb := (show Below _ _ _ from hG)
  obtain ⟨nR, AR, kR, cR, BR, jR, dR, y9, eR, ey, hQ, HQ, c0, c1, c2⟩ := ret3 r9 (DR.out.below hb) (HB.out.trans (Below.mono hb HB.out.size)) (by omega)
  simp only [eR]
  refine wpList_of_skip rfl (op_store3 4 46 _ rfl rfl (DR.out.below hb)) ?_
  rw [ey]
  clear eR ey hb hG HB DR
  go_wp2_with fail
  refine bodyPost_ret (v := .agg #[.bool nR, .slice AR kR cR, .slice BR jR dR]) (by simp [results, Tryz.results44, go_sem, c0, c1, c2]) rfl ⟨_, rfl, hQ, HQ⟩
end Go.Proofs.YtbippecchpaleaaGreatDoor
/- litmusref03.down, Made: what each returns. -/
namespace Go.Num
open Go Go.RowKit Go.Kp
/-- The value's parts read z and a. -/
def QP (w : World) (v : Value) (z : Int) (a : Nat) : Prop := ∃ n A k c B j d l, v = .agg #[.bool n, .slice A k c, .slice B j d] ∧ Whole w n (.slice A k c) z ∧ Num w (.slice B j d) l a ∧ l.length ≤ 1000
theorem QP.grow {w w' : World} {v : Value} {z : Int} {a : Nat} (h : QP w v z a) (hb : Grows w w') : QP w' v z a := by
  obtain ⟨n, A, k, c, B, j, d, l, e, h1, h2, h3⟩ := h
  exact ⟨n, A, k, c, B, j, d, l, e, h1.below hb, h2.below hb, h3⟩
theorem QP.qv {w : World} {v : Value} {z : Int} {a : Nat} (h : QP w v z a) : QV w v (mkRat z (dn a)) := by
  obtain ⟨n, A, k, c, B, j, d, l, e, h1, h2, h3⟩ := h
  exact ⟨n, A, k, c, B, j, d, e, z, l, a, h1, h2, h3, rfl⟩
theorem QV.parts {w : World} {v : Value} {q : Rat} (h : QV w v q) : ∃ z a, QP w v z a ∧ q = mkRat z (dn a) := by
  obtain ⟨n, A, k, c, B, j, d, e, z, l, a, h1, h2, h3, h4⟩ := h
  exact ⟨z, a, ⟨n, A, k, c, B, j, d, l, e, h1, h2, h3⟩, h4⟩
theorem lit_one (w : World) (T : TypeId) : LV (w.alloc (.cells #[.int .u32 1] T)) (.slice (some ⟨w.heap.size, 0, none⟩) 1 1) [1] 1 := by
  have hc : ∀ i, (w.alloc (.cells #[.int .u32 1] T)).cell? ⟨w.heap.size, i, none⟩ = #[Value.int .u32 1][i]? := fun i => cell_of_row _ _ _ _ _ _ (heap_alloc_new w _)
  refine Num.lv ⟨Arg.mk_ (n := 1) rfl (by decide) fun _ => ⟨_, 0, rfl, fun j x hj => ?_⟩, Lim.one (by decide), by decide, by simp [val]⟩
  rw [Nat.zero_add, hc]
  rcases j with _ | j
  · obtain rfl : 1 = x := by simpa using hj
    rfl
  · simp at hj
theorem divInt_dn (z : Int) (a : Nat) : Rat.divInt z ((dn a : Nat) : Int) = mkRat z (dn a) := rfl
end Go.Num
namespace Go.Proofs.YtbippecchpaleaaGreatDoor
open Go.RowKit Go.Num Go.Kp
attribute [local go_sem] Oper.semAt_some u64_mask ev_const ev_func ev_global
set_option maxHeartbeats 4000000 in
set_option maxRecDepth 100000 in
theorem down_v (w : World) {u : Value} {z : Int} {a : Nat} (h0 : QP w u z a) : Calls Tryz.prog 53 #[u] w fun e w' => ∃ r, e = .returned r ∧ WV w' r ((dn a : Nat) : Int) ∧ Grows w w' := by
  obtain ⟨n0, A0, k0, c0, B0, j0, d0, l0, rfl, s0, t0, hl0⟩ := h0
  have hk0 : szz z ≤ 1000 := s0.size
  go_enter Tryz.func53, Tryz.ntmps53
  go_upto_region 1 with fail
  obtain ⟨x0, ex0, HB, D0, DR⟩ := st_32 w 26 (.bool n0) (.slice A0 k0 c0) (.slice B0 j0 d0) 24 (.bool false) (.slice none 0 0)
  rw [ex0]
  clear ex0
  replace HB := Lib.hid HB
  replace D0 := Lib.hid D0
  replace DR := Lib.hid DR
  have SN0 := Lib.hid (s0.below HB.out)
  clear s0
  have SD0 := Lib.hid (t0.below HB.out)
  clear t0
  have hsa : sz a ≤ 1000 := Nat.le_trans (sz_num SD0.out) hl0
  refine wp_region_calm 3 [] ([fun vq _ => vq = .pointer (some ⟨w.heap.size, 2, none⟩),
      fun vq _ => vq = .slice B0 j0 d0,
      fun vq wq => LV wq vq (limbs a) a]) (by kernel_rfl) (by decide) ?_ ?_ ?_
  · intro j hj; cases hj
  · refine po rfl (fun lq aq wq hk hr K hK => ?_) ?_
    · have B1 : ev aq (.tmp 1) = .pointer (some ⟨w.heap.size, 0, none⟩) := hk.base 1 (by kernel_rfl) rfl
      exact vc hK (by go_simp) (fun w2 h2 => rfl)
    refine po rfl (fun lq aq wq hk hr K hK => ?_) ?_
    · have E0 : ev aq (.tmp 4) = .pointer (some ⟨w.heap.size, 2, none⟩) := hk.dc hr 0 (by kernel_rfl) fun _ _ h => h
      have hb : Below _ _ _ := hk.ext
      have c2 := (D0.out.below hb).c2
      exact vc hK (by go_simp) (fun w2 h2 => rfl)
    refine po rfl (fun lq aq wq hk hr K hK => ?_) ?_
    · have E1 : ev aq (.tmp 5) = .slice B0 j0 d0 := hk.dc hr 1 (by kernel_rfl) fun _ _ h => h
      exact yc hK (by go_simp) (rtrim_v wq (SD0.out.below hk.ext).lv hl0) (fun u w1 hu w2 h2 => (hu).grow h2)
    exact AllOps.nil
  intro V x1 hG hV hap
  have r2 : LV x1 (V 2) (limbs a) a := hV 2 (by decide)
  clear hV hap
  simp only [List.take_succ_cons, List.take_zero, List.drop_succ_cons, List.drop_zero, putAll, Act.put, List.setIfInBounds_toArray, List.set_cons_zero, List.set_cons_succ]
  have hb := (show Below _ _ _ from hG)
  replace D0 := Lib.hid (D0.out.below hb)
  replace SN0 := Lib.hid (SN0.out.below hb)
  replace SD0 := Lib.hid (SD0.out.below hb)
  replace DR := Lib.hid (DR.out.below hb)
  replace HB := Lib.hid (HB.out.trans (Below.mono hb HB.out.size))
  clear hb hG
  obtain ⟨A3, c3, e3, q3⟩ := r2
  simp only [e3]
  rw [e3] at q3
  have Q3 := Lib.hid q3
  clear e3 q3
  rcases Nat.eq_zero_or_pos a with ha | ha
  · skip
    have hlen : (limbs a).length = 0 := by rw [ha, limbs_zero]; rfl
    have q3 := Q3.out
    rw [hlen] at q3 ⊢
    clear Q3 q3
    go_upto_region 2 with fail
    refine wp_region_calm 3 [] ([fun vq _ => vq = .slice A3 0 c3,
        fun vq _ => vq = .int .i64 0,
        fun vq _ => vq = .bool true]) (by kernel_rfl) (by decide) ?_ ?_ ?_
    · intro j hj; cases hj
    · refine po rfl (fun lq aq wq hk hr K hK => ?_) ?_
      · have B3 : ev aq (.tmp 3) = .slice A3 0 c3 := hk.base 3 (by kernel_rfl) rfl
        exact vc hK (by go_simp) (fun w2 h2 => rfl)
      refine po rfl (fun lq aq wq hk hr K hK => ?_) ?_
      · have E0 : ev aq (.tmp 7) = .slice A3 0 c3 := hk.dc hr 0 (by kernel_rfl) fun _ _ h => h
        exact vc hK (by go_simp) (fun w2 h2 => rfl)
      refine po rfl (fun lq aq wq hk hr K hK => ?_) ?_
      · have E1 : ev aq (.tmp 8) = .int .i64 0 := hk.dc hr 1 (by kernel_rfl) fun _ _ h => h
        exact vc hK (by go_simp) (fun w2 h2 => rfl)
      exact AllOps.nil
    intro V x2 hG hV hap
    have r2 : (V 2) = .bool true := hV 2 (by decide)
    clear hV hap
    simp only [List.take_succ_cons, List.take_nil, List.drop_succ_cons, List.drop_nil, putAll, Act.put, List.setIfInBounds_toArray, List.set_cons_zero, List.set_cons_succ]
    have hb := (show Below _ _ _ from hG)
    replace D0 := Lib.hid (D0.out.below hb)
    replace SN0 := Lib.hid (SN0.out.below hb)
    replace SD0 := Lib.hid (SD0.out.below hb)
    replace DR := Lib.hid (DR.out.below hb)
    replace HB := Lib.hid (HB.out.trans (Below.mono hb HB.out.size))
    clear hb hG
    rw [r2]
    clear r2
    go_upto_region 3 with fail
    refine wp_region_calm 1 [] ([fun vq wq => LV wq vq ([1]) 1]) (by kernel_rfl) (by decide) ?_ ?_ ?_
    · intro j hj; cases hj
    · refine po rfl (fun lq aq wq hk hr K hK => ?_) ?_
      · exact wp_of_value (by go_simp) (hK.out _ _ ((Grows.refl _).alloc _) (fun w2 h2 => (lit_one wq 43).grow h2) (fun h => absurd h (by decide)))
      exact AllOps.nil
    intro V x3 hG hV hap
    have r0 : LV x3 (V 0) ([1]) 1 := hV 0 (by decide)
    clear hV hap
    simp only [List.take_succ_cons, List.take_zero, List.drop_succ_cons, List.drop_zero, putAll, Act.put, List.setIfInBounds_toArray, List.set_cons_zero, List.set_cons_succ]
    have hb := (show Below _ _ _ from hG)
    replace D0 := Lib.hid (D0.out.below hb)
    replace SN0 := Lib.hid (SN0.out.below hb)
    replace SD0 := Lib.hid (SD0.out.below hb)
    replace DR := Lib.hid (DR.out.below hb)
    replace HB := Lib.hid (HB.out.trans (Below.mono hb HB.out.size))
    clear hb hG
    obtain ⟨A4, c4, e4, q4⟩ := r0
    simp only [e4]
    rw [e4] at q4
    have Q4 := Lib.hid q4
    clear e4 q4
    go_upto_region 4 with fail
    refine wp_region_calm 2 [] ([fun vq _ => vq = .slice A4 1 c4,
        fun vq wq => WV wq vq (((dn a : Nat) : Int))]) (by kernel_rfl) (by decide) ?_ ?_ ?_
    · intro j hj; cases hj
    · refine po rfl (fun lq aq wq hk hr K hK => ?_) ?_
      · have B3 : ev aq (.tmp 3) = .slice A4 1 c4 := hk.base 3 (by kernel_rfl) rfl
        exact vc hK (by go_simp) (fun w2 h2 => rfl)
      refine po rfl (fun lq aq wq hk hr K hK => ?_) ?_
      · have E0 : ev aq (.tmp 11) = .slice A4 1 c4 := hk.dc hr 0 (by kernel_rfl) fun _ _ h => h
        exact vc hK (by go_simp) (fun w2 h2 => (wv_lit false (Q4.out.below hk.ext) (by decide) (show sg false 1 = ((dn a : Nat) : Int) by rw [ha]; rfl)).grow h2)
      exact AllOps.nil
    intro V x4 hG hV hap
    have r1 : WV x4 (V 1) (((dn a : Nat) : Int)) := hV 1 (by decide)
    clear hV hap
    simp only [List.take_succ_cons, List.take_zero, List.drop_succ_cons, List.drop_zero, putAll, Act.put, List.setIfInBounds_toArray, List.set_cons_zero, List.set_cons_succ]
    have hb := (show Below _ _ _ from hG)
    obtain ⟨nR, AR, kR, cR, y9, eR, ey, hQ, HQ, c0, c1⟩ := ret2w r1 (DR.out.below hb) (HB.out.trans (Below.mono hb HB.out.size)) (by omega)
    simp only [eR]
    refine wpList_of_skip rfl (op_store 2 12 _ rfl rfl (DR.out.below hb)) ?_
    rw [ey]
    clear eR ey hb hG HB DR
    go_wp2_with fail
    refine bodyPost_ret (v := .agg #[.bool nR, .slice AR kR cR]) (by simp [results, Tryz.results53, go_sem, c0, c1]) rfl ⟨_, rfl, hQ, HQ⟩
  · skip
    obtain ⟨m, hlen, hm9⟩ : ∃ m, (limbs a).length = m + 1 ∧ m < 1000 := by
      obtain ⟨m, hlen⟩ : ∃ m, (limbs a).length = m + 1 := ⟨(limbs a).length - 1, by rw [limbs_pos (by omega)]; simp⟩
      exact ⟨m, hlen, by unfold sz at hsa; omega⟩
    have q3 := Q3.out
    rw [hlen] at q3 ⊢
    clear Q3
    have Q3 := Lib.hid q3
    clear q3
    go_upto_region 2 with fail
    refine wp_region_calm 3 [] ([fun vq _ => vq = .slice A3 (m + 1) c3,
        fun vq _ => vq = .int .i64 (m + 1),
        fun vq _ => vq = .bool false]) (by kernel_rfl) (by decide) ?_ ?_ ?_
    · intro j hj; cases hj
    · refine po rfl (fun lq aq wq hk hr K hK => ?_) ?_
      · have B3 : ev aq (.tmp 3) = .slice A3 (m + 1) c3 := hk.base 3 (by kernel_rfl) rfl
        exact vc hK (by go_simp) (fun w2 h2 => rfl)
      refine po rfl (fun lq aq wq hk hr K hK => ?_) ?_
      · have E0 : ev aq (.tmp 7) = .slice A3 (m + 1) c3 := hk.dc hr 0 (by kernel_rfl) fun _ _ h => h
        exact vc hK (by go_simp) (fun w2 h2 => rfl)
      refine po rfl (fun lq aq wq hk hr K hK => ?_) ?_
      · have E1 : ev aq (.tmp 8) = .int .i64 (m + 1) := hk.dc hr 1 (by kernel_rfl) fun _ _ h => h
        exact vc hK (by go_simp; omega) (fun w2 h2 => rfl)
      exact AllOps.nil
    intro V x2 hG hV hap
    have r2 : (V 2) = .bool false := hV 2 (by decide)
    clear hV hap
    simp only [List.take_succ_cons, List.take_nil, List.drop_succ_cons, List.drop_nil, putAll, Act.put, List.setIfInBounds_toArray, List.set_cons_zero, List.set_cons_succ]
    have hb := (show Below _ _ _ from hG)
    replace D0 := Lib.hid (D0.out.below hb)
    replace SN0 := Lib.hid (SN0.out.below hb)
    replace SD0 := Lib.hid (SD0.out.below hb)
    replace DR := Lib.hid (DR.out.below hb)
    replace Q3 := Lib.hid (Q3.out.below hb)
    replace HB := Lib.hid (HB.out.trans (Below.mono hb HB.out.size))
    clear hb hG
    rw [r2]
    clear r2
    go_upto_region 4 with fail
    refine wp_region_calm 2 [] ([fun vq _ => vq = .slice A3 (m + 1) c3,
        fun vq wq => WV wq vq (((dn a : Nat) : Int))]) (by kernel_rfl) (by decide) ?_ ?_ ?_
    · intro j hj; cases hj
    · refine po rfl (fun lq aq wq hk hr K hK => ?_) ?_
      · have B3 : ev aq (.tmp 3) = .slice A3 (m + 1) c3 := hk.base 3 (by kernel_rfl) rfl
        exact vc hK (by go_simp) (fun w2 h2 => rfl)
      refine po rfl (fun lq aq wq hk hr K hK => ?_) ?_
      · have E0 : ev aq (.tmp 11) = .slice A3 (m + 1) c3 := hk.dc hr 0 (by kernel_rfl) fun _ _ h => h
        exact vc hK (by go_simp) (fun w2 h2 => (wv_lit false (Q3.out.below hk.ext) hsa (show sg false a = ((dn a : Nat) : Int) by rw [dn_of_pos ha]; rfl)).grow h2)
      exact AllOps.nil
    intro V x3 hG hV hap
    have r1 : WV x3 (V 1) (((dn a : Nat) : Int)) := hV 1 (by decide)
    clear hV hap
    simp only [List.take_succ_cons, List.take_zero, List.drop_succ_cons, List.drop_zero, putAll, Act.put, List.setIfInBounds_toArray, List.set_cons_zero, List.set_cons_succ]
    have hb := (show Below _ _ _ from hG)
    obtain ⟨nR, AR, kR, cR, y9, eR, ey, hQ, HQ, c0, c1⟩ := ret2w r1 (DR.out.below hb) (HB.out.trans (Below.mono hb HB.out.size)) (by omega)
    simp only [eR]
    refine wpList_of_skip rfl (op_store 2 12 _ rfl rfl (DR.out.below hb)) ?_
    rw [ey]
    clear eR ey hb hG HB DR
    go_wp2_with fail
    refine bodyPost_ret (v := .agg #[.bool nR, .slice AR kR cR]) (by simp [results, Tryz.results53, go_sem, c0, c1]) rfl ⟨_, rfl, hQ, HQ⟩
set_option maxHeartbeats 4000000 in
set_option maxRecDepth 100000 in
theorem rmadeP_v (w : World) {u : Value} {z : Int} {a : Nat} (h0 : QP w u z a) : Calls Tryz.prog 16 #[u] w fun e w' => ∃ r, e = .returned r ∧ RV w' r (mkRat z (dn a)) ∧ Grows w w' := by
  obtain ⟨n0, A0, k0, c0, B0, j0, d0, l0, rfl, s0, t0, hl0⟩ := h0
  have hk0 : szz z ≤ 1000 := s0.size
  go_enter Tryz.func16, Tryz.ntmps16
  go_upto_region 1 with fail
  obtain ⟨x0, ex0, HB, D0, DR⟩ := st_33 w 26 (.bool n0) (.slice A0 k0 c0) (.slice B0 j0 d0) 26 (.bool false) (.slice none 0 0) (.slice none 0 0)
  rw [ex0]
  clear ex0
  replace HB := Lib.hid HB
  replace D0 := Lib.hid D0
  replace DR := Lib.hid DR
  have SN0 := Lib.hid (s0.below HB.out)
  clear s0
  have SD0 := Lib.hid (t0.below HB.out)
  clear t0
  have hdn9 : ((dn a : Nat) : Int) ≠ 0 := by have := dn_pos a; omega
  refine wp_region_going 5 [] ([fun vq _ => vq = .pointer (some ⟨w.heap.size, 0, none⟩),
      fun vq wq => WV wq vq z,
      fun vq wq => QP wq vq z a,
      fun vq wq => WV wq vq (((dn a : Nat) : Int)),
      fun vq wq => RV wq vq ((Rat.divInt z ((dn a : Nat) : Int)))]) (by kernel_rfl) (by kernel_rfl) (by decide) (by kernel_rfl) (by kernel_rfl) ?_ ?_ ?_
  · intro j hj; cases hj
  · refine po rfl (fun lq aq wq hk hr K hK => ?_) ?_
    · have B1 : ev aq (.tmp 1) = .pointer (some ⟨w.heap.size, 0, none⟩) := hk.base 1 (by kernel_rfl) rfl
      exact vc hK (by go_simp) (fun w2 h2 => rfl)
    refine po rfl (fun lq aq wq hk hr K hK => ?_) ?_
    · have E0 : ev aq (.tmp 3) = .pointer (some ⟨w.heap.size, 0, none⟩) := hk.dc hr 0 (by kernel_rfl) fun _ _ h => h
      have hb := grows_of hk.ext
      exact vc hK (op_loadN 3 _ E0 (D0.out.below hb)) (fun w2 h2 => ⟨_, _, _, _, rfl, (SN0.out.below hb).below h2⟩)
    refine po rfl (fun lq aq wq hk hr K hK => ?_) ?_
    · have B1 : ev aq (.tmp 1) = .pointer (some ⟨w.heap.size, 0, none⟩) := hk.base 1 (by kernel_rfl) rfl
      have hb := grows_of hk.ext
      exact vc hK (op_load3 1 _ B1 (D0.out.below hb)) (fun w2 h2 => QP.grow ⟨_, _, _, _, _, _, _, _, rfl, (SN0.out.below hb), (SD0.out.below hb), hl0⟩ h2)
    refine po rfl (fun lq aq wq hk hr K hK => ?_) ?_
    · obtain ⟨v2, E2, r2⟩ := hk.dp hr 2 5 (by kernel_rfl)
      have r2 : QP wq v2 z a := r2
      exact yc hK (by go_simp) (down_v wq r2) (fun u w1 hu w2 h2 => (hu).grow h2)
    refine po rfl (fun lq aq wq hk hr K hK => ?_) ?_
    · obtain ⟨v1, E1, r1⟩ := hk.dp hr 1 4 (by kernel_rfl)
      have r1 : WV wq v1 z := r1
      obtain ⟨v3, E3, r3⟩ := hk.dp hr 3 6 (by kernel_rfl)
      have r3 : WV wq v3 (((dn a : Nat) : Int)) := r3
      exact yc hK (by go_simp) (rof_v wq r1 r3 hdn9) (fun u w1 hu w2 h2 => (hu).grow h2)
    exact AllOps.nil
  intro V x1 hG hV hap
  have r1 : WV x1 (V 1) z := hV 1 (by decide)
  have r4 : RV x1 (V 4) ((Rat.divInt z ((dn a : Nat) : Int))) := hV 4 (by decide)
  clear hV hap
  simp only [List.take_succ_cons, List.take_zero, List.drop_succ_cons, List.drop_zero, putAll, Act.put, List.setIfInBounds_toArray, List.set_cons_zero, List.set_cons_succ]
  have hb := grows_of hG
  obtain ⟨nR, AR, kR, cR, BR, jR, dR, y9, eR, ey, hQ, HQ, c0, c1, c2⟩ := ret3 r4 (DR.out.below hb) (HB.out.trans (Below.mono hb HB.out.size)) (by omega)
  simp only [eR]
  refine wpList_of_skip rfl (op_store3 2 7 _ rfl rfl (DR.out.below hb)) ?_
  rw [ey]
  clear eR ey hb hG HB DR
  go_wp2_with fail
  refine bodyPost_ret (v := .agg #[.bool nR, .slice AR kR cR, .slice BR jR dR]) (by simp [results, Tryz.results16, go_sem, c0, c1, c2]) rfl ⟨_, rfl, (RV.to hQ (divInt_dn z a)), HQ⟩
theorem rmadeQ_v (w : World) {u : Value} {q : Rat} (h0 : QV w u q) : Calls Tryz.prog 16 #[u] w fun e w' => ∃ r, e = .returned r ∧ RV w' r q ∧ Grows w w' := by
  obtain ⟨z, a, h, e⟩ := h0.parts
  subst e
  exact rmadeP_v w h
end Go.Proofs.YtbippecchpaleaaGreatDoor
