import Derived.Test.YtbippecchpaleaaGreatDoorGRefQ3
import Derived.Test.YtbippecchpaleaaGreatDoorGRatF
/- litmusref03.Floor, Ceil, Text: what each returns. -/
namespace Go.Num
theorem floor_pos {q : Rat} (h : ¬ q.num < 0) : ((q.num.natAbs / q.den : Nat) : Int) = q.floor := by
  rw [Rat.floor_def, Int.natCast_ediv, Int.natAbs_of_nonneg (by omega)]
theorem ediv_is {x d k : Int} (hd : 0 < d) (h1 : k * d ≤ x) (h2 : x < (k + 1) * d) : x / d = k := by
  have e1 := (Int.le_ediv_iff_mul_le hd).2 h1
  have e2 := (Int.ediv_lt_iff_lt_mul hd).2 h2
  omega
theorem floor_down {q : Rat} (h : q.num < 0) (hr : q.num.natAbs % q.den ≠ 0) : -((q.num.natAbs / q.den + 1 : Nat) : Int) = q.floor := by
  rw [Rat.floor_def]
  symm
  have hd : (0 : Int) < (q.den : Int) := by have := q.den_pos; omega
  have hn : q.num = -(q.num.natAbs : Int) := by omega
  have hm := Nat.div_add_mod q.num.natAbs q.den
  have hlt := Nat.mod_lt q.num.natAbs q.den_pos
  generalize q.num.natAbs / q.den = k at *
  generalize q.num.natAbs % q.den = r at *
  have hm' : (q.den : Int) * (k : Int) + (r : Int) = (q.num.natAbs : Int) := by rw [← hm]; simp
  have e1 : -((k + 1 : Nat) : Int) * (q.den : Int) = -((q.den : Int) * (k : Int)) - (q.den : Int) := by
    rw [Int.natCast_add, Int.neg_mul, Int.add_mul, Int.mul_comm]; simp; omega
  have e2 : (-((k + 1 : Nat) : Int) + 1) * (q.den : Int) = -((q.den : Int) * (k : Int)) := by
    rw [Int.add_mul, e1]; omega
  refine ediv_is hd ?_ ?_
  · rw [e1]; omega
  · rw [e2]; omega
theorem floor_exact {q : Rat} (h : q.num < 0) (hr : q.num.natAbs % q.den = 0) : -((q.num.natAbs / q.den : Nat) : Int) = q.floor := by
  rw [Rat.floor_def]
  symm
  have hd : (0 : Int) < (q.den : Int) := by have := q.den_pos; omega
  have hm := Nat.div_add_mod q.num.natAbs q.den
  rw [hr] at hm
  generalize q.num.natAbs / q.den = k at *
  have hm' : (q.den : Int) * (k : Int) = (q.num.natAbs : Int) := by rw [← hm]; simp
  have e1 : -((k : Nat) : Int) * (q.den : Int) = -((q.den : Int) * (k : Int)) := by
    rw [Int.neg_mul, Int.mul_comm]
  have e2 : (-((k : Nat) : Int) + 1) * (q.den : Int) = -((q.den : Int) * (k : Int)) + (q.den : Int) := by
    rw [Int.add_mul, e1]; omega
  refine ediv_is hd ?_ ?_
  · rw [e1]; omega
  · rw [e2]; omega
end Go.Num
namespace Go.Proofs.YtbippecchpaleaaGreatDoor
open Go.RowKit Go.Num Go.Kp
attribute [local go_sem] Oper.semAt_some u64_mask ev_const ev_func ev_global
set_option maxHeartbeats 16000000 in
set_option maxRecDepth 100000 in
theorem rfloor_v (w : World) {u : Value} {q : Rat} (h0 : QV w u q) (hqs : szz q.num ≤ 999) : Calls Tryz.prog 34 #[u] w fun e w' => ∃ r, e = .returned r ∧ ZV w' r q.floor ∧ Grows w w' := by
  obtain ⟨n0, A0, k0, c0, B0, j0, d0, rfl, z0, l0, a0, s0, t0, hl0, e0⟩ := h0
  have hk0 : szz z0 ≤ 1000 := s0.size
  go_enter Tryz.func34, Tryz.ntmps34
  go_upto_region 1 with fail
  obtain ⟨x0, ex0, HB, D0, DR⟩ := st_32 w 26 (.bool n0) (.slice A0 k0 c0) (.slice B0 j0 d0) 24 (.bool false) (.slice none 0 0)
  rw [ex0]
  clear ex0
  replace HB := Lib.hid HB
  replace D0 := Lib.hid D0
  replace DR := Lib.hid DR
  have SN0 := Lib.hid (s0.below HB.out)
  clear s0
  have SD0 := Lib.hid (t0.below HB.out)
  clear t0
  refine wp_region_calm 2 [] ([fun vq wq => QV wq vq q,
      fun vq wq => RV wq vq q]) (by kernel_rfl) (by decide) ?_ ?_ ?_
  · intro j hj; cases hj
  · refine po rfl (fun lq aq wq hk hr K hK => ?_) ?_
    · have B1 : ev aq (.tmp 1) = .pointer (some ⟨w.heap.size, 0, none⟩) := hk.base 1 (by kernel_rfl) rfl
      have hb : Below _ _ _ := hk.ext
      exact vc hK (op_load3 1 _ B1 (D0.out.below hb)) (fun w2 h2 => QV.grow ⟨_, _, _, _, _, _, _, rfl, _, _, _, (SN0.out.below hb), (SD0.out.below hb), hl0, e0⟩ h2)
    refine po rfl (fun lq aq wq hk hr K hK => ?_) ?_
    · obtain ⟨v0, E0, r0⟩ := hk.dp hr 0 6 (by kernel_rfl)
      have r0 : QV wq v0 q := r0
      exact yc hK (by go_simp) (rmadeQ_v wq r0) (fun u w1 hu w2 h2 => (hu).grow h2)
    exact AllOps.nil
  intro V x1 hG hV hap
  have r1 : RV x1 (V 1) q := hV 1 (by decide)
  clear hV hap
  simp only [List.take_succ_cons, List.take_zero, List.drop_succ_cons, List.drop_zero, putAll, Act.put, List.setIfInBounds_toArray, List.set_cons_zero, List.set_cons_succ]
  have hb := (show Below _ _ _ from hG)
  obtain ⟨nm2, Am2, km2, cm2, Bm2, jm2, dm2, em2, sm2, tm2, hdm2⟩ := r1
  simp only [em2]
  clear em2
  clear hG
  replace D0 := D0.out.below hb
  refine wpList_of_skip rfl (op_store3 1 7 _ rfl rfl D0) ?_
  replace DR := Lib.hid (Box2.put3_far (x' := .bool nm2) (y' := .slice Am2 km2 cm2) (z' := .slice Bm2 jm2 dm2) (DR.out.below hb) (show w.heap.size + 1 ≠ w.heap.size by omega))
  replace SN0 := Lib.hid (sm2.put3 D0 (.bool nm2) (.slice Am2 km2 cm2) (.slice Bm2 jm2 dm2))
  replace SD0 := Lib.hid (tm2.put3 D0 (.bool nm2) (.slice Am2 km2 cm2) (.slice Bm2 jm2 dm2))
  replace HB := Lib.hid (put3_below (x' := .bool nm2) (y' := .slice Am2 km2 cm2) (z' := .slice Bm2 jm2 dm2) (HB.out.trans (Below.mono hb HB.out.size)) (show w.heap.size ≤ w.heap.size by omega))
  replace D0 := Lib.hid (put3_own (x' := .bool nm2) (y' := .slice Am2 km2 cm2) (z' := .slice Bm2 jm2 dm2) D0)
  clear hb sm2 tm2
  generalize put3 x1 w.heap.size (.bool nm2) (.slice Am2 km2 cm2) (.slice Bm2 jm2 dm2) = y3 at *
  replace e0 := Lib.hid e0
  have hsd : (limbs q.den).length ≤ 1000 := hdm2
  have hsq : sz (q.num.natAbs / q.den) ≤ 999 := Nat.le_trans (sz_mono (Nat.div_le_self _ _)) hqs
  have hsr : sz (q.num.natAbs % q.den) ≤ 1000 := Nat.le_trans (sz_mono (Nat.mod_le _ _)) SN0.out.short
  have hs1 : sz (q.num.natAbs / q.den + 1) ≤ 1000 := by have h := szz_add (a := ((q.num.natAbs / q.den : Nat) : Int)) (b := 1) (i := 999) (j := 1) (by unfold szz; rw [Int.natAbs_natCast]; exact hsq) (sz_le (by decide)); unfold szz at h; rw [show (((q.num.natAbs / q.den : Nat) : Int) + 1).natAbs = q.num.natAbs / q.den + 1 by generalize q.num.natAbs / q.den = k9; omega] at h; exact h
  have hsq' : sz (q.num.natAbs / q.den) ≤ 1000 := by omega
  have hfl : szz q.floor ≤ 1000 := by rw [← qfloor]; exact Nat.le_trans (szz_fdiv _ hqs) (by decide)
  have hng : nm2 = decide (q.num < 0) := SN0.out.sign
  go_upto_region 2 with fail
  refine wp_region_calm 10 [] ([fun vq _ => vq = .pointer (some ⟨w.heap.size, 0, none⟩),
      fun vq _ => vq = .pointer (some ⟨w.heap.size, 1, none⟩),
      fun vq _ => vq = .slice Am2 km2 cm2,
      fun vq _ => vq = .pointer (some ⟨w.heap.size, 2, none⟩),
      fun vq _ => vq = .slice Bm2 jm2 dm2,
      fun vq wq => ∃ u0 u1, vq = .tuple #[u0, u1, .int .i64 0] ∧ LV wq u0 ((limbs (q.num.natAbs / q.den))) ((q.num.natAbs / q.den)) ∧ LV wq u1 ((limbs (q.num.natAbs % q.den))) ((q.num.natAbs % q.den)),
      fun vq wq => ∃ u0 u1, vq = .tuple #[u0, u1, .int .i64 0] ∧ LV wq u0 ((limbs (q.num.natAbs / q.den))) ((q.num.natAbs / q.den)) ∧ LV wq u1 ((limbs (q.num.natAbs % q.den))) ((q.num.natAbs % q.den)),
      fun vq wq => LV wq vq ((limbs (q.num.natAbs / q.den))) ((q.num.natAbs / q.den)),
      fun vq wq => LV wq vq ((limbs (q.num.natAbs % q.den))) ((q.num.natAbs % q.den)),
      fun vq _ => vq = .int .i64 0]) (by kernel_rfl) (by decide) ?_ ?_ ?_
  · intro j hj; cases hj
  · refine po rfl (fun lq aq wq hk hr K hK => ?_) ?_
    · have B1 : ev aq (.tmp 1) = .pointer (some ⟨w.heap.size, 0, none⟩) := hk.base 1 (by kernel_rfl) rfl
      exact vc hK (by go_simp) (fun w2 h2 => rfl)
    refine po rfl (fun lq aq wq hk hr K hK => ?_) ?_
    · have E0 : ev aq (.tmp 9) = .pointer (some ⟨w.heap.size, 0, none⟩) := hk.dc hr 0 (by kernel_rfl) fun _ _ h => h
      exact vc hK (by go_simp) (fun w2 h2 => rfl)
    refine po rfl (fun lq aq wq hk hr K hK => ?_) ?_
    · have E1 : ev aq (.tmp 10) = .pointer (some ⟨w.heap.size, 1, none⟩) := hk.dc hr 1 (by kernel_rfl) fun _ _ h => h
      have hb : Below _ _ _ := hk.ext
      have c1 := (D0.out.below hb).c1
      exact vc hK (by go_simp) (fun w2 h2 => rfl)
    refine po rfl (fun lq aq wq hk hr K hK => ?_) ?_
    · have B1 : ev aq (.tmp 1) = .pointer (some ⟨w.heap.size, 0, none⟩) := hk.base 1 (by kernel_rfl) rfl
      exact vc hK (by go_simp) (fun w2 h2 => rfl)
    refine po rfl (fun lq aq wq hk hr K hK => ?_) ?_
    · have E3 : ev aq (.tmp 12) = .pointer (some ⟨w.heap.size, 2, none⟩) := hk.dc hr 3 (by kernel_rfl) fun _ _ h => h
      have hb : Below _ _ _ := hk.ext
      have c2 := (D0.out.below hb).c2
      exact vc hK (by go_simp) (fun w2 h2 => rfl)
    refine po rfl (fun lq aq wq hk hr K hK => ?_) ?_
    · have E2 : ev aq (.tmp 11) = .slice Am2 km2 cm2 := hk.dc hr 2 (by kernel_rfl) fun _ _ h => h
      have E4 : ev aq (.tmp 13) = .slice Bm2 jm2 dm2 := hk.dc hr 4 (by kernel_rfl) fun _ _ h => h
      exact yc hK (by go_simp) (rdivn_v wq (SN0.out.num.below hk.ext).lv (SD0.out.below hk.ext).lv SN0.out.short hdm2 q.den_pos) (fun u w1 hu w2 h2 => (let ⟨u0, u1, e0, h0, h1⟩ := hu; ⟨u0, u1, e0, (h0).grow h2, (h1).grow h2⟩))
    refine po rfl (fun lq aq wq hk hr K hK => ?_) ?_
    · obtain ⟨v5, E5, r5⟩ := hk.dp hr 5 14 (by kernel_rfl)
      have r5 : ∃ u0 u1, v5 = .tuple #[u0, u1, .int .i64 0] ∧ LV wq u0 ((limbs (q.num.natAbs / q.den))) ((q.num.natAbs / q.den)) ∧ LV wq u1 ((limbs (q.num.natAbs % q.den))) ((q.num.natAbs % q.den)) := r5
      exact vc hK (by go_simp) (fun w2 h2 => (let ⟨u0, u1, e0, h0, h1⟩ := r5; ⟨u0, u1, e0, (h0).grow h2, (h1).grow h2⟩))
    refine po rfl (fun lq aq wq hk hr K hK => ?_) ?_
    · obtain ⟨v6, E6, r6⟩ := hk.dp hr 6 8 (by kernel_rfl)
      have r6 : ∃ u0 u1, v6 = .tuple #[u0, u1, .int .i64 0] ∧ LV wq u0 ((limbs (q.num.natAbs / q.den))) ((q.num.natAbs / q.den)) ∧ LV wq u1 ((limbs (q.num.natAbs % q.den))) ((q.num.natAbs % q.den)) := r6
      obtain ⟨u0, u1, rfl, h0, h1⟩ := r6
      exact vc hK (by go_simp) (fun w2 h2 => (h0).grow h2)
    refine po rfl (fun lq aq wq hk hr K hK => ?_) ?_
    · obtain ⟨v6, E6, r6⟩ := hk.dp hr 6 8 (by kernel_rfl)
      have r6 : ∃ u0 u1, v6 = .tuple #[u0, u1, .int .i64 0] ∧ LV wq u0 ((limbs (q.num.natAbs / q.den))) ((q.num.natAbs / q.den)) ∧ LV wq u1 ((limbs (q.num.natAbs % q.den))) ((q.num.natAbs % q.den)) := r6
      obtain ⟨u0, u1, rfl, h0, h1⟩ := r6
      exact vc hK (by go_simp) (fun w2 h2 => (h1).grow h2)
    refine po rfl (fun lq aq wq hk hr K hK => ?_) ?_
    · obtain ⟨v6, E6, r6⟩ := hk.dp hr 6 8 (by kernel_rfl)
      have r6 : ∃ u0 u1, v6 = .tuple #[u0, u1, .int .i64 0] ∧ LV wq u0 ((limbs (q.num.natAbs / q.den))) ((q.num.natAbs / q.den)) ∧ LV wq u1 ((limbs (q.num.natAbs % q.den))) ((q.num.natAbs % q.den)) := r6
      obtain ⟨u0, u1, rfl, h0, h1⟩ := r6
      exact vc hK (by go_simp) (fun w2 h2 => rfl)
    exact AllOps.nil
  intro V x4 hG hV hap
  have r0 : (V 0) = .pointer (some ⟨w.heap.size, 0, none⟩) := hV 0 (by decide)
  have r6 : ∃ u0 u1, (V 6) = .tuple #[u0, u1, .int .i64 0] ∧ LV x4 u0 ((limbs (q.num.natAbs / q.den))) ((q.num.natAbs / q.den)) ∧ LV x4 u1 ((limbs (q.num.natAbs % q.den))) ((q.num.natAbs % q.den)) := hV 6 (by decide)
  have r7 : LV x4 (V 7) ((limbs (q.num.natAbs / q.den))) ((q.num.natAbs / q.den)) := hV 7 (by decide)
  have r8 : LV x4 (V 8) ((limbs (q.num.natAbs % q.den))) ((q.num.natAbs % q.den)) := hV 8 (by decide)
  have r9 : (V 9) = .int .i64 0 := hV 9 (by decide)
  clear hV hap
  simp only [List.take_succ_cons, List.take_zero, List.drop_succ_cons, List.drop_zero, putAll, Act.put, List.setIfInBounds_toArray, List.set_cons_zero, List.set_cons_succ]
  have hb := (show Below _ _ _ from hG)
  replace D0 := Lib.hid (D0.out.below hb)
  replace SN0 := Lib.hid (SN0.out.below hb)
  replace SD0 := Lib.hid (SD0.out.below hb)
  replace DR := Lib.hid (DR.out.below hb)
  replace HB := Lib.hid (HB.out.trans (Below.mono hb HB.out.size))
  clear hb hG
  rw [r9]
  clear r9
  obtain ⟨A3, c3, e3, q3⟩ := r7
  simp only [e3]
  rw [e3] at q3
  have Q3 := Lib.hid q3
  clear e3 q3
  obtain ⟨A4, c4, e4, q4⟩ := r8
  simp only [e4]
  rw [e4] at q4
  have Q4 := Lib.hid q4
  clear e4 q4
  rcases Decidable.em (q.num < 0) with hneg | hneg
  · skip
    have hnb : nm2 = true := by rw [hng]; exact decide_eq_true hneg
    subst hnb
    clear hng
    rcases Nat.eq_zero_or_pos (q.num.natAbs % q.den) with hr | hr
    · skip
      have hlen : (limbs (q.num.natAbs % q.den)).length = 0 := by rw [hr, limbs_zero]; rfl
      have q4 := Q4.out
      rw [hlen] at q4 ⊢
      clear Q4 q4
      go_upto_region 3 with fail
      refine wp_region_calm 8 [] ([fun vq _ => vq = .pointer (some ⟨w.heap.size, 0, none⟩),
          fun vq _ => vq = .pointer (some ⟨w.heap.size, 0, none⟩),
          fun vq _ => vq = .bool true,
          fun vq _ => vq = .bool true,
          fun vq _ => vq = .slice A4 0 c4,
          fun vq _ => vq = .int .i64 0,
          fun vq _ => vq = .bool false,
          fun vq _ => vq = .bool false]) (by kernel_rfl) (by decide) ?_ ?_ ?_
      · intro j hj; cases hj
      · refine po rfl (fun lq aq wq hk hr K hK => ?_) ?_
        · have B1 : ev aq (.tmp 1) = .pointer (some ⟨w.heap.size, 0, none⟩) := hk.base 1 (by kernel_rfl) rfl
          exact vc hK (by go_simp) (fun w2 h2 => rfl)
        refine po rfl (fun lq aq wq hk hr K hK => ?_) ?_
        · have E0 : ev aq (.tmp 18) = .pointer (some ⟨w.heap.size, 0, none⟩) := hk.dc hr 0 (by kernel_rfl) fun _ _ h => h
          exact vc hK (by go_simp) (fun w2 h2 => rfl)
        refine po rfl (fun lq aq wq hk hr K hK => ?_) ?_
        · have E1 : ev aq (.tmp 19) = .pointer (some ⟨w.heap.size, 0, none⟩) := hk.dc hr 1 (by kernel_rfl) fun _ _ h => h
          have hb : Below _ _ _ := hk.ext
          have c0 := (D0.out.below hb).c0
          exact vc hK (by go_simp) (fun w2 h2 => rfl)
        refine po rfl (fun lq aq wq hk hr K hK => ?_) ?_
        · have E2 : ev aq (.tmp 20) = .bool true := hk.dc hr 2 (by kernel_rfl) fun _ _ h => h
          exact vc hK (by go_simp) (fun w2 h2 => rfl)
        refine pl 3 21 true rfl (by kernel_rfl) (fun _ _ h => h) (fun lq aq wq hk hr K hK => ?_) ?_
        · have B4 : ev aq (.tmp 4) = .slice A4 0 c4 := hk.base 4 (by kernel_rfl) rfl
          exact vc hK (by go_simp) (fun w2 h2 => rfl)
        refine pl 3 21 true rfl (by kernel_rfl) (fun _ _ h => h) (fun lq aq wq hk hr K hK => ?_) ?_
        · have E4 : ev aq (.tmp 22) = .slice A4 0 c4 := hk.dc hr 4 (by kernel_rfl) fun _ _ h => h
          exact vc hK (by go_simp) (fun w2 h2 => rfl)
        refine pl 3 21 true rfl (by kernel_rfl) (fun _ _ h => h) (fun lq aq wq hk hr K hK => ?_) ?_
        · have E5 : ev aq (.tmp 23) = .int .i64 0 := hk.dc hr 5 (by kernel_rfl) fun _ _ h => h
          exact vc hK (by go_simp) (fun w2 h2 => rfl)
        refine po rfl (fun lq aq wq hk hr K hK => ?_) ?_
        · have E3 : ev aq (.tmp 21) = .bool true := hk.dc hr 3 (by kernel_rfl) fun _ _ h => h
          have E6 : ev aq (.tmp 24) = .bool false := hk.dc hr 6 (by kernel_rfl) fun _ _ h => h
          exact vc hK (by go_simp) (fun w2 h2 => rfl)
        exact AllOps.nil
      intro V x5 hG hV hap
      have r7 : (V 7) = .bool false := hV 7 (by decide)
      clear hV hap
      simp only [List.take_succ_cons, List.take_nil, List.drop_succ_cons, List.drop_nil, putAll, Act.put, List.setIfInBounds_toArray, List.set_cons_zero, List.set_cons_succ]
      have hb := (show Below _ _ _ from hG)
      replace D0 := Lib.hid (D0.out.below hb)
      replace SN0 := Lib.hid (SN0.out.below hb)
      replace SD0 := Lib.hid (SD0.out.below hb)
      replace DR := Lib.hid (DR.out.below hb)
      replace Q3 := Lib.hid (Q3.out.below hb)
      replace HB := Lib.hid (HB.out.trans (Below.mono hb HB.out.size))
      clear hb hG
      rw [r7]
      clear r7
      have he : sg true (q.num.natAbs / q.den) = q.floor := floor_exact hneg hr
      go_upto_region 5 with fail
      refine wp_region_calm 6 [] ([fun vq _ => vq = .pointer (some ⟨w.heap.size, 0, none⟩),
          fun vq _ => vq = .pointer (some ⟨w.heap.size, 0, none⟩),
          fun vq _ => vq = .bool true,
          fun vq _ => vq = .slice A3 (limbs (q.num.natAbs / q.den)).length c3,
          fun vq wq => WV wq vq q.floor,
          fun vq wq => ZV wq vq q.floor]) (by kernel_rfl) (by decide) ?_ ?_ ?_
      · intro j hj; cases hj
      · refine po rfl (fun lq aq wq hk hr K hK => ?_) ?_
        · have B1 : ev aq (.tmp 1) = .pointer (some ⟨w.heap.size, 0, none⟩) := hk.base 1 (by kernel_rfl) rfl
          exact vc hK (by go_simp) (fun w2 h2 => rfl)
        refine po rfl (fun lq aq wq hk hr K hK => ?_) ?_
        · have E0 : ev aq (.tmp 29) = .pointer (some ⟨w.heap.size, 0, none⟩) := hk.dc hr 0 (by kernel_rfl) fun _ _ h => h
          exact vc hK (by go_simp) (fun w2 h2 => rfl)
        refine po rfl (fun lq aq wq hk hr K hK => ?_) ?_
        · have E1 : ev aq (.tmp 30) = .pointer (some ⟨w.heap.size, 0, none⟩) := hk.dc hr 1 (by kernel_rfl) fun _ _ h => h
          have hb : Below _ _ _ := hk.ext
          have c0 := (D0.out.below hb).c0
          exact vc hK (by go_simp) (fun w2 h2 => rfl)
        refine po rfl (fun lq aq wq hk hr K hK => ?_) ?_
        · have B3 : ev aq (.tmp 3) = .slice A3 (limbs (q.num.natAbs / q.den)).length c3 := hk.base 3 (by kernel_rfl) rfl
          exact vc hK (by go_simp) (fun w2 h2 => rfl)
        refine po rfl (fun lq aq wq hk hr K hK => ?_) ?_
        · have E2 : ev aq (.tmp 31) = .bool true := hk.dc hr 2 (by kernel_rfl) fun _ _ h => h
          have E3 : ev aq (.tmp 32) = .slice A3 (limbs (q.num.natAbs / q.den)).length c3 := hk.dc hr 3 (by kernel_rfl) fun _ _ h => h
          exact vc hK (by go_simp) (fun w2 h2 => (wv_lit true (Q3.out.below hk.ext) hsq' he).grow h2)
        refine po rfl (fun lq aq wq hk hr K hK => ?_) ?_
        · obtain ⟨v4, E4, r4⟩ := hk.dp hr 4 33 (by kernel_rfl)
          have r4 : WV wq v4 q.floor := r4
          exact yc hK (by go_simp) (whole_v wq r4) (fun u w1 hu w2 h2 => (hu).grow h2)
        exact AllOps.nil
      intro V x6 hG hV hap
      have r5 : ZV x6 (V 5) q.floor := hV 5 (by decide)
      clear hV hap
      simp only [List.take_succ_cons, List.take_zero, List.drop_succ_cons, List.drop_zero, putAll, Act.put, List.setIfInBounds_toArray, List.set_cons_zero, List.set_cons_succ]
      have hb := (show Below _ _ _ from hG)
      obtain ⟨nR, AR, kR, cR, y9, eR, ey, hQ, HQ, c0, c1⟩ := ret2 r5 (DR.out.below hb) (HB.out.trans (Below.mono hb HB.out.size)) (by omega)
      simp only [eR]
      refine wpList_of_skip rfl (op_store 2 34 _ rfl rfl (DR.out.below hb)) ?_
      rw [ey]
      clear eR ey hb hG HB DR
      go_wp2_with fail
      refine bodyPost_ret (v := .agg #[.bool nR, .slice AR kR cR]) (by simp [results, Tryz.results34, go_sem, c0, c1]) rfl ⟨_, rfl, hQ, HQ⟩
    · skip
      obtain ⟨m, hlen, hm9⟩ : ∃ m, (limbs (q.num.natAbs % q.den)).length = m + 1 ∧ m < 1000 := by
        obtain ⟨m, hlen⟩ : ∃ m, (limbs (q.num.natAbs % q.den)).length = m + 1 := ⟨(limbs (q.num.natAbs % q.den)).length - 1, by rw [limbs_pos (by omega)]; simp⟩
        exact ⟨m, hlen, by have h := hsr; unfold sz at h; omega⟩
      have q4 := Q4.out
      rw [hlen] at q4 ⊢
      clear Q4 q4
      go_upto_region 3 with fail
      refine wp_region_calm 8 [] ([fun vq _ => vq = .pointer (some ⟨w.heap.size, 0, none⟩),
          fun vq _ => vq = .pointer (some ⟨w.heap.size, 0, none⟩),
          fun vq _ => vq = .bool true,
          fun vq _ => vq = .bool true,
          fun vq _ => vq = .slice A4 (m + 1) c4,
          fun vq _ => vq = .int .i64 (m + 1),
          fun vq _ => vq = .bool true,
          fun vq _ => vq = .bool true]) (by kernel_rfl) (by decide) ?_ ?_ ?_
      · intro j hj; cases hj
      · refine po rfl (fun lq aq wq hk hr K hK => ?_) ?_
        · have B1 : ev aq (.tmp 1) = .pointer (some ⟨w.heap.size, 0, none⟩) := hk.base 1 (by kernel_rfl) rfl
          exact vc hK (by go_simp) (fun w2 h2 => rfl)
        refine po rfl (fun lq aq wq hk hr K hK => ?_) ?_
        · have E0 : ev aq (.tmp 18) = .pointer (some ⟨w.heap.size, 0, none⟩) := hk.dc hr 0 (by kernel_rfl) fun _ _ h => h
          exact vc hK (by go_simp) (fun w2 h2 => rfl)
        refine po rfl (fun lq aq wq hk hr K hK => ?_) ?_
        · have E1 : ev aq (.tmp 19) = .pointer (some ⟨w.heap.size, 0, none⟩) := hk.dc hr 1 (by kernel_rfl) fun _ _ h => h
          have hb : Below _ _ _ := hk.ext
          have c0 := (D0.out.below hb).c0
          exact vc hK (by go_simp) (fun w2 h2 => rfl)
        refine po rfl (fun lq aq wq hk hr K hK => ?_) ?_
        · have E2 : ev aq (.tmp 20) = .bool true := hk.dc hr 2 (by kernel_rfl) fun _ _ h => h
          exact vc hK (by go_simp) (fun w2 h2 => rfl)
        refine pl 3 21 true rfl (by kernel_rfl) (fun _ _ h => h) (fun lq aq wq hk hr K hK => ?_) ?_
        · have B4 : ev aq (.tmp 4) = .slice A4 (m + 1) c4 := hk.base 4 (by kernel_rfl) rfl
          exact vc hK (by go_simp) (fun w2 h2 => rfl)
        refine pl 3 21 true rfl (by kernel_rfl) (fun _ _ h => h) (fun lq aq wq hk hr K hK => ?_) ?_
        · have E4 : ev aq (.tmp 22) = .slice A4 (m + 1) c4 := hk.dc hr 4 (by kernel_rfl) fun _ _ h => h
          exact vc hK (by go_simp) (fun w2 h2 => rfl)
        refine pl 3 21 true rfl (by kernel_rfl) (fun _ _ h => h) (fun lq aq wq hk hr K hK => ?_) ?_
        · have E5 : ev aq (.tmp 23) = .int .i64 (m + 1) := hk.dc hr 5 (by kernel_rfl) fun _ _ h => h
          exact vc hK (by first | (go_simp; done) | (go_simp; omega)) (fun w2 h2 => rfl)
        refine po rfl (fun lq aq wq hk hr K hK => ?_) ?_
        · have E3 : ev aq (.tmp 21) = .bool true := hk.dc hr 3 (by kernel_rfl) fun _ _ h => h
          have E6 : ev aq (.tmp 24) = .bool true := hk.dc hr 6 (by kernel_rfl) fun _ _ h => h
          exact vc hK (by go_simp) (fun w2 h2 => rfl)
        exact AllOps.nil
      intro V x5 hG hV hap
      have r7 : (V 7) = .bool true := hV 7 (by decide)
      clear hV hap
      simp only [List.take_succ_cons, List.take_nil, List.drop_succ_cons, List.drop_nil, putAll, Act.put, List.setIfInBounds_toArray, List.set_cons_zero, List.set_cons_succ]
      have hb := (show Below _ _ _ from hG)
      replace D0 := Lib.hid (D0.out.below hb)
      replace SN0 := Lib.hid (SN0.out.below hb)
      replace SD0 := Lib.hid (SD0.out.below hb)
      replace DR := Lib.hid (DR.out.below hb)
      replace Q3 := Lib.hid (Q3.out.below hb)
      replace HB := Lib.hid (HB.out.trans (Below.mono hb HB.out.size))
      clear hb hG
      rw [r7]
      clear r7 hlen
      go_upto_region 4 with fail
      refine wp_region_calm 3 [] ([fun vq _ => vq = .slice A3 (limbs (q.num.natAbs / q.den)).length c3,
          fun vq wq => LV wq vq ([1]) 1,
          fun vq wq => LV wq vq ((limbs ((q.num.natAbs / q.den) + 1))) (((q.num.natAbs / q.den) + 1))]) (by kernel_rfl) (by decide) ?_ ?_ ?_
      · intro j hj; cases hj
      · refine po rfl (fun lq aq wq hk hr K hK => ?_) ?_
        · have B3 : ev aq (.tmp 3) = .slice A3 (limbs (q.num.natAbs / q.den)).length c3 := hk.base 3 (by kernel_rfl) rfl
          exact vc hK (by go_simp) (fun w2 h2 => rfl)
        refine po rfl (fun lq aq wq hk hr K hK => ?_) ?_
        · exact wp_of_value (by go_simp) (hK.out _ _ ((Grows.refl _).alloc _) (fun w2 h2 => (lit_lv wq 43 (cs := #[.int .u32 1]) (n := 1) [1] 1 rfl rfl (by decide) (by decide)).grow h2) (fun h => absurd h (by decide)))
        refine po rfl (fun lq aq wq hk hr K hK => ?_) ?_
        · have E0 : ev aq (.tmp 26) = .slice A3 (limbs (q.num.natAbs / q.den)).length c3 := hk.dc hr 0 (by kernel_rfl) fun _ _ h => h
          obtain ⟨v1, E1, r1⟩ := hk.dp hr 1 27 (by kernel_rfl)
          have r1 : LV wq v1 ([1]) 1 := r1
          exact yc hK (by go_simp) (raddn_v wq (Q3.out.below hk.ext).lv r1 hsq' (by decide) hs1) (fun u w1 hu w2 h2 => (hu).grow h2)
        exact AllOps.nil
      intro V x6 hG hV hap
      have r2 : LV x6 (V 2) ((limbs ((q.num.natAbs / q.den) + 1))) (((q.num.natAbs / q.den) + 1)) := hV 2 (by decide)
      clear hV hap
      simp only [List.take_succ_cons, List.take_zero, List.drop_succ_cons, List.drop_zero, putAll, Act.put, List.setIfInBounds_toArray, List.set_cons_zero, List.set_cons_succ]
      have hb := (show Below _ _ _ from hG)
      replace D0 := Lib.hid (D0.out.below hb)
      replace SN0 := Lib.hid (SN0.out.below hb)
      replace SD0 := Lib.hid (SD0.out.below hb)
      replace DR := Lib.hid (DR.out.below hb)
      replace Q3 := Lib.hid (Q3.out.below hb)
      replace HB := Lib.hid (HB.out.trans (Below.mono hb HB.out.size))
      clear hb hG
      obtain ⟨A5, c5, e5, q5⟩ := r2
      simp only [e5]
      rw [e5] at q5
      have Q5 := Lib.hid q5
      clear e5 q5
      clear Q3
      have he : sg true (q.num.natAbs / q.den + 1) = q.floor := floor_down hneg (by omega)
      go_upto_region 5 with fail
      refine wp_region_calm 6 [] ([fun vq _ => vq = .pointer (some ⟨w.heap.size, 0, none⟩),
          fun vq _ => vq = .pointer (some ⟨w.heap.size, 0, none⟩),
          fun vq _ => vq = .bool true,
          fun vq _ => vq = .slice A5 (limbs (q.num.natAbs / q.den + 1)).length c5,
          fun vq wq => WV wq vq q.floor,
          fun vq wq => ZV wq vq q.floor]) (by kernel_rfl) (by decide) ?_ ?_ ?_
      · intro j hj; cases hj
      · refine po rfl (fun lq aq wq hk hr K hK => ?_) ?_
        · have B1 : ev aq (.tmp 1) = .pointer (some ⟨w.heap.size, 0, none⟩) := hk.base 1 (by kernel_rfl) rfl
          exact vc hK (by go_simp) (fun w2 h2 => rfl)
        refine po rfl (fun lq aq wq hk hr K hK => ?_) ?_
        · have E0 : ev aq (.tmp 29) = .pointer (some ⟨w.heap.size, 0, none⟩) := hk.dc hr 0 (by kernel_rfl) fun _ _ h => h
          exact vc hK (by go_simp) (fun w2 h2 => rfl)
        refine po rfl (fun lq aq wq hk hr K hK => ?_) ?_
        · have E1 : ev aq (.tmp 30) = .pointer (some ⟨w.heap.size, 0, none⟩) := hk.dc hr 1 (by kernel_rfl) fun _ _ h => h
          have hb : Below _ _ _ := hk.ext
          have c0 := (D0.out.below hb).c0
          exact vc hK (by go_simp) (fun w2 h2 => rfl)
        refine po rfl (fun lq aq wq hk hr K hK => ?_) ?_
        · have B3 : ev aq (.tmp 3) = .slice A5 (limbs (q.num.natAbs / q.den + 1)).length c5 := hk.base 3 (by kernel_rfl) rfl
          exact vc hK (by go_simp) (fun w2 h2 => rfl)
        refine po rfl (fun lq aq wq hk hr K hK => ?_) ?_
        · have E2 : ev aq (.tmp 31) = .bool true := hk.dc hr 2 (by kernel_rfl) fun _ _ h => h
          have E3 : ev aq (.tmp 32) = .slice A5 (limbs (q.num.natAbs / q.den + 1)).length c5 := hk.dc hr 3 (by kernel_rfl) fun _ _ h => h
          exact vc hK (by go_simp) (fun w2 h2 => (wv_lit true (Q5.out.below hk.ext) hs1 he).grow h2)
        refine po rfl (fun lq aq wq hk hr K hK => ?_) ?_
        · obtain ⟨v4, E4, r4⟩ := hk.dp hr 4 33 (by kernel_rfl)
          have r4 : WV wq v4 q.floor := r4
          exact yc hK (by go_simp) (whole_v wq r4) (fun u w1 hu w2 h2 => (hu).grow h2)
        exact AllOps.nil
      intro V x7 hG hV hap
      have r5 : ZV x7 (V 5) q.floor := hV 5 (by decide)
      clear hV hap
      simp only [List.take_succ_cons, List.take_zero, List.drop_succ_cons, List.drop_zero, putAll, Act.put, List.setIfInBounds_toArray, List.set_cons_zero, List.set_cons_succ]
      have hb := (show Below _ _ _ from hG)
      obtain ⟨nR, AR, kR, cR, y9, eR, ey, hQ, HQ, c0, c1⟩ := ret2 r5 (DR.out.below hb) (HB.out.trans (Below.mono hb HB.out.size)) (by omega)
      simp only [eR]
      refine wpList_of_skip rfl (op_store 2 34 _ rfl rfl (DR.out.below hb)) ?_
      rw [ey]
      clear eR ey hb hG HB DR
      go_wp2_with fail
      refine bodyPost_ret (v := .agg #[.bool nR, .slice AR kR cR]) (by simp [results, Tryz.results34, go_sem, c0, c1]) rfl ⟨_, rfl, hQ, HQ⟩
  · skip
    have hnb : nm2 = false := by rw [hng]; exact decide_eq_false hneg
    subst hnb
    clear hng
    go_upto_region 3 with fail
    refine wp_region_calm 8 [] ([fun vq _ => vq = .pointer (some ⟨w.heap.size, 0, none⟩),
        fun vq _ => vq = .pointer (some ⟨w.heap.size, 0, none⟩),
        fun vq _ => vq = .bool false,
        fun vq _ => vq = .bool false,
        fun vq _ => vq = undef,
        fun vq _ => vq = undef,
        fun vq _ => vq = undef,
        fun vq _ => vq = .bool false]) (by kernel_rfl) (by decide) ?_ ?_ ?_
    · intro j hj; cases hj
    · refine po rfl (fun lq aq wq hk hr K hK => ?_) ?_
      · have B1 : ev aq (.tmp 1) = .pointer (some ⟨w.heap.size, 0, none⟩) := hk.base 1 (by kernel_rfl) rfl
        exact vc hK (by go_simp) (fun w2 h2 => rfl)
      refine po rfl (fun lq aq wq hk hr K hK => ?_) ?_
      · have E0 : ev aq (.tmp 18) = .pointer (some ⟨w.heap.size, 0, none⟩) := hk.dc hr 0 (by kernel_rfl) fun _ _ h => h
        exact vc hK (by go_simp) (fun w2 h2 => rfl)
      refine po rfl (fun lq aq wq hk hr K hK => ?_) ?_
      · have E1 : ev aq (.tmp 19) = .pointer (some ⟨w.heap.size, 0, none⟩) := hk.dc hr 1 (by kernel_rfl) fun _ _ h => h
        have hb : Below _ _ _ := hk.ext
        have c0 := (D0.out.below hb).c0
        exact vc hK (by go_simp) (fun w2 h2 => rfl)
      refine po rfl (fun lq aq wq hk hr K hK => ?_) ?_
      · have E2 : ev aq (.tmp 20) = .bool false := hk.dc hr 2 (by kernel_rfl) fun _ _ h => h
        exact vc hK (by go_simp) (fun w2 h2 => rfl)
      refine pb 3 21 true false rfl (by kernel_rfl) (fun _ _ h => h) (by decide) (fun _ => rfl) rfl ?_
      refine pb 3 21 true false rfl (by kernel_rfl) (fun _ _ h => h) (by decide) (fun _ => rfl) rfl ?_
      refine pb 3 21 true false rfl (by kernel_rfl) (fun _ _ h => h) (by decide) (fun _ => rfl) rfl ?_
      refine po rfl (fun lq aq wq hk hr K hK => ?_) ?_
      · have E3 : ev aq (.tmp 21) = .bool false := hk.dc hr 3 (by kernel_rfl) fun _ _ h => h
        exact vc hK (by go_simp) (fun w2 h2 => rfl)
      exact AllOps.nil
    intro V x5 hG hV hap
    have r7 : (V 7) = .bool false := hV 7 (by decide)
    clear hV hap
    simp only [List.take_succ_cons, List.take_nil, List.drop_succ_cons, List.drop_nil, putAll, Act.put, List.setIfInBounds_toArray, List.set_cons_zero, List.set_cons_succ]
    have hb := (show Below _ _ _ from hG)
    replace D0 := Lib.hid (D0.out.below hb)
    replace SN0 := Lib.hid (SN0.out.below hb)
    replace SD0 := Lib.hid (SD0.out.below hb)
    replace DR := Lib.hid (DR.out.below hb)
    replace Q3 := Lib.hid (Q3.out.below hb)
    replace Q4 := Lib.hid (Q4.out.below hb)
    replace HB := Lib.hid (HB.out.trans (Below.mono hb HB.out.size))
    clear hb hG
    rw [r7]
    clear r7
    have he : sg false (q.num.natAbs / q.den) = q.floor := floor_pos hneg
    go_upto_region 5 with fail
    refine wp_region_calm 6 [] ([fun vq _ => vq = .pointer (some ⟨w.heap.size, 0, none⟩),
        fun vq _ => vq = .pointer (some ⟨w.heap.size, 0, none⟩),
        fun vq _ => vq = .bool false,
        fun vq _ => vq = .slice A3 (limbs (q.num.natAbs / q.den)).length c3,
        fun vq wq => WV wq vq q.floor,
        fun vq wq => ZV wq vq q.floor]) (by kernel_rfl) (by decide) ?_ ?_ ?_
    · intro j hj; cases hj
    · refine po rfl (fun lq aq wq hk hr K hK => ?_) ?_
      · have B1 : ev aq (.tmp 1) = .pointer (some ⟨w.heap.size, 0, none⟩) := hk.base 1 (by kernel_rfl) rfl
        exact vc hK (by go_simp) (fun w2 h2 => rfl)
      refine po rfl (fun lq aq wq hk hr K hK => ?_) ?_
      · have E0 : ev aq (.tmp 29) = .pointer (some ⟨w.heap.size, 0, none⟩) := hk.dc hr 0 (by kernel_rfl) fun _ _ h => h
        exact vc hK (by go_simp) (fun w2 h2 => rfl)
      refine po rfl (fun lq aq wq hk hr K hK => ?_) ?_
      · have E1 : ev aq (.tmp 30) = .pointer (some ⟨w.heap.size, 0, none⟩) := hk.dc hr 1 (by kernel_rfl) fun _ _ h => h
        have hb : Below _ _ _ := hk.ext
        have c0 := (D0.out.below hb).c0
        exact vc hK (by go_simp) (fun w2 h2 => rfl)
      refine po rfl (fun lq aq wq hk hr K hK => ?_) ?_
      · have B3 : ev aq (.tmp 3) = .slice A3 (limbs (q.num.natAbs / q.den)).length c3 := hk.base 3 (by kernel_rfl) rfl
        exact vc hK (by go_simp) (fun w2 h2 => rfl)
      refine po rfl (fun lq aq wq hk hr K hK => ?_) ?_
      · have E2 : ev aq (.tmp 31) = .bool false := hk.dc hr 2 (by kernel_rfl) fun _ _ h => h
        have E3 : ev aq (.tmp 32) = .slice A3 (limbs (q.num.natAbs / q.den)).length c3 := hk.dc hr 3 (by kernel_rfl) fun _ _ h => h
        exact vc hK (by go_simp) (fun w2 h2 => (wv_lit false (Q3.out.below hk.ext) hsq' he).grow h2)
      refine po rfl (fun lq aq wq hk hr K hK => ?_) ?_
      · obtain ⟨v4, E4, r4⟩ := hk.dp hr 4 33 (by kernel_rfl)
        have r4 : WV wq v4 q.floor := r4
        exact yc hK (by go_simp) (whole_v wq r4) (fun u w1 hu w2 h2 => (hu).grow h2)
      exact AllOps.nil
    intro V x6 hG hV hap
    have r5 : ZV x6 (V 5) q.floor := hV 5 (by decide)
    clear hV hap
    simp only [List.take_succ_cons, List.take_zero, List.drop_succ_cons, List.drop_zero, putAll, Act.put, List.setIfInBounds_toArray, List.set_cons_zero, List.set_cons_succ]
    have hb := (show Below _ _ _ from hG)
    obtain ⟨nR, AR, kR, cR, y9, eR, ey, hQ, HQ, c0, c1⟩ := ret2 r5 (DR.out.below hb) (HB.out.trans (Below.mono hb HB.out.size)) (by omega)
    simp only [eR]
    refine wpList_of_skip rfl (op_store 2 34 _ rfl rfl (DR.out.below hb)) ?_
    rw [ey]
    clear eR ey hb hG HB DR
    go_wp2_with fail
    refine bodyPost_ret (v := .agg #[.bool nR, .slice AR kR cR]) (by simp [results, Tryz.results34, go_sem, c0, c1]) rfl ⟨_, rfl, hQ, HQ⟩
theorem rnegQ_v (w : World) {u : Value} {q : Rat} (h0 : QV w u q) : Calls Tryz.prog 21 #[u] w fun e w' => ∃ r, e = .returned r ∧ RV w' r (-q) ∧ Grows w w' := by
  obtain ⟨z, a, h, e⟩ := h0.parts
  subst e
  exact rnegP_v w h
set_option maxHeartbeats 4000000 in
set_option maxRecDepth 100000 in
theorem rceil_v (w : World) {u : Value} {q : Rat} (h0 : QV w u q) (hqs : szz q.num ≤ 999) : Calls Tryz.prog 36 #[u] w fun e w' => ∃ r, e = .returned r ∧ ZV w' r (qup q) ∧ Grows w w' := by
  obtain ⟨n0, A0, k0, c0, B0, j0, d0, rfl, z0, l0, a0, s0, t0, hl0, e0⟩ := h0
  have hk0 : szz z0 ≤ 1000 := s0.size
  go_enter Tryz.func36, Tryz.ntmps36
  go_upto_region 1 with fail
  obtain ⟨x0, ex0, HB, D0, DR⟩ := st_32 w 26 (.bool n0) (.slice A0 k0 c0) (.slice B0 j0 d0) 24 (.bool false) (.slice none 0 0)
  rw [ex0]
  clear ex0
  replace HB := Lib.hid HB
  replace D0 := Lib.hid D0
  replace DR := Lib.hid DR
  have SN0 := Lib.hid (s0.below HB.out)
  clear s0
  have SD0 := Lib.hid (t0.below HB.out)
  clear t0
  have hfl : szz (-q).floor ≤ 1000 := by rw [← qfloor]; exact Nat.le_trans (szz_fdiv _ (by rw [Rat.neg_num]; exact szz_neg hqs)) (by decide)
  have hqn : szz (-q).num ≤ 999 := by rw [Rat.neg_num]; exact szz_neg hqs
  refine wp_region_calm 4 [] ([fun vq wq => QV wq vq q,
      fun vq wq => RV wq vq ((-q)),
      fun vq wq => ZV wq vq ((-q).floor),
      fun vq wq => ZV wq vq ((-(-q).floor))]) (by kernel_rfl) (by decide) ?_ ?_ ?_
  · intro j hj; cases hj
  · refine po rfl (fun lq aq wq hk hr K hK => ?_) ?_
    · have B1 : ev aq (.tmp 1) = .pointer (some ⟨w.heap.size, 0, none⟩) := hk.base 1 (by kernel_rfl) rfl
      have hb : Below _ _ _ := hk.ext
      exact vc hK (op_load3 1 _ B1 (D0.out.below hb)) (fun w2 h2 => QV.grow ⟨_, _, _, _, _, _, _, rfl, _, _, _, (SN0.out.below hb), (SD0.out.below hb), hl0, e0⟩ h2)
    refine po rfl (fun lq aq wq hk hr K hK => ?_) ?_
    · obtain ⟨v0, E0, r0⟩ := hk.dp hr 0 3 (by kernel_rfl)
      have r0 : QV wq v0 q := r0
      exact yc hK (by go_simp) (rnegQ_v wq r0) (fun u w1 hu w2 h2 => (hu).grow h2)
    refine po rfl (fun lq aq wq hk hr K hK => ?_) ?_
    · obtain ⟨v1, E1, r1⟩ := hk.dp hr 1 4 (by kernel_rfl)
      have r1 : RV wq v1 ((-q)) := r1
      exact yc hK (by go_simp) (rfloor_v wq (r1).qv hqn) (fun u w1 hu w2 h2 => (hu).grow h2)
    refine po rfl (fun lq aq wq hk hr K hK => ?_) ?_
    · obtain ⟨v2, E2, r2⟩ := hk.dp hr 2 5 (by kernel_rfl)
      have r2 : ZV wq v2 ((-q).floor) := r2
      exact yc hK (by go_simp) (less_v wq (r2).wv) (fun u w1 hu w2 h2 => (hu).grow h2)
    exact AllOps.nil
  intro V x1 hG hV hap
  have r0 : QV x1 (V 0) q := hV 0 (by decide)
  have r3 : ZV x1 (V 3) ((-(-q).floor)) := hV 3 (by decide)
  clear hV hap
  simp only [List.take_succ_cons, List.take_zero, List.drop_succ_cons, List.drop_zero, putAll, Act.put, List.setIfInBounds_toArray, List.set_cons_zero, List.set_cons_succ]
  have hb := (show Below _ _ _ from hG)
  obtain ⟨nR, AR, kR, cR, y9, eR, ey, hQ, HQ, c0, c1⟩ := ret2 r3 (DR.out.below hb) (HB.out.trans (Below.mono hb HB.out.size)) (by omega)
  simp only [eR]
  refine wpList_of_skip rfl (op_store 2 6 _ rfl rfl (DR.out.below hb)) ?_
  rw [ey]
  clear eR ey hb hG HB DR
  go_wp2_with fail
  refine bodyPost_ret (v := .agg #[.bool nR, .slice AR kR cR]) (by simp [results, Tryz.results36, go_sem, c0, c1]) rfl ⟨_, rfl, (ZV.to hQ rfl), HQ⟩
theorem rtext01_v (w : World) {u : Value} {l : List Nat} {a : Nat} {s : ByteArray} (h : LV w u l a) (hl : l.length ≤ 1000) (hs : ByteArray.mk (dec a).toArray = s) : Calls Tryz.prog 82 #[u] w fun e w' => ∃ r, e = .returned r ∧ r = .string s ∧ Grows w w' := by
  obtain ⟨A, c, rfl, q⟩ := h
  refine (rtext_any w _ l a q (Nat.le_trans hl (by decide))).mono ?_
  rintro e w1 ⟨rfl, g⟩
  exact ⟨_, rfl, by rw [hs], g⟩
set_option maxHeartbeats 16000000 in
set_option maxRecDepth 100000 in
theorem rqtext_v (w : World) {u : Value} {q : Rat} {s : ByteArray} (h0 : QV w u q) (hs : ByteArray.mk (qtext q).toArray = s) : Calls Tryz.prog 38 #[u] w fun e w' => ∃ r, e = .returned r ∧ r = .string s ∧ Grows w w' := by
  obtain ⟨n0, A0, k0, c0, B0, j0, d0, rfl, z0, l0, a0, s0, t0, hl0, e0⟩ := h0
  have hk0 : szz z0 ≤ 1000 := s0.size
  go_enter Tryz.func38, Tryz.ntmps38
  go_upto_region 1 with fail
  obtain ⟨x0, ex0, HB, D0⟩ := st_3 w 26 (.bool n0) (.slice A0 k0 c0) (.slice B0 j0 d0)
  rw [ex0]
  clear ex0
  replace HB := Lib.hid HB
  replace D0 := Lib.hid D0
  have SN0 := Lib.hid (s0.below HB.out)
  clear s0
  have SD0 := Lib.hid (t0.below HB.out)
  clear t0
  refine wp_region_calm 2 [] ([fun vq wq => QV wq vq q,
      fun vq wq => RV wq vq q]) (by kernel_rfl) (by decide) ?_ ?_ ?_
  · intro j hj; cases hj
  · refine po rfl (fun lq aq wq hk hr K hK => ?_) ?_
    · have B1 : ev aq (.tmp 1) = .pointer (some ⟨w.heap.size, 0, none⟩) := hk.base 1 (by kernel_rfl) rfl
      have hb : Below _ _ _ := hk.ext
      exact vc hK (op_load3 1 _ B1 (D0.out.below hb)) (fun w2 h2 => QV.grow ⟨_, _, _, _, _, _, _, rfl, _, _, _, (SN0.out.below hb), (SD0.out.below hb), hl0, e0⟩ h2)
    refine po rfl (fun lq aq wq hk hr K hK => ?_) ?_
    · obtain ⟨v0, E0, r0⟩ := hk.dp hr 0 4 (by kernel_rfl)
      have r0 : QV wq v0 q := r0
      exact yc hK (by go_simp) (rmadeQ_v wq r0) (fun u w1 hu w2 h2 => (hu).grow h2)
    exact AllOps.nil
  intro V x1 hG hV hap
  have r1 : RV x1 (V 1) q := hV 1 (by decide)
  clear hV hap
  simp only [List.take_succ_cons, List.take_zero, List.drop_succ_cons, List.drop_zero, putAll, Act.put, List.setIfInBounds_toArray, List.set_cons_zero, List.set_cons_succ]
  have hb := (show Below _ _ _ from hG)
  obtain ⟨nm2, Am2, km2, cm2, Bm2, jm2, dm2, em2, sm2, tm2, hdm2⟩ := r1
  simp only [em2]
  clear em2
  clear hG
  replace D0 := D0.out.below hb
  refine wpList_of_skip rfl (op_store3 1 5 _ rfl rfl D0) ?_
  replace SN0 := Lib.hid (sm2.put3 D0 (.bool nm2) (.slice Am2 km2 cm2) (.slice Bm2 jm2 dm2))
  replace SD0 := Lib.hid (tm2.put3 D0 (.bool nm2) (.slice Am2 km2 cm2) (.slice Bm2 jm2 dm2))
  replace HB := Lib.hid (put3_below (x' := .bool nm2) (y' := .slice Am2 km2 cm2) (z' := .slice Bm2 jm2 dm2) (HB.out.trans (Below.mono hb HB.out.size)) (show w.heap.size ≤ w.heap.size by omega))
  replace D0 := Lib.hid (put3_own (x' := .bool nm2) (y' := .slice Am2 km2 cm2) (z' := .slice Bm2 jm2 dm2) D0)
  clear hb sm2 tm2
  generalize put3 x1 w.heap.size (.bool nm2) (.slice Am2 km2 cm2) (.slice Bm2 jm2 dm2) = y3 at *
  replace e0 := Lib.hid e0
  have hsd : sz q.den ≤ 1000 := hdm2
  have hsn := SN0.out.short
  have hng : nm2 = decide (q.num < 0) := SN0.out.sign
  obtain ⟨s1, hs1⟩ : ∃ s1, ByteArray.mk (dec q.num.natAbs).toArray = s1 := ⟨_, rfl⟩
  obtain ⟨s2, hs2⟩ : ∃ s2, ByteArray.mk (ztext q.num).toArray = s2 := ⟨_, rfl⟩
  obtain ⟨s3, hs3⟩ : ∃ s3, ByteArray.mk (ztext q.num ++ [47]).toArray = s3 := ⟨_, rfl⟩
  obtain ⟨s4, hs4⟩ : ∃ s4, ByteArray.mk (dec q.den).toArray = s4 := ⟨_, rfl⟩
  have hc3 : s2 ++ ByteArray.mk #[47] = s3 := by rw [← hs2, ← hs3]; exact cat_bytes' _ [47]
  have hl1 : s1.size ≤ 9223372036854775806 := by rw [← hs1]; have := dec_short hsn; show (dec q.num.natAbs).toArray.size ≤ _; simp; omega
  have hl2 : s2.size ≤ 9223372036854775806 := by rw [← hs2]; have := ztext_len hsn; show (ztext q.num).toArray.size ≤ _; simp; omega
  have hl3 : s3.size + s4.size ≤ 9223372036854775807 := by
    have e3 : s3.size ≤ 100000 := by rw [← hs3]; have := ztext_len hsn; show (ztext q.num ++ [47]).toArray.size ≤ _; simp; omega
    have e4 : s4.size ≤ 100000 := by rw [← hs4]; have := dec_short hsd; show (dec q.den).toArray.size ≤ _; simp; omega
    omega
  replace hs1 := Lib.hid hs1
  replace hs4 := Lib.hid hs4
  replace hs := Lib.hid hs
  go_upto_region 2 with fail
  refine wp_region_calm 4 [] ([fun vq _ => vq = .pointer (some ⟨w.heap.size, 0, none⟩),
      fun vq _ => vq = .pointer (some ⟨w.heap.size, 1, none⟩),
      fun vq _ => vq = .slice Am2 km2 cm2,
      fun vq _ => vq = .string s1]) (by kernel_rfl) (by decide) ?_ ?_ ?_
  · intro j hj; cases hj
  · refine po rfl (fun lq aq wq hk hr K hK => ?_) ?_
    · have B1 : ev aq (.tmp 1) = .pointer (some ⟨w.heap.size, 0, none⟩) := hk.base 1 (by kernel_rfl) rfl
      exact vc hK (by go_simp) (fun w2 h2 => rfl)
    refine po rfl (fun lq aq wq hk hr K hK => ?_) ?_
    · have E0 : ev aq (.tmp 6) = .pointer (some ⟨w.heap.size, 0, none⟩) := hk.dc hr 0 (by kernel_rfl) fun _ _ h => h
      exact vc hK (by go_simp) (fun w2 h2 => rfl)
    refine po rfl (fun lq aq wq hk hr K hK => ?_) ?_
    · have E1 : ev aq (.tmp 7) = .pointer (some ⟨w.heap.size, 1, none⟩) := hk.dc hr 1 (by kernel_rfl) fun _ _ h => h
      have hb : Below _ _ _ := hk.ext
      have c1 := (D0.out.below hb).c1
      exact vc hK (by go_simp) (fun w2 h2 => rfl)
    refine po rfl (fun lq aq wq hk hr K hK => ?_) ?_
    · have E2 : ev aq (.tmp 8) = .slice Am2 km2 cm2 := hk.dc hr 2 (by kernel_rfl) fun _ _ h => h
      exact yc hK (by go_simp) (rtext01_v wq (SN0.out.num.below hk.ext).lv SN0.out.short hs1.out) (fun u w1 hu w2 h2 => hu)
    exact AllOps.nil
  intro V x4 hG hV hap
  have r3 : (V 3) = .string s1 := hV 3 (by decide)
  clear hV hap
  simp only [List.take_succ_cons, List.take_zero, List.drop_succ_cons, List.drop_zero, putAll, Act.put, List.setIfInBounds_toArray, List.set_cons_zero, List.set_cons_succ]
  have hb := (show Below _ _ _ from hG)
  replace D0 := Lib.hid (D0.out.below hb)
  replace SN0 := Lib.hid (SN0.out.below hb)
  replace SD0 := Lib.hid (SD0.out.below hb)
  replace HB := Lib.hid (HB.out.trans (Below.mono hb HB.out.size))
  clear hb hG
  rw [r3]
  clear r3
  rcases Decidable.em (q.num < 0) with hneg | hneg
  · skip
    have hnb : nm2 = true := by rw [hng]; exact decide_eq_true hneg
    subst hnb
    clear hng
    have hc2 : ByteArray.mk #[45] ++ s1 = s2 := by rw [← hs1.out, ← hs2, ztext_neg hneg]; exact cat_bytes' [45] _
    have hl0 : 1 + s1.size ≤ 9223372036854775807 := by omega
    replace hs2 := Lib.hid hs2
    replace hs3 := Lib.hid hs3
    go_upto_region 3 with fail
    refine wp_region_calm 3 [] ([fun vq _ => vq = .pointer (some ⟨w.heap.size, 0, none⟩),
        fun vq _ => vq = .pointer (some ⟨w.heap.size, 0, none⟩),
        fun vq _ => vq = .bool true]) (by kernel_rfl) (by decide) ?_ ?_ ?_
    · intro j hj; cases hj
    · refine po rfl (fun lq aq wq hk hr K hK => ?_) ?_
      · have B1 : ev aq (.tmp 1) = .pointer (some ⟨w.heap.size, 0, none⟩) := hk.base 1 (by kernel_rfl) rfl
        exact vc hK (by go_simp) (fun w2 h2 => rfl)
      refine po rfl (fun lq aq wq hk hr K hK => ?_) ?_
      · have E0 : ev aq (.tmp 10) = .pointer (some ⟨w.heap.size, 0, none⟩) := hk.dc hr 0 (by kernel_rfl) fun _ _ h => h
        exact vc hK (by go_simp) (fun w2 h2 => rfl)
      refine po rfl (fun lq aq wq hk hr K hK => ?_) ?_
      · have E1 : ev aq (.tmp 11) = .pointer (some ⟨w.heap.size, 0, none⟩) := hk.dc hr 1 (by kernel_rfl) fun _ _ h => h
        have hb : Below _ _ _ := hk.ext
        have c0 := (D0.out.below hb).c0
        exact vc hK (by go_simp) (fun w2 h2 => rfl)
      exact AllOps.nil
    intro V x5 hG hV hap
    have r2 : (V 2) = .bool true := hV 2 (by decide)
    clear hV hap
    simp only [List.take_succ_cons, List.take_nil, List.drop_succ_cons, List.drop_nil, putAll, Act.put, List.setIfInBounds_toArray, List.set_cons_zero, List.set_cons_succ]
    have hb := (show Below _ _ _ from hG)
    replace D0 := Lib.hid (D0.out.below hb)
    replace SN0 := Lib.hid (SN0.out.below hb)
    replace SD0 := Lib.hid (SD0.out.below hb)
    replace HB := Lib.hid (HB.out.trans (Below.mono hb HB.out.size))
    clear hb hG
    rw [r2]
    clear r2
    go_upto_region 4 with fail
    refine wp_region_calm 2 [] ([fun vq _ => vq = .string s1,
        fun vq _ => vq = .string s2]) (by kernel_rfl) (by decide) ?_ ?_ ?_
    · intro j hj; cases hj
    · refine po rfl (fun lq aq wq hk hr K hK => ?_) ?_
      · have B3 : ev aq (.tmp 3) = .string s1 := hk.base 3 (by kernel_rfl) rfl
        exact vc hK (by go_simp) (fun w2 h2 => rfl)
      refine po rfl (fun lq aq wq hk hr K hK => ?_) ?_
      · have E0 : ev aq (.tmp 13) = .string s1 := hk.dc hr 0 (by kernel_rfl) fun _ _ h => h
        exact vc hK (by first | (go_simp; done) | (go_simp; exact hl0)) (fun w2 h2 => rfl)
      exact AllOps.nil
    intro V x6 hG hV hap
    have r1 : (V 1) = .string s2 := hV 1 (by decide)
    clear hV hap
    simp only [List.take_succ_cons, List.take_zero, List.drop_succ_cons, List.drop_zero, putAll, Act.put, List.setIfInBounds_toArray, List.set_cons_zero, List.set_cons_succ]
    have hb := (show Below _ _ _ from hG)
    replace D0 := Lib.hid (D0.out.below hb)
    replace SN0 := Lib.hid (SN0.out.below hb)
    replace SD0 := Lib.hid (SD0.out.below hb)
    replace HB := Lib.hid (HB.out.trans (Below.mono hb HB.out.size))
    clear hb hG
    rw [r1]
    clear r1
    rcases Decidable.em (q.den = 1) with hd1 | hd1
    · skip
      have hlt : decide (limbs q.den = [1]) = true := by rw [hd1]; refine decide_eq_true ?_; rw [limbs_pos (by decide)]; simp [limbs_zero]
      go_upto_region 5 with fail
      refine wp_region_calm 5 [] ([fun vq _ => vq = .pointer (some ⟨w.heap.size, 2, none⟩),
          fun vq _ => vq = .slice Bm2 jm2 dm2,
          fun vq wq => LV wq vq ([1]) 1,
          fun vq _ => vq = .bool true,
          fun vq _ => vq = .bool false]) (by kernel_rfl) (by decide) ?_ ?_ ?_
      · intro j hj; cases hj
      · refine po rfl (fun lq aq wq hk hr K hK => ?_) ?_
        · have B1 : ev aq (.tmp 1) = .pointer (some ⟨w.heap.size, 0, none⟩) := hk.base 1 (by kernel_rfl) rfl
          exact vc hK (by go_simp) (fun w2 h2 => rfl)
        refine po rfl (fun lq aq wq hk hr K hK => ?_) ?_
        · have E0 : ev aq (.tmp 15) = .pointer (some ⟨w.heap.size, 2, none⟩) := hk.dc hr 0 (by kernel_rfl) fun _ _ h => h
          have hb : Below _ _ _ := hk.ext
          have c2 := (D0.out.below hb).c2
          exact vc hK (by go_simp) (fun w2 h2 => rfl)
        refine po rfl (fun lq aq wq hk hr K hK => ?_) ?_
        · exact wp_of_value (by go_simp) (hK.out _ _ ((Grows.refl _).alloc _) (fun w2 h2 => (lit_lv wq 43 (cs := #[.int .u32 1]) (n := 1) [1] 1 rfl rfl (by decide) (by decide)).grow h2) (fun h => absurd h (by decide)))
        refine po rfl (fun lq aq wq hk hr K hK => ?_) ?_
        · have E1 : ev aq (.tmp 16) = .slice Bm2 jm2 dm2 := hk.dc hr 1 (by kernel_rfl) fun _ _ h => h
          obtain ⟨v2, E2, r2⟩ := hk.dp hr 2 17 (by kernel_rfl)
          have r2 : LV wq v2 ([1]) 1 := r2
          exact yc hK (by go_simp) (rsamel_v wq (SD0.out.below hk.ext).lv r2 hdm2 hlt) (fun u w1 hu w2 h2 => hu)
        refine po rfl (fun lq aq wq hk hr K hK => ?_) ?_
        · have E3 : ev aq (.tmp 18) = .bool true := hk.dc hr 3 (by kernel_rfl) fun _ _ h => h
          exact vc hK (by go_simp) (fun w2 h2 => rfl)
        exact AllOps.nil
      intro V x7 hG hV hap
      have r4 : (V 4) = .bool false := hV 4 (by decide)
      clear hV hap
      simp only [List.take_succ_cons, List.take_nil, List.drop_succ_cons, List.drop_nil, putAll, Act.put, List.setIfInBounds_toArray, List.set_cons_zero, List.set_cons_succ]
      have hb := (show Below _ _ _ from hG)
      replace D0 := Lib.hid (D0.out.below hb)
      replace SN0 := Lib.hid (SN0.out.below hb)
      replace SD0 := Lib.hid (SD0.out.below hb)
      replace HB := Lib.hid (HB.out.trans (Below.mono hb HB.out.size))
      clear hb hG
      rw [r4]
      clear r4
      have hfs : s2 = s := by rw [← hs2.out, ← hs.out, qtext_one hd1]
      replace hfs := Lib.hid hfs
      go_wp2_with fail
      go_ret
      exact ⟨_, rfl, congrArg Value.string hfs.out, HB.out⟩
    · skip
      have hlt : decide (limbs q.den = [1]) = false := by
        refine decide_eq_false fun e => hd1 ?_
        have h := congrArg val e
        rw [val_limbs] at h
        rw [h]; rfl
      go_upto_region 5 with fail
      refine wp_region_calm 5 [] ([fun vq _ => vq = .pointer (some ⟨w.heap.size, 2, none⟩),
          fun vq _ => vq = .slice Bm2 jm2 dm2,
          fun vq wq => LV wq vq ([1]) 1,
          fun vq _ => vq = .bool false,
          fun vq _ => vq = .bool true]) (by kernel_rfl) (by decide) ?_ ?_ ?_
      · intro j hj; cases hj
      · refine po rfl (fun lq aq wq hk hr K hK => ?_) ?_
        · have B1 : ev aq (.tmp 1) = .pointer (some ⟨w.heap.size, 0, none⟩) := hk.base 1 (by kernel_rfl) rfl
          exact vc hK (by go_simp) (fun w2 h2 => rfl)
        refine po rfl (fun lq aq wq hk hr K hK => ?_) ?_
        · have E0 : ev aq (.tmp 15) = .pointer (some ⟨w.heap.size, 2, none⟩) := hk.dc hr 0 (by kernel_rfl) fun _ _ h => h
          have hb : Below _ _ _ := hk.ext
          have c2 := (D0.out.below hb).c2
          exact vc hK (by go_simp) (fun w2 h2 => rfl)
        refine po rfl (fun lq aq wq hk hr K hK => ?_) ?_
        · exact wp_of_value (by go_simp) (hK.out _ _ ((Grows.refl _).alloc _) (fun w2 h2 => (lit_lv wq 43 (cs := #[.int .u32 1]) (n := 1) [1] 1 rfl rfl (by decide) (by decide)).grow h2) (fun h => absurd h (by decide)))
        refine po rfl (fun lq aq wq hk hr K hK => ?_) ?_
        · have E1 : ev aq (.tmp 16) = .slice Bm2 jm2 dm2 := hk.dc hr 1 (by kernel_rfl) fun _ _ h => h
          obtain ⟨v2, E2, r2⟩ := hk.dp hr 2 17 (by kernel_rfl)
          have r2 : LV wq v2 ([1]) 1 := r2
          exact yc hK (by go_simp) (rsamel_v wq (SD0.out.below hk.ext).lv r2 hdm2 hlt) (fun u w1 hu w2 h2 => hu)
        refine po rfl (fun lq aq wq hk hr K hK => ?_) ?_
        · have E3 : ev aq (.tmp 18) = .bool false := hk.dc hr 3 (by kernel_rfl) fun _ _ h => h
          exact vc hK (by go_simp) (fun w2 h2 => rfl)
        exact AllOps.nil
      intro V x7 hG hV hap
      have r4 : (V 4) = .bool true := hV 4 (by decide)
      clear hV hap
      simp only [List.take_succ_cons, List.take_nil, List.drop_succ_cons, List.drop_nil, putAll, Act.put, List.setIfInBounds_toArray, List.set_cons_zero, List.set_cons_succ]
      have hb := (show Below _ _ _ from hG)
      replace D0 := Lib.hid (D0.out.below hb)
      replace SN0 := Lib.hid (SN0.out.below hb)
      replace SD0 := Lib.hid (SD0.out.below hb)
      replace HB := Lib.hid (HB.out.trans (Below.mono hb HB.out.size))
      clear hb hG
      rw [r4]
      clear r4
      have hc4 : s3 ++ s4 = s := by rw [← hs3.out, ← hs4.out, cat_bytes', ← hs.out, qtext_far hd1, List.append_assoc]; rfl
      go_upto_region 6 with fail
      refine wp_region_calm 6 [] ([fun vq _ => vq = .string s2,
          fun vq _ => vq = .string s3,
          fun vq _ => vq = .pointer (some ⟨w.heap.size, 2, none⟩),
          fun vq _ => vq = .slice Bm2 jm2 dm2,
          fun vq _ => vq = .string s4,
          fun vq _ => vq = .string s]) (by kernel_rfl) (by decide) ?_ ?_ ?_
      · intro j hj; cases hj
      · refine po rfl (fun lq aq wq hk hr K hK => ?_) ?_
        · have B3 : ev aq (.tmp 3) = .string s2 := hk.base 3 (by kernel_rfl) rfl
          exact vc hK (by go_simp) (fun w2 h2 => rfl)
        refine po rfl (fun lq aq wq hk hr K hK => ?_) ?_
        · have E0 : ev aq (.tmp 20) = .string s2 := hk.dc hr 0 (by kernel_rfl) fun _ _ h => h
          exact vc hK (by go_simp) (fun w2 h2 => rfl)
        refine po rfl (fun lq aq wq hk hr K hK => ?_) ?_
        · have B1 : ev aq (.tmp 1) = .pointer (some ⟨w.heap.size, 0, none⟩) := hk.base 1 (by kernel_rfl) rfl
          exact vc hK (by go_simp) (fun w2 h2 => rfl)
        refine po rfl (fun lq aq wq hk hr K hK => ?_) ?_
        · have E2 : ev aq (.tmp 22) = .pointer (some ⟨w.heap.size, 2, none⟩) := hk.dc hr 2 (by kernel_rfl) fun _ _ h => h
          have hb : Below _ _ _ := hk.ext
          have c2 := (D0.out.below hb).c2
          exact vc hK (by go_simp) (fun w2 h2 => rfl)
        refine po rfl (fun lq aq wq hk hr K hK => ?_) ?_
        · have E3 : ev aq (.tmp 23) = .slice Bm2 jm2 dm2 := hk.dc hr 3 (by kernel_rfl) fun _ _ h => h
          exact yc hK (by go_simp) (rtext01_v wq (SD0.out.below hk.ext).lv hdm2 hs4.out) (fun u w1 hu w2 h2 => hu)
        refine po rfl (fun lq aq wq hk hr K hK => ?_) ?_
        · have E1 : ev aq (.tmp 21) = .string s3 := hk.dc hr 1 (by kernel_rfl) fun _ _ h => h
          have E4 : ev aq (.tmp 24) = .string s4 := hk.dc hr 4 (by kernel_rfl) fun _ _ h => h
          exact vc hK (by go_simp) (fun w2 h2 => rfl)
        exact AllOps.nil
      intro V x8 hG hV hap
      have r5 : (V 5) = .string s := hV 5 (by decide)
      clear hV hap
      simp only [List.take_succ_cons, List.take_zero, List.drop_succ_cons, List.drop_zero, putAll, Act.put, List.setIfInBounds_toArray, List.set_cons_zero, List.set_cons_succ]
      have hb := (show Below _ _ _ from hG)
      replace D0 := Lib.hid (D0.out.below hb)
      replace SN0 := Lib.hid (SN0.out.below hb)
      replace SD0 := Lib.hid (SD0.out.below hb)
      replace HB := Lib.hid (HB.out.trans (Below.mono hb HB.out.size))
      clear hb hG
      rw [r5]
      clear r5
      go_wp2_with fail
      go_ret
      exact ⟨_, rfl, rfl, HB.out⟩
  · skip
    have hnb : nm2 = false := by rw [hng]; exact decide_eq_false hneg
    subst hnb
    clear hng
    have hc2 : s1 = s2 := by rw [← hs1.out, ← hs2, ztext_pos hneg]
    replace hs2 := Lib.hid hs2
    replace hs3 := Lib.hid hs3
    go_upto_region 3 with fail
    refine wp_region_calm 3 [] ([fun vq _ => vq = .pointer (some ⟨w.heap.size, 0, none⟩),
        fun vq _ => vq = .pointer (some ⟨w.heap.size, 0, none⟩),
        fun vq _ => vq = .bool false]) (by kernel_rfl) (by decide) ?_ ?_ ?_
    · intro j hj; cases hj
    · refine po rfl (fun lq aq wq hk hr K hK => ?_) ?_
      · have B1 : ev aq (.tmp 1) = .pointer (some ⟨w.heap.size, 0, none⟩) := hk.base 1 (by kernel_rfl) rfl
        exact vc hK (by go_simp) (fun w2 h2 => rfl)
      refine po rfl (fun lq aq wq hk hr K hK => ?_) ?_
      · have E0 : ev aq (.tmp 10) = .pointer (some ⟨w.heap.size, 0, none⟩) := hk.dc hr 0 (by kernel_rfl) fun _ _ h => h
        exact vc hK (by go_simp) (fun w2 h2 => rfl)
      refine po rfl (fun lq aq wq hk hr K hK => ?_) ?_
      · have E1 : ev aq (.tmp 11) = .pointer (some ⟨w.heap.size, 0, none⟩) := hk.dc hr 1 (by kernel_rfl) fun _ _ h => h
        have hb : Below _ _ _ := hk.ext
        have c0 := (D0.out.below hb).c0
        exact vc hK (by go_simp) (fun w2 h2 => rfl)
      exact AllOps.nil
    intro V x5 hG hV hap
    have r2 : (V 2) = .bool false := hV 2 (by decide)
    clear hV hap
    simp only [List.take_succ_cons, List.take_nil, List.drop_succ_cons, List.drop_nil, putAll, Act.put, List.setIfInBounds_toArray, List.set_cons_zero, List.set_cons_succ]
    have hb := (show Below _ _ _ from hG)
    replace D0 := Lib.hid (D0.out.below hb)
    replace SN0 := Lib.hid (SN0.out.below hb)
    replace SD0 := Lib.hid (SD0.out.below hb)
    replace HB := Lib.hid (HB.out.trans (Below.mono hb HB.out.size))
    clear hb hG
    rw [r2]
    clear r2
    subst hc2
    rcases Decidable.em (q.den = 1) with hd1 | hd1
    · skip
      have hlt : decide (limbs q.den = [1]) = true := by rw [hd1]; refine decide_eq_true ?_; rw [limbs_pos (by decide)]; simp [limbs_zero]
      go_upto_region 5 with fail
      refine wp_region_calm 5 [] ([fun vq _ => vq = .pointer (some ⟨w.heap.size, 2, none⟩),
          fun vq _ => vq = .slice Bm2 jm2 dm2,
          fun vq wq => LV wq vq ([1]) 1,
          fun vq _ => vq = .bool true,
          fun vq _ => vq = .bool false]) (by kernel_rfl) (by decide) ?_ ?_ ?_
      · intro j hj; cases hj
      · refine po rfl (fun lq aq wq hk hr K hK => ?_) ?_
        · have B1 : ev aq (.tmp 1) = .pointer (some ⟨w.heap.size, 0, none⟩) := hk.base 1 (by kernel_rfl) rfl
          exact vc hK (by go_simp) (fun w2 h2 => rfl)
        refine po rfl (fun lq aq wq hk hr K hK => ?_) ?_
        · have E0 : ev aq (.tmp 15) = .pointer (some ⟨w.heap.size, 2, none⟩) := hk.dc hr 0 (by kernel_rfl) fun _ _ h => h
          have hb : Below _ _ _ := hk.ext
          have c2 := (D0.out.below hb).c2
          exact vc hK (by go_simp) (fun w2 h2 => rfl)
        refine po rfl (fun lq aq wq hk hr K hK => ?_) ?_
        · exact wp_of_value (by go_simp) (hK.out _ _ ((Grows.refl _).alloc _) (fun w2 h2 => (lit_lv wq 43 (cs := #[.int .u32 1]) (n := 1) [1] 1 rfl rfl (by decide) (by decide)).grow h2) (fun h => absurd h (by decide)))
        refine po rfl (fun lq aq wq hk hr K hK => ?_) ?_
        · have E1 : ev aq (.tmp 16) = .slice Bm2 jm2 dm2 := hk.dc hr 1 (by kernel_rfl) fun _ _ h => h
          obtain ⟨v2, E2, r2⟩ := hk.dp hr 2 17 (by kernel_rfl)
          have r2 : LV wq v2 ([1]) 1 := r2
          exact yc hK (by go_simp) (rsamel_v wq (SD0.out.below hk.ext).lv r2 hdm2 hlt) (fun u w1 hu w2 h2 => hu)
        refine po rfl (fun lq aq wq hk hr K hK => ?_) ?_
        · have E3 : ev aq (.tmp 18) = .bool true := hk.dc hr 3 (by kernel_rfl) fun _ _ h => h
          exact vc hK (by go_simp) (fun w2 h2 => rfl)
        exact AllOps.nil
      intro V x6 hG hV hap
      have r4 : (V 4) = .bool false := hV 4 (by decide)
      clear hV hap
      simp only [List.take_succ_cons, List.take_nil, List.drop_succ_cons, List.drop_nil, putAll, Act.put, List.setIfInBounds_toArray, List.set_cons_zero, List.set_cons_succ]
      have hb := (show Below _ _ _ from hG)
      replace D0 := Lib.hid (D0.out.below hb)
      replace SN0 := Lib.hid (SN0.out.below hb)
      replace SD0 := Lib.hid (SD0.out.below hb)
      replace HB := Lib.hid (HB.out.trans (Below.mono hb HB.out.size))
      clear hb hG
      rw [r4]
      clear r4
      have hfs : s1 = s := by rw [← hs2.out, ← hs.out, qtext_one hd1]
      replace hfs := Lib.hid hfs
      go_wp2_with fail
      go_ret
      exact ⟨_, rfl, congrArg Value.string hfs.out, HB.out⟩
    · skip
      have hlt : decide (limbs q.den = [1]) = false := by
        refine decide_eq_false fun e => hd1 ?_
        have h := congrArg val e
        rw [val_limbs] at h
        rw [h]; rfl
      go_upto_region 5 with fail
      refine wp_region_calm 5 [] ([fun vq _ => vq = .pointer (some ⟨w.heap.size, 2, none⟩),
          fun vq _ => vq = .slice Bm2 jm2 dm2,
          fun vq wq => LV wq vq ([1]) 1,
          fun vq _ => vq = .bool false,
          fun vq _ => vq = .bool true]) (by kernel_rfl) (by decide) ?_ ?_ ?_
      · intro j hj; cases hj
      · refine po rfl (fun lq aq wq hk hr K hK => ?_) ?_
        · have B1 : ev aq (.tmp 1) = .pointer (some ⟨w.heap.size, 0, none⟩) := hk.base 1 (by kernel_rfl) rfl
          exact vc hK (by go_simp) (fun w2 h2 => rfl)
        refine po rfl (fun lq aq wq hk hr K hK => ?_) ?_
        · have E0 : ev aq (.tmp 15) = .pointer (some ⟨w.heap.size, 2, none⟩) := hk.dc hr 0 (by kernel_rfl) fun _ _ h => h
          have hb : Below _ _ _ := hk.ext
          have c2 := (D0.out.below hb).c2
          exact vc hK (by go_simp) (fun w2 h2 => rfl)
        refine po rfl (fun lq aq wq hk hr K hK => ?_) ?_
        · exact wp_of_value (by go_simp) (hK.out _ _ ((Grows.refl _).alloc _) (fun w2 h2 => (lit_lv wq 43 (cs := #[.int .u32 1]) (n := 1) [1] 1 rfl rfl (by decide) (by decide)).grow h2) (fun h => absurd h (by decide)))
        refine po rfl (fun lq aq wq hk hr K hK => ?_) ?_
        · have E1 : ev aq (.tmp 16) = .slice Bm2 jm2 dm2 := hk.dc hr 1 (by kernel_rfl) fun _ _ h => h
          obtain ⟨v2, E2, r2⟩ := hk.dp hr 2 17 (by kernel_rfl)
          have r2 : LV wq v2 ([1]) 1 := r2
          exact yc hK (by go_simp) (rsamel_v wq (SD0.out.below hk.ext).lv r2 hdm2 hlt) (fun u w1 hu w2 h2 => hu)
        refine po rfl (fun lq aq wq hk hr K hK => ?_) ?_
        · have E3 : ev aq (.tmp 18) = .bool false := hk.dc hr 3 (by kernel_rfl) fun _ _ h => h
          exact vc hK (by go_simp) (fun w2 h2 => rfl)
        exact AllOps.nil
      intro V x6 hG hV hap
      have r4 : (V 4) = .bool true := hV 4 (by decide)
      clear hV hap
      simp only [List.take_succ_cons, List.take_nil, List.drop_succ_cons, List.drop_nil, putAll, Act.put, List.setIfInBounds_toArray, List.set_cons_zero, List.set_cons_succ]
      have hb := (show Below _ _ _ from hG)
      replace D0 := Lib.hid (D0.out.below hb)
      replace SN0 := Lib.hid (SN0.out.below hb)
      replace SD0 := Lib.hid (SD0.out.below hb)
      replace HB := Lib.hid (HB.out.trans (Below.mono hb HB.out.size))
      clear hb hG
      rw [r4]
      clear r4
      have hc4 : s3 ++ s4 = s := by rw [← hs3.out, ← hs4.out, cat_bytes', ← hs.out, qtext_far hd1, List.append_assoc]; rfl
      go_upto_region 6 with fail
      refine wp_region_calm 6 [] ([fun vq _ => vq = .string s1,
          fun vq _ => vq = .string s3,
          fun vq _ => vq = .pointer (some ⟨w.heap.size, 2, none⟩),
          fun vq _ => vq = .slice Bm2 jm2 dm2,
          fun vq _ => vq = .string s4,
          fun vq _ => vq = .string s]) (by kernel_rfl) (by decide) ?_ ?_ ?_
      · intro j hj; cases hj
      · refine po rfl (fun lq aq wq hk hr K hK => ?_) ?_
        · have B3 : ev aq (.tmp 3) = .string s1 := hk.base 3 (by kernel_rfl) rfl
          exact vc hK (by go_simp) (fun w2 h2 => rfl)
        refine po rfl (fun lq aq wq hk hr K hK => ?_) ?_
        · have E0 : ev aq (.tmp 20) = .string s1 := hk.dc hr 0 (by kernel_rfl) fun _ _ h => h
          exact vc hK (by go_simp) (fun w2 h2 => rfl)
        refine po rfl (fun lq aq wq hk hr K hK => ?_) ?_
        · have B1 : ev aq (.tmp 1) = .pointer (some ⟨w.heap.size, 0, none⟩) := hk.base 1 (by kernel_rfl) rfl
          exact vc hK (by go_simp) (fun w2 h2 => rfl)
        refine po rfl (fun lq aq wq hk hr K hK => ?_) ?_
        · have E2 : ev aq (.tmp 22) = .pointer (some ⟨w.heap.size, 2, none⟩) := hk.dc hr 2 (by kernel_rfl) fun _ _ h => h
          have hb : Below _ _ _ := hk.ext
          have c2 := (D0.out.below hb).c2
          exact vc hK (by go_simp) (fun w2 h2 => rfl)
        refine po rfl (fun lq aq wq hk hr K hK => ?_) ?_
        · have E3 : ev aq (.tmp 23) = .slice Bm2 jm2 dm2 := hk.dc hr 3 (by kernel_rfl) fun _ _ h => h
          exact yc hK (by go_simp) (rtext01_v wq (SD0.out.below hk.ext).lv hdm2 hs4.out) (fun u w1 hu w2 h2 => hu)
        refine po rfl (fun lq aq wq hk hr K hK => ?_) ?_
        · have E1 : ev aq (.tmp 21) = .string s3 := hk.dc hr 1 (by kernel_rfl) fun _ _ h => h
          have E4 : ev aq (.tmp 24) = .string s4 := hk.dc hr 4 (by kernel_rfl) fun _ _ h => h
          exact vc hK (by go_simp) (fun w2 h2 => rfl)
        exact AllOps.nil
      intro V x7 hG hV hap
      have r5 : (V 5) = .string s := hV 5 (by decide)
      clear hV hap
      simp only [List.take_succ_cons, List.take_zero, List.drop_succ_cons, List.drop_zero, putAll, Act.put, List.setIfInBounds_toArray, List.set_cons_zero, List.set_cons_succ]
      have hb := (show Below _ _ _ from hG)
      replace D0 := Lib.hid (D0.out.below hb)
      replace SN0 := Lib.hid (SN0.out.below hb)
      replace SD0 := Lib.hid (SD0.out.below hb)
      replace HB := Lib.hid (HB.out.trans (Below.mono hb HB.out.size))
      clear hb hG
      rw [r5]
      clear r5
      go_wp2_with fail
      go_ret
      exact ⟨_, rfl, rfl, HB.out⟩
end Go.Proofs.YtbippecchpaleaaGreatDoor
