import Derived.Test.YtbippecchpaleaaGreatDoorGRat1
import Derived.Test.YtbippecchpaleaaGreatDoorRatOwn
/- rat.reduced, made, Int, Neg: what each returns, in rows of its own. -/
namespace Go.Proofs.YtbippecchpaleaaGreatDoor
open Go.RowKit Go.Num Go.Kp
attribute [local go_sem] Oper.semAt_some u64_mask ev_const ev_func ev_global
set_option maxHeartbeats 4000000 in
set_option maxRecDepth 100000 in
theorem reduced_o (w : World) {bO : Nat} (hB : bO ≤ w.heap.size) {u v : Value} {z : Int} {l : List Nat} {a : Nat} (h0 : WV w u z) (h1 : LV w v l a) (hl : l.length ≤ 1000) (hpos : 0 < a) : Calls Tryz.prog 65 #[u, v] w fun e w' => ∃ x, e = .returned x ∧ RO bO w' x (mkRat z a) ∧ Grows w w' := by
  have hsa : sz a ≤ 1000 := Nat.le_trans h1.sz_le hl
  have hd0 : a ≠ 0 := Nat.ne_of_gt hpos
  obtain ⟨A9, c9, rfl, q9⟩ := h1
  obtain ⟨n0, A0, k0, c0, rfl, s0⟩ := h0
  have hk0 : szz z ≤ 1000 := s0.size
  go_enter Tryz.func65, Tryz.ntmps65
  go_upto_region 1 with fail
  obtain ⟨x0, ex0, HB, D0, DR⟩ := st_23 w 24 (.bool n0) (.slice A0 k0 c0) 26 (.bool false) (.slice none 0 0) (.slice none 0 0)
  rw [ex0]
  clear ex0
  replace HB := Lib.hid HB
  replace D0 := Lib.hid D0
  replace DR := Lib.hid DR
  have SN0 := Lib.hid (s0.below HB.out)
  clear s0
  have Q9 := Lib.hid (q9.below HB.out)
  clear q9
  obtain ⟨lN0, aN0, qN0, hlN0, eN0⟩ := SN0.out
  have QN0 := Lib.hid qN0
  clear qN0
  refine wp_region_calm 5 [] ([fun vq _ => vq = .pointer (some ⟨w.heap.size, 0, none⟩),
      fun vq _ => vq = .bool n0,
      fun vq _ => vq = .pointer (some ⟨w.heap.size, 1, none⟩),
      fun vq _ => vq = .slice A0 k0 c0,
      fun vq wq => ZV wq vq z]) (by kernel_rfl) (by decide) ?_ ?_ ?_
  · intro j hj; cases hj
  · refine po rfl (fun lq aq wq hk hr K hK => ?_) ?_
    · have B2 : ev aq (.tmp 2) = .pointer (some ⟨w.heap.size, 0, none⟩) := hk.base 2 (by kernel_rfl) rfl
      exact vc hK (by go_simp) (fun w2 h2 => rfl)
    refine po rfl (fun lq aq wq hk hr K hK => ?_) ?_
    · have E0 : ev aq (.tmp 12) = .pointer (some ⟨w.heap.size, 0, none⟩) := hk.dc hr 0 (by kernel_rfl) fun _ _ h => h
      have hb : Below _ _ _ := hk.ext
      have c0 := (D0.out.below hb).c0
      exact vc hK (by go_simp) (fun w2 h2 => rfl)
    refine po rfl (fun lq aq wq hk hr K hK => ?_) ?_
    · have B2 : ev aq (.tmp 2) = .pointer (some ⟨w.heap.size, 0, none⟩) := hk.base 2 (by kernel_rfl) rfl
      exact vc hK (by go_simp) (fun w2 h2 => rfl)
    refine po rfl (fun lq aq wq hk hr K hK => ?_) ?_
    · have E2 : ev aq (.tmp 14) = .pointer (some ⟨w.heap.size, 1, none⟩) := hk.dc hr 2 (by kernel_rfl) fun _ _ h => h
      have hb : Below _ _ _ := hk.ext
      have c1 := (D0.out.below hb).c1
      exact vc hK (by go_simp) (fun w2 h2 => rfl)
    refine po rfl (fun lq aq wq hk hr K hK => ?_) ?_
    · have E1 : ev aq (.tmp 13) = .bool n0 := hk.dc hr 1 (by kernel_rfl) fun _ _ h => h
      have E3 : ev aq (.tmp 15) = .slice A0 k0 c0 := hk.dc hr 3 (by kernel_rfl) fun _ _ h => h
      exact yc hK (by go_simp) (of_v wq n0 (QN0.out.below hk.ext).lv eN0.symm hk0) (fun u w1 hu w2 h2 => (hu).grow h2)
    exact AllOps.nil
  intro V x1 hG hV hap
  have r4 : ZV x1 (V 4) z := hV 4 (by decide)
  clear hV hap
  simp only [List.take_succ_cons, List.take_zero, List.drop_succ_cons, List.drop_zero, putAll, Act.put, List.setIfInBounds_toArray, List.set_cons_zero, List.set_cons_succ]
  have hb := (show Below _ _ _ from hG)
  obtain ⟨nm2, Am2, km2, cm2, em2, sm2⟩ := r4
  simp only [em2]
  clear em2
  clear hG
  replace D0 := D0.out.below hb
  refine wpList_of_skip rfl (op_store 2 16 _ rfl rfl D0) ?_
  clear QN0
  replace DR := Lib.hid (Box3.put2_far (x' := .bool nm2) (y' := .slice Am2 km2 cm2) (DR.out.below hb) (show w.heap.size + 1 ≠ w.heap.size by omega))
  replace Q9 := Lib.hid ((Q9.out.below hb).put D0 (.bool nm2) (.slice Am2 km2 cm2))
  replace SN0 := Lib.hid (sm2.put D0 (.bool nm2) (.slice Am2 km2 cm2))
  replace HB := Lib.hid (put2_below (u := .bool nm2) (v := .slice Am2 km2 cm2) (HB.out.trans (Below.mono hb HB.out.size)) (show w.heap.size ≤ w.heap.size by omega))
  replace D0 := Lib.hid (put2_own (u := .bool nm2) (v := .slice Am2 km2 cm2) D0)
  clear hb sm2
  generalize put2 x1 w.heap.size (.bool nm2) (.slice Am2 km2 cm2) = y3 at *
  obtain ⟨g, hg⟩ : ∃ g, z.natAbs.gcd a = g := ⟨_, rfl⟩
  have hg0 : 0 < g := by rw [← hg]; exact Nat.gcd_pos_of_pos_right _ hpos
  have hgs : sz g ≤ 1000 := by rw [← hg]; exact Nat.le_trans (sz_mono (Nat.gcd_le_right _ hpos)) hsa
  have hup := reduce_up (z := z) hd0
  have hdn := reduce_down (z := z) hd0
  rw [hg] at hup hdn
  have hks := mkRat_sz hd0 hk0 hsa
  go_upto_region 2 with fail
  refine wp_region_calm 4 [] ([fun vq _ => vq = .pointer (some ⟨w.heap.size, 1, none⟩),
      fun vq _ => vq = .slice Am2 km2 cm2,
      fun vq _ => vq = .slice A9 l.length c9,
      fun vq wq => LV wq vq ((limbs (z.natAbs.gcd a))) ((z.natAbs.gcd a))]) (by kernel_rfl) (by decide) ?_ ?_ ?_
  · intro j hj; cases hj
  · refine po rfl (fun lq aq wq hk hr K hK => ?_) ?_
    · have B2 : ev aq (.tmp 2) = .pointer (some ⟨w.heap.size, 0, none⟩) := hk.base 2 (by kernel_rfl) rfl
      exact vc hK (by go_simp) (fun w2 h2 => rfl)
    refine po rfl (fun lq aq wq hk hr K hK => ?_) ?_
    · have E0 : ev aq (.tmp 17) = .pointer (some ⟨w.heap.size, 1, none⟩) := hk.dc hr 0 (by kernel_rfl) fun _ _ h => h
      have hb : Below _ _ _ := hk.ext
      have c1 := (D0.out.below hb).c1
      exact vc hK (by go_simp) (fun w2 h2 => rfl)
    refine po rfl (fun lq aq wq hk hr K hK => ?_) ?_
    · have B1 : ev aq (.tmp 1) = .slice A9 l.length c9 := hk.base 1 (by kernel_rfl) rfl
      exact vc hK (by go_simp) (fun w2 h2 => rfl)
    refine po rfl (fun lq aq wq hk hr K hK => ?_) ?_
    · have E1 : ev aq (.tmp 18) = .slice Am2 km2 cm2 := hk.dc hr 1 (by kernel_rfl) fun _ _ h => h
      have E2 : ev aq (.tmp 19) = .slice A9 l.length c9 := hk.dc hr 2 (by kernel_rfl) fun _ _ h => h
      exact yc hK (by go_simp) (ngcd_v wq (SN0.out.num.below hk.ext).lv (Q9.out.below hk.ext).lv hsa hpos) (fun u w1 hu w2 h2 => (hu).grow h2)
    exact AllOps.nil
  intro V x4 hG hV hap
  have r3 : LV x4 (V 3) ((limbs (z.natAbs.gcd a))) ((z.natAbs.gcd a)) := hV 3 (by decide)
  clear hV hap
  simp only [List.take_succ_cons, List.take_zero, List.drop_succ_cons, List.drop_zero, putAll, Act.put, List.setIfInBounds_toArray, List.set_cons_zero, List.set_cons_succ]
  have hb := (show Below _ _ _ from hG)
  replace D0 := Lib.hid (D0.out.below hb)
  replace SN0 := Lib.hid (SN0.out.below hb)
  replace DR := Lib.hid (DR.out.below hb)
  replace Q9 := Lib.hid (Q9.out.below hb)
  replace HB := Lib.hid (HB.out.trans (Below.mono hb HB.out.size))
  clear hb hG
  rw [hg] at r3
  obtain ⟨A5, c5, e5, q5⟩ := r3
  simp only [e5]
  rw [e5] at q5
  have Q5 := Lib.hid q5
  clear e5 q5
  go_upto_region 3 with fail
  refine wp_region_calm 8 [] ([fun vq _ => vq = .pointer (some ⟨w.heap.size, 1, none⟩),
      fun vq _ => vq = .slice Am2 km2 cm2,
      fun vq _ => vq = .slice A5 (limbs g).length c5,
      fun vq wq => ∃ u0 u1, vq = .tuple #[u0, u1, .int .i64 0] ∧ LV wq u0 ((limbs (z.natAbs / g))) ((z.natAbs / g)) ∧ LV wq u1 ((limbs (z.natAbs % g))) ((z.natAbs % g)),
      fun vq wq => ∃ u0 u1, vq = .tuple #[u0, u1, .int .i64 0] ∧ LV wq u0 ((limbs (z.natAbs / g))) ((z.natAbs / g)) ∧ LV wq u1 ((limbs (z.natAbs % g))) ((z.natAbs % g)),
      fun vq wq => LV wq vq ((limbs (z.natAbs / g))) ((z.natAbs / g)),
      fun vq wq => LV wq vq ((limbs (z.natAbs % g))) ((z.natAbs % g)),
      fun vq _ => vq = .int .i64 0]) (by kernel_rfl) (by decide) ?_ ?_ ?_
  · intro j hj; cases hj
  · refine po rfl (fun lq aq wq hk hr K hK => ?_) ?_
    · have B2 : ev aq (.tmp 2) = .pointer (some ⟨w.heap.size, 0, none⟩) := hk.base 2 (by kernel_rfl) rfl
      exact vc hK (by go_simp) (fun w2 h2 => rfl)
    refine po rfl (fun lq aq wq hk hr K hK => ?_) ?_
    · have E0 : ev aq (.tmp 22) = .pointer (some ⟨w.heap.size, 1, none⟩) := hk.dc hr 0 (by kernel_rfl) fun _ _ h => h
      have hb : Below _ _ _ := hk.ext
      have c1 := (D0.out.below hb).c1
      exact vc hK (by go_simp) (fun w2 h2 => rfl)
    refine po rfl (fun lq aq wq hk hr K hK => ?_) ?_
    · have B5 : ev aq (.tmp 5) = .slice A5 (limbs g).length c5 := hk.base 5 (by kernel_rfl) rfl
      exact vc hK (by go_simp) (fun w2 h2 => rfl)
    refine po rfl (fun lq aq wq hk hr K hK => ?_) ?_
    · have E1 : ev aq (.tmp 23) = .slice Am2 km2 cm2 := hk.dc hr 1 (by kernel_rfl) fun _ _ h => h
      have E2 : ev aq (.tmp 24) = .slice A5 (limbs g).length c5 := hk.dc hr 2 (by kernel_rfl) fun _ _ h => h
      exact yc hK (by go_simp) (ndiv_v wq (SN0.out.num.below hk.ext).lv (Q5.out.below hk.ext).lv SN0.out.short hg0) (fun u w1 hu w2 h2 => (let ⟨u0, u1, e0, h0, h1⟩ := hu; ⟨u0, u1, e0, (h0).grow h2, (h1).grow h2⟩))
    refine po rfl (fun lq aq wq hk hr K hK => ?_) ?_
    · obtain ⟨v3, E3, r3⟩ := hk.dp hr 3 25 (by kernel_rfl)
      have r3 : ∃ u0 u1, v3 = .tuple #[u0, u1, .int .i64 0] ∧ LV wq u0 ((limbs (z.natAbs / g))) ((z.natAbs / g)) ∧ LV wq u1 ((limbs (z.natAbs % g))) ((z.natAbs % g)) := r3
      exact vc hK (by go_simp) (fun w2 h2 => (let ⟨u0, u1, e0, h0, h1⟩ := r3; ⟨u0, u1, e0, (h0).grow h2, (h1).grow h2⟩))
    refine po rfl (fun lq aq wq hk hr K hK => ?_) ?_
    · obtain ⟨v4, E4, r4⟩ := hk.dp hr 4 21 (by kernel_rfl)
      have r4 : ∃ u0 u1, v4 = .tuple #[u0, u1, .int .i64 0] ∧ LV wq u0 ((limbs (z.natAbs / g))) ((z.natAbs / g)) ∧ LV wq u1 ((limbs (z.natAbs % g))) ((z.natAbs % g)) := r4
      obtain ⟨u0, u1, rfl, h0, h1⟩ := r4
      exact vc hK (by go_simp) (fun w2 h2 => (h0).grow h2)
    refine po rfl (fun lq aq wq hk hr K hK => ?_) ?_
    · obtain ⟨v4, E4, r4⟩ := hk.dp hr 4 21 (by kernel_rfl)
      have r4 : ∃ u0 u1, v4 = .tuple #[u0, u1, .int .i64 0] ∧ LV wq u0 ((limbs (z.natAbs / g))) ((z.natAbs / g)) ∧ LV wq u1 ((limbs (z.natAbs % g))) ((z.natAbs % g)) := r4
      obtain ⟨u0, u1, rfl, h0, h1⟩ := r4
      exact vc hK (by go_simp) (fun w2 h2 => (h1).grow h2)
    refine po rfl (fun lq aq wq hk hr K hK => ?_) ?_
    · obtain ⟨v4, E4, r4⟩ := hk.dp hr 4 21 (by kernel_rfl)
      have r4 : ∃ u0 u1, v4 = .tuple #[u0, u1, .int .i64 0] ∧ LV wq u0 ((limbs (z.natAbs / g))) ((z.natAbs / g)) ∧ LV wq u1 ((limbs (z.natAbs % g))) ((z.natAbs % g)) := r4
      obtain ⟨u0, u1, rfl, h0, h1⟩ := r4
      exact vc hK (by go_simp) (fun w2 h2 => rfl)
    exact AllOps.nil
  intro V x5 hG hV hap
  have r5 : LV x5 (V 5) ((limbs (z.natAbs / g))) ((z.natAbs / g)) := hV 5 (by decide)
  have r6 : LV x5 (V 6) ((limbs (z.natAbs % g))) ((z.natAbs % g)) := hV 6 (by decide)
  have r7 : (V 7) = .int .i64 0 := hV 7 (by decide)
  clear hV hap
  simp only [List.take_succ_cons, List.take_zero, List.drop_succ_cons, List.drop_zero, putAll, Act.put, List.setIfInBounds_toArray, List.set_cons_zero, List.set_cons_succ]
  have hb := (show Below _ _ _ from hG)
  replace D0 := Lib.hid (D0.out.below hb)
  replace SN0 := Lib.hid (SN0.out.below hb)
  replace DR := Lib.hid (DR.out.below hb)
  replace Q9 := Lib.hid (Q9.out.below hb)
  replace Q5 := Lib.hid (Q5.out.below hb)
  replace HB := Lib.hid (HB.out.trans (Below.mono hb HB.out.size))
  clear hb hG
  rw [r7]
  clear r7
  obtain ⟨A6, c6, e6, q6⟩ := r5
  simp only [e6]
  rw [e6] at q6
  have Q6 := Lib.hid q6
  clear e6 q6
  obtain ⟨A7, c7, e7, q7⟩ := r6
  simp only [e7]
  rw [e7] at q7
  have Q7 := Lib.hid q7
  clear e7 q7
  go_upto_region 4 with fail
  refine wp_region_calm 7 [] ([fun vq _ => vq = .slice A9 l.length c9,
      fun vq _ => vq = .slice A5 (limbs g).length c5,
      fun vq wq => ∃ u0 u1, vq = .tuple #[u0, u1, .int .i64 0] ∧ LO bO wq u0 ((limbs (a / g))) ((a / g)) ∧ LV wq u1 ((limbs (a % g))) ((a % g)),
      fun vq wq => ∃ u0 u1, vq = .tuple #[u0, u1, .int .i64 0] ∧ LO bO wq u0 ((limbs (a / g))) ((a / g)) ∧ LV wq u1 ((limbs (a % g))) ((a % g)),
      fun vq wq => LO bO wq vq ((limbs (a / g))) ((a / g)),
      fun vq wq => LV wq vq ((limbs (a % g))) ((a % g)),
      fun vq _ => vq = .int .i64 0]) (by kernel_rfl) (by decide) ?_ ?_ ?_
  · intro j hj; cases hj
  · refine po rfl (fun lq aq wq hk hr K hK => ?_) ?_
    · have B1 : ev aq (.tmp 1) = .slice A9 l.length c9 := hk.base 1 (by kernel_rfl) rfl
      exact vc hK (by go_simp) (fun w2 h2 => rfl)
    refine po rfl (fun lq aq wq hk hr K hK => ?_) ?_
    · have B5 : ev aq (.tmp 5) = .slice A5 (limbs g).length c5 := hk.base 5 (by kernel_rfl) rfl
      exact vc hK (by go_simp) (fun w2 h2 => rfl)
    refine po rfl (fun lq aq wq hk hr K hK => ?_) ?_
    · have E0 : ev aq (.tmp 30) = .slice A9 l.length c9 := hk.dc hr 0 (by kernel_rfl) fun _ _ h => h
      have E1 : ev aq (.tmp 31) = .slice A5 (limbs g).length c5 := hk.dc hr 1 (by kernel_rfl) fun _ _ h => h
      exact yc hK (by go_simp) (ndiv_o wq (low hB HB.out hk.ext) (Q9.out.below hk.ext).lv (Q5.out.below hk.ext).lv hsa hg0) (fun u w1 hu w2 h2 => (let ⟨u0, u1, e0, h0, h1⟩ := hu; ⟨u0, u1, e0, (h0).grow h2, (h1).grow h2⟩))
    refine po rfl (fun lq aq wq hk hr K hK => ?_) ?_
    · obtain ⟨v2, E2, r2⟩ := hk.dp hr 2 32 (by kernel_rfl)
      have r2 : ∃ u0 u1, v2 = .tuple #[u0, u1, .int .i64 0] ∧ LO bO wq u0 ((limbs (a / g))) ((a / g)) ∧ LV wq u1 ((limbs (a % g))) ((a % g)) := r2
      exact vc hK (by go_simp) (fun w2 h2 => (let ⟨u0, u1, e0, h0, h1⟩ := r2; ⟨u0, u1, e0, (h0).grow h2, (h1).grow h2⟩))
    refine po rfl (fun lq aq wq hk hr K hK => ?_) ?_
    · obtain ⟨v3, E3, r3⟩ := hk.dp hr 3 29 (by kernel_rfl)
      have r3 : ∃ u0 u1, v3 = .tuple #[u0, u1, .int .i64 0] ∧ LO bO wq u0 ((limbs (a / g))) ((a / g)) ∧ LV wq u1 ((limbs (a % g))) ((a % g)) := r3
      obtain ⟨u0, u1, rfl, h0, h1⟩ := r3
      exact vc hK (by go_simp) (fun w2 h2 => (h0).grow h2)
    refine po rfl (fun lq aq wq hk hr K hK => ?_) ?_
    · obtain ⟨v3, E3, r3⟩ := hk.dp hr 3 29 (by kernel_rfl)
      have r3 : ∃ u0 u1, v3 = .tuple #[u0, u1, .int .i64 0] ∧ LO bO wq u0 ((limbs (a / g))) ((a / g)) ∧ LV wq u1 ((limbs (a % g))) ((a % g)) := r3
      obtain ⟨u0, u1, rfl, h0, h1⟩ := r3
      exact vc hK (by go_simp) (fun w2 h2 => (h1).grow h2)
    refine po rfl (fun lq aq wq hk hr K hK => ?_) ?_
    · obtain ⟨v3, E3, r3⟩ := hk.dp hr 3 29 (by kernel_rfl)
      have r3 : ∃ u0 u1, v3 = .tuple #[u0, u1, .int .i64 0] ∧ LO bO wq u0 ((limbs (a / g))) ((a / g)) ∧ LV wq u1 ((limbs (a % g))) ((a % g)) := r3
      obtain ⟨u0, u1, rfl, h0, h1⟩ := r3
      exact vc hK (by go_simp) (fun w2 h2 => rfl)
    exact AllOps.nil
  intro V x6 hG hV hap
  have r4 : LO bO x6 (V 4) ((limbs (a / g))) ((a / g)) := hV 4 (by decide)
  have r5 : LV x6 (V 5) ((limbs (a % g))) ((a % g)) := hV 5 (by decide)
  have r6 : (V 6) = .int .i64 0 := hV 6 (by decide)
  clear hV hap
  simp only [List.take_succ_cons, List.take_zero, List.drop_succ_cons, List.drop_zero, putAll, Act.put, List.setIfInBounds_toArray, List.set_cons_zero, List.set_cons_succ]
  have hb := (show Below _ _ _ from hG)
  replace D0 := Lib.hid (D0.out.below hb)
  replace SN0 := Lib.hid (SN0.out.below hb)
  replace DR := Lib.hid (DR.out.below hb)
  replace Q9 := Lib.hid (Q9.out.below hb)
  replace Q5 := Lib.hid (Q5.out.below hb)
  replace Q6 := Lib.hid (Q6.out.below hb)
  replace Q7 := Lib.hid (Q7.out.below hb)
  replace HB := Lib.hid (HB.out.trans (Below.mono hb HB.out.size))
  clear hb hG
  rw [r6]
  clear r6
  obtain ⟨A9, c9, e9, q9, o9⟩ := r4
  simp only [e9]
  rw [e9] at q9 o9
  have Q9 := Lib.hid q9
  have O9 := Lib.hid o9
  clear e9 q9 o9
  obtain ⟨A10, c10, e10, q10⟩ := r5
  simp only [e10]
  rw [e10] at q10
  have Q10 := Lib.hid q10
  clear e10 q10
  go_upto_region 5 with fail
  have hsg : sg (decide (z < 0)) (z.natAbs / g) = (mkRat z a).num := hup
  have hsn := SN0.out.sign
  replace hsg := Lib.hid (show sg nm2 (z.natAbs / g) = (mkRat z a).num by rw [hsn]; exact hup)
  clear hsn
  refine wp_region_calm 6 [] ([fun vq _ => vq = .pointer (some ⟨w.heap.size, 0, none⟩),
      fun vq _ => vq = .bool nm2,
      fun vq _ => vq = .slice A6 (limbs (z.natAbs / g)).length c6,
      fun vq wq => ZO bO wq vq ((mkRat z a).num),
      fun vq _ => vq = .slice A9 (limbs (a / g)).length c9,
      fun vq wq => RO bO wq vq ((mkRat z a))]) (by kernel_rfl) (by decide) ?_ ?_ ?_
  · intro j hj; cases hj
  · refine po rfl (fun lq aq wq hk hr K hK => ?_) ?_
    · have B2 : ev aq (.tmp 2) = .pointer (some ⟨w.heap.size, 0, none⟩) := hk.base 2 (by kernel_rfl) rfl
      exact vc hK (by go_simp) (fun w2 h2 => rfl)
    refine po rfl (fun lq aq wq hk hr K hK => ?_) ?_
    · have E0 : ev aq (.tmp 36) = .pointer (some ⟨w.heap.size, 0, none⟩) := hk.dc hr 0 (by kernel_rfl) fun _ _ h => h
      have hb : Below _ _ _ := hk.ext
      have c0 := (D0.out.below hb).c0
      exact vc hK (by go_simp) (fun w2 h2 => rfl)
    refine po rfl (fun lq aq wq hk hr K hK => ?_) ?_
    · have B6 : ev aq (.tmp 6) = .slice A6 (limbs (z.natAbs / g)).length c6 := hk.base 6 (by kernel_rfl) rfl
      exact vc hK (by go_simp) (fun w2 h2 => rfl)
    refine po rfl (fun lq aq wq hk hr K hK => ?_) ?_
    · have E1 : ev aq (.tmp 37) = .bool nm2 := hk.dc hr 1 (by kernel_rfl) fun _ _ h => h
      have E2 : ev aq (.tmp 38) = .slice A6 (limbs (z.natAbs / g)).length c6 := hk.dc hr 2 (by kernel_rfl) fun _ _ h => h
      exact yc hK (by go_simp) (of_o wq (low hB HB.out hk.ext) nm2 (Q6.out.below hk.ext).lv hsg.out hks.1) (fun u w1 hu w2 h2 => (hu).grow h2)
    refine po rfl (fun lq aq wq hk hr K hK => ?_) ?_
    · have B9 : ev aq (.tmp 9) = .slice A9 (limbs (a / g)).length c9 := hk.base 9 (by kernel_rfl) rfl
      exact vc hK (by go_simp) (fun w2 h2 => rfl)
    refine po rfl (fun lq aq wq hk hr K hK => ?_) ?_
    · obtain ⟨v3, E3, r3⟩ := hk.dp hr 3 39 (by kernel_rfl)
      have r3 : ZO bO wq v3 ((mkRat z a).num) := r3
      have E4 : ev aq (.tmp 40) = .slice A9 (limbs (a / g)).length c9 := hk.dc hr 4 (by kernel_rfl) fun _ _ h => h
      obtain ⟨n3, A3, k3, c3, rfl, s3, o3⟩ := r3
      have hsl : ∃ B j e, .slice A9 (limbs (a / g)).length c9 = Value.slice B j e := ⟨_, _, _, rfl⟩
      have hnd := Q9.out.below hk.ext
      exact vc hK (op_rat 39 40 E3 E4 hsl) (fun w2 h2 => RO.grow ⟨_, _, _, _, _, _, _, rfl, s3, (Num.to hnd hdn), hks.2, o3, (O9.out.below hk.ext)⟩ h2)
    exact AllOps.nil
  intro V x7 hG hV hap
  have r5 : RO bO x7 (V 5) ((mkRat z a)) := hV 5 (by decide)
  clear hV hap
  simp only [List.take_succ_cons, List.take_zero, List.drop_succ_cons, List.drop_zero, putAll, Act.put, List.setIfInBounds_toArray, List.set_cons_zero, List.set_cons_succ]
  have hb := (show Below _ _ _ from hG)
  obtain ⟨nR, AR, kR, cR, BR, jR, dR, y9, eR, ey, hQ, HQ, c0, c1, c2⟩ := ret3o r5 (DR.out.below hb) (HB.out.trans (Below.mono hb HB.out.size)) (by omega)
  simp only [eR]
  refine wpList_of_skip rfl (op_store3 4 41 _ rfl rfl (DR.out.below hb)) ?_
  rw [ey]
  clear eR ey hb hG HB DR
  go_wp2_with fail
  refine bodyPost_ret (v := .agg #[.bool nR, .slice AR kR cR, .slice BR jR dR]) (by simp [results, Tryz.results65, go_sem, c0, c1, c2]) rfl ⟨_, rfl, hQ, HQ⟩
set_option maxHeartbeats 4000000 in
set_option maxRecDepth 100000 in
theorem made_o (w : World) {bO : Nat} (hB : bO ≤ w.heap.size) {u : Value} {q : Rat} (h0 : QV w u q) : Calls Tryz.prog 48 #[u] w fun e w' => ∃ x, e = .returned x ∧ RO bO w' x q ∧ Grows w w' := by
  obtain ⟨n0, A0, k0, c0, B0, j0, d0, rfl, z0, l0, a0, s0, t0, hl0, e0⟩ := h0
  have hk0 : szz z0 ≤ 1000 := s0.size
  go_enter Tryz.func48, Tryz.ntmps48
  go_upto_region 1 with fail
  obtain ⟨x0, ex0, HB, D0, DR⟩ := st_33 w 26 (.bool n0) (.slice A0 k0 c0) (.slice B0 j0 d0) 26 (.bool false) (.slice none 0 0) (.slice none 0 0)
  rw [ex0]
  clear ex0
  replace HB := Lib.hid HB
  replace D0 := Lib.hid D0
  replace DR := Lib.hid DR
  have SN0 := Lib.hid (s0.below HB.out)
  clear s0
  have SD0 := Lib.hid (t0.below HB.out)
  clear t0
  have hsa : sz a0 ≤ 1000 := Nat.le_trans (sz_num SD0.out) hl0
  refine wp_region_calm 3 [] ([fun vq _ => vq = .pointer (some ⟨w.heap.size, 2, none⟩),
      fun vq _ => vq = .slice B0 j0 d0,
      fun vq wq => LV wq vq ((limbs a0)) a0]) (by kernel_rfl) (by decide) ?_ ?_ ?_
  · intro j hj; cases hj
  · refine po rfl (fun lq aq wq hk hr K hK => ?_) ?_
    · have B1 : ev aq (.tmp 1) = .pointer (some ⟨w.heap.size, 0, none⟩) := hk.base 1 (by kernel_rfl) rfl
      exact vc hK (by go_simp) (fun w2 h2 => rfl)
    refine po rfl (fun lq aq wq hk hr K hK => ?_) ?_
    · have E0 : ev aq (.tmp 4) = .pointer (some ⟨w.heap.size, 2, none⟩) := hk.dc hr 0 (by kernel_rfl) fun _ _ h => h
      have hb : Below _ _ _ := hk.ext
      have c2 := (D0.out.below hb).c2
      exact vc hK (by go_simp) (fun w2 h2 => rfl)
    refine po rfl (fun lq aq wq hk hr K hK => ?_) ?_
    · have E1 : ev aq (.tmp 5) = .slice B0 j0 d0 := hk.dc hr 1 (by kernel_rfl) fun _ _ h => h
      exact yc hK (by go_simp) (ntrim_v wq (SD0.out.below hk.ext).lv hsa) (fun u w1 hu w2 h2 => (hu).grow h2)
    exact AllOps.nil
  intro V x1 hG hV hap
  have r2 : LV x1 (V 2) ((limbs a0)) a0 := hV 2 (by decide)
  clear hV hap
  simp only [List.take_succ_cons, List.take_zero, List.drop_succ_cons, List.drop_zero, putAll, Act.put, List.setIfInBounds_toArray, List.set_cons_zero, List.set_cons_succ]
  have hb := (show Below _ _ _ from hG)
  replace D0 := Lib.hid (D0.out.below hb)
  replace SN0 := Lib.hid (SN0.out.below hb)
  replace SD0 := Lib.hid (SD0.out.below hb)
  replace DR := Lib.hid (DR.out.below hb)
  replace HB := Lib.hid (HB.out.trans (Below.mono hb HB.out.size))
  clear hb hG
  obtain ⟨A3, c3, e3, q3⟩ := r2
  simp only [e3]
  rw [e3] at q3
  have Q3 := Lib.hid q3
  clear e3 q3
  rcases Nat.eq_zero_or_pos a0 with ha | ha
  · skip
    have hlen : (limbs a0).length = 0 := by rw [ha, limbs_zero]; rfl
    have q3 := Q3.out
    rw [hlen] at q3 ⊢
    clear Q3 q3
    go_upto_region 2 with fail
    refine wp_region_calm 3 [] ([fun vq _ => vq = .slice A3 0 c3,
        fun vq _ => vq = .int .i64 0,
        fun vq _ => vq = .bool true]) (by kernel_rfl) (by decide) ?_ ?_ ?_
    · intro j hj; cases hj
    · refine po rfl (fun lq aq wq hk hr K hK => ?_) ?_
      · have B3 : ev aq (.tmp 3) = .slice A3 0 c3 := hk.base 3 (by kernel_rfl) rfl
        exact vc hK (by go_simp) (fun w2 h2 => rfl)
      refine po rfl (fun lq aq wq hk hr K hK => ?_) ?_
      · have E0 : ev aq (.tmp 7) = .slice A3 0 c3 := hk.dc hr 0 (by kernel_rfl) fun _ _ h => h
        exact vc hK (by go_simp) (fun w2 h2 => rfl)
      refine po rfl (fun lq aq wq hk hr K hK => ?_) ?_
      · have E1 : ev aq (.tmp 8) = .int .i64 0 := hk.dc hr 1 (by kernel_rfl) fun _ _ h => h
        exact vc hK (by go_simp) (fun w2 h2 => rfl)
      exact AllOps.nil
    intro V x2 hG hV hap
    have r2 : (V 2) = .bool true := hV 2 (by decide)
    clear hV hap
    simp only [List.take_succ_cons, List.take_nil, List.drop_succ_cons, List.drop_nil, putAll, Act.put, List.setIfInBounds_toArray, List.set_cons_zero, List.set_cons_succ]
    have hb := (show Below _ _ _ from hG)
    replace D0 := Lib.hid (D0.out.below hb)
    replace SN0 := Lib.hid (SN0.out.below hb)
    replace SD0 := Lib.hid (SD0.out.below hb)
    replace DR := Lib.hid (DR.out.below hb)
    replace HB := Lib.hid (HB.out.trans (Below.mono hb HB.out.size))
    clear hb hG
    rw [r2]
    clear r2
    go_upto_region 3 with fail
    refine wp_region_calm 1 [] ([fun vq wq => LV wq vq ((limbs 1)) 1]) (by kernel_rfl) (by decide) ?_ ?_ ?_
    · intro j hj; cases hj
    · refine po rfl (fun lq aq wq hk hr K hK => ?_) ?_
      · exact yc hK (by go_simp) (one_v wq) (fun u w1 hu w2 h2 => (hu).grow h2)
      exact AllOps.nil
    intro V x3 hG hV hap
    have r0 : LV x3 (V 0) ((limbs 1)) 1 := hV 0 (by decide)
    clear hV hap
    simp only [List.take_succ_cons, List.take_zero, List.drop_succ_cons, List.drop_zero, putAll, Act.put, List.setIfInBounds_toArray, List.set_cons_zero, List.set_cons_succ]
    have hb := (show Below _ _ _ from hG)
    replace D0 := Lib.hid (D0.out.below hb)
    replace SN0 := Lib.hid (SN0.out.below hb)
    replace SD0 := Lib.hid (SD0.out.below hb)
    replace DR := Lib.hid (DR.out.below hb)
    replace HB := Lib.hid (HB.out.trans (Below.mono hb HB.out.size))
    clear hb hG
    obtain ⟨A4, c4, e4, q4⟩ := r0
    simp only [e4]
    rw [e4] at q4
    have Q4 := Lib.hid q4
    clear e4 q4
    go_upto_region 4 with fail
    refine wp_region_calm 4 [] ([fun vq _ => vq = .pointer (some ⟨w.heap.size, 0, none⟩),
        fun vq wq => WV wq vq z0,
        fun vq _ => vq = .slice A4 (limbs 1).length c4,
        fun vq wq => RO bO wq vq ((mkRat z0 1))]) (by kernel_rfl) (by decide) ?_ ?_ ?_
    · intro j hj; cases hj
    · refine po rfl (fun lq aq wq hk hr K hK => ?_) ?_
      · have B1 : ev aq (.tmp 1) = .pointer (some ⟨w.heap.size, 0, none⟩) := hk.base 1 (by kernel_rfl) rfl
        exact vc hK (by go_simp) (fun w2 h2 => rfl)
      refine po rfl (fun lq aq wq hk hr K hK => ?_) ?_
      · have E0 : ev aq (.tmp 11) = .pointer (some ⟨w.heap.size, 0, none⟩) := hk.dc hr 0 (by kernel_rfl) fun _ _ h => h
        have hb : Below _ _ _ := hk.ext
        exact vc hK (op_loadN 11 _ E0 (D0.out.below hb)) (fun w2 h2 => ⟨_, _, _, _, rfl, (SN0.out.below hb).below h2⟩)
      refine po rfl (fun lq aq wq hk hr K hK => ?_) ?_
      · have B3 : ev aq (.tmp 3) = .slice A4 (limbs 1).length c4 := hk.base 3 (by kernel_rfl) rfl
        exact vc hK (by go_simp) (fun w2 h2 => rfl)
      refine po rfl (fun lq aq wq hk hr K hK => ?_) ?_
      · obtain ⟨v1, E1, r1⟩ := hk.dp hr 1 12 (by kernel_rfl)
        have r1 : WV wq v1 z0 := r1
        have E2 : ev aq (.tmp 13) = .slice A4 (limbs 1).length c4 := hk.dc hr 2 (by kernel_rfl) fun _ _ h => h
        exact yc hK (by go_simp) (reduced_o wq (low hB HB.out hk.ext) r1 (Q4.out.below hk.ext).lv (show (limbs 1).length ≤ 1000 by rw [limbs_pos (by decide)]; simp [limbs_zero]) (by decide)) (fun u w1 hu w2 h2 => (hu).grow h2)
      exact AllOps.nil
    intro V x4 hG hV hap
    have r3 : RO bO x4 (V 3) ((mkRat z0 1)) := hV 3 (by decide)
    clear hV hap
    simp only [List.take_succ_cons, List.take_zero, List.drop_succ_cons, List.drop_zero, putAll, Act.put, List.setIfInBounds_toArray, List.set_cons_zero, List.set_cons_succ]
    have hb := (show Below _ _ _ from hG)
    obtain ⟨nR, AR, kR, cR, BR, jR, dR, y9, eR, ey, hQ, HQ, c0, c1, c2⟩ := ret3o r3 (DR.out.below hb) (HB.out.trans (Below.mono hb HB.out.size)) (by omega)
    simp only [eR]
    refine wpList_of_skip rfl (op_store3 2 14 _ rfl rfl (DR.out.below hb)) ?_
    rw [ey]
    clear eR ey hb hG HB DR
    go_wp2_with fail
    refine bodyPost_ret (v := .agg #[.bool nR, .slice AR kR cR, .slice BR jR dR]) (by simp [results, Tryz.results48, go_sem, c0, c1, c2]) rfl ⟨_, rfl, (RO.to hQ (by rw [e0, ha]; rfl)), HQ⟩
  · skip
    obtain ⟨m, hlen, hm9⟩ : ∃ m, (limbs a0).length = m + 1 ∧ m < 1000 := by
      obtain ⟨m, hlen⟩ : ∃ m, (limbs a0).length = m + 1 := ⟨(limbs a0).length - 1, by rw [limbs_pos (by omega)]; simp⟩
      exact ⟨m, hlen, by unfold sz at hsa; omega⟩
    have q3 := Q3.out
    rw [hlen] at q3 ⊢
    clear Q3
    have Q3 := Lib.hid q3
    clear q3
    go_upto_region 2 with fail
    refine wp_region_calm 3 [] ([fun vq _ => vq = .slice A3 (m + 1) c3,
        fun vq _ => vq = .int .i64 (m + 1),
        fun vq _ => vq = .bool false]) (by kernel_rfl) (by decide) ?_ ?_ ?_
    · intro j hj; cases hj
    · refine po rfl (fun lq aq wq hk hr K hK => ?_) ?_
      · have B3 : ev aq (.tmp 3) = .slice A3 (m + 1) c3 := hk.base 3 (by kernel_rfl) rfl
        exact vc hK (by go_simp) (fun w2 h2 => rfl)
      refine po rfl (fun lq aq wq hk hr K hK => ?_) ?_
      · have E0 : ev aq (.tmp 7) = .slice A3 (m + 1) c3 := hk.dc hr 0 (by kernel_rfl) fun _ _ h => h
        exact vc hK (by go_simp) (fun w2 h2 => rfl)
      refine po rfl (fun lq aq wq hk hr K hK => ?_) ?_
      · have E1 : ev aq (.tmp 8) = .int .i64 (m + 1) := hk.dc hr 1 (by kernel_rfl) fun _ _ h => h
        exact vc hK (by go_simp; omega) (fun w2 h2 => rfl)
      exact AllOps.nil
    intro V x2 hG hV hap
    have r2 : (V 2) = .bool false := hV 2 (by decide)
    clear hV hap
    simp only [List.take_succ_cons, List.take_nil, List.drop_succ_cons, List.drop_nil, putAll, Act.put, List.setIfInBounds_toArray, List.set_cons_zero, List.set_cons_succ]
    have hb := (show Below _ _ _ from hG)
    replace D0 := Lib.hid (D0.out.below hb)
    replace SN0 := Lib.hid (SN0.out.below hb)
    replace SD0 := Lib.hid (SD0.out.below hb)
    replace DR := Lib.hid (DR.out.below hb)
    replace Q3 := Lib.hid (Q3.out.below hb)
    replace HB := Lib.hid (HB.out.trans (Below.mono hb HB.out.size))
    clear hb hG
    rw [r2]
    clear r2
    go_upto_region 4 with fail
    refine wp_region_calm 4 [] ([fun vq _ => vq = .pointer (some ⟨w.heap.size, 0, none⟩),
        fun vq wq => WV wq vq z0,
        fun vq _ => vq = .slice A3 (m + 1) c3,
        fun vq wq => RO bO wq vq ((mkRat z0 a0))]) (by kernel_rfl) (by decide) ?_ ?_ ?_
    · intro j hj; cases hj
    · refine po rfl (fun lq aq wq hk hr K hK => ?_) ?_
      · have B1 : ev aq (.tmp 1) = .pointer (some ⟨w.heap.size, 0, none⟩) := hk.base 1 (by kernel_rfl) rfl
        exact vc hK (by go_simp) (fun w2 h2 => rfl)
      refine po rfl (fun lq aq wq hk hr K hK => ?_) ?_
      · have E0 : ev aq (.tmp 11) = .pointer (some ⟨w.heap.size, 0, none⟩) := hk.dc hr 0 (by kernel_rfl) fun _ _ h => h
        have hb : Below _ _ _ := hk.ext
        exact vc hK (op_loadN 11 _ E0 (D0.out.below hb)) (fun w2 h2 => ⟨_, _, _, _, rfl, (SN0.out.below hb).below h2⟩)
      refine po rfl (fun lq aq wq hk hr K hK => ?_) ?_
      · have B3 : ev aq (.tmp 3) = .slice A3 (m + 1) c3 := hk.base 3 (by kernel_rfl) rfl
        exact vc hK (by go_simp) (fun w2 h2 => rfl)
      refine po rfl (fun lq aq wq hk hr K hK => ?_) ?_
      · obtain ⟨v1, E1, r1⟩ := hk.dp hr 1 12 (by kernel_rfl)
        have r1 : WV wq v1 z0 := r1
        have E2 : ev aq (.tmp 13) = .slice A3 (m + 1) c3 := hk.dc hr 2 (by kernel_rfl) fun _ _ h => h
        exact yc hK (by go_simp) (reduced_o wq (low hB HB.out hk.ext) r1 (Q3.out.below hk.ext).lv hsa ha) (fun u w1 hu w2 h2 => (hu).grow h2)
      exact AllOps.nil
    intro V x3 hG hV hap
    have r3 : RO bO x3 (V 3) ((mkRat z0 a0)) := hV 3 (by decide)
    clear hV hap
    simp only [List.take_succ_cons, List.take_zero, List.drop_succ_cons, List.drop_zero, putAll, Act.put, List.setIfInBounds_toArray, List.set_cons_zero, List.set_cons_succ]
    have hb := (show Below _ _ _ from hG)
    obtain ⟨nR, AR, kR, cR, BR, jR, dR, y9, eR, ey, hQ, HQ, c0, c1, c2⟩ := ret3o r3 (DR.out.below hb) (HB.out.trans (Below.mono hb HB.out.size)) (by omega)
    simp only [eR]
    refine wpList_of_skip rfl (op_store3 2 14 _ rfl rfl (DR.out.below hb)) ?_
    rw [ey]
    clear eR ey hb hG HB DR
    go_wp2_with fail
    refine bodyPost_ret (v := .agg #[.bool nR, .slice AR kR cR, .slice BR jR dR]) (by simp [results, Tryz.results48, go_sem, c0, c1, c2]) rfl ⟨_, rfl, (RO.to hQ (by rw [e0, dn_of_pos ha])), HQ⟩
set_option maxHeartbeats 4000000 in
set_option maxRecDepth 100000 in
theorem int_o (w : World) {bO : Nat} (hB : bO ≤ w.heap.size) {u : Value} {z : Int} (h0 : WV w u z) : Calls Tryz.prog 45 #[u] w fun e w' => ∃ x, e = .returned x ∧ RO bO w' x (z : Rat) ∧ Grows w w' := by
  obtain ⟨n0, A0, k0, c0, rfl, s0⟩ := h0
  have hk0 : szz z ≤ 1000 := s0.size
  go_enter Tryz.func45, Tryz.ntmps45
  go_upto_region 1 with fail
  obtain ⟨x0, ex0, HB, D0, DR⟩ := st_23 w 24 (.bool n0) (.slice A0 k0 c0) 26 (.bool false) (.slice none 0 0) (.slice none 0 0)
  rw [ex0]
  clear ex0
  replace HB := Lib.hid HB
  replace D0 := Lib.hid D0
  replace DR := Lib.hid DR
  have SN0 := Lib.hid (s0.below HB.out)
  clear s0
  refine wp_region_going 3 [] ([fun vq wq => WV wq vq z,
      fun vq wq => LV wq vq ((limbs 1)) 1,
      fun vq wq => RO bO wq vq ((mkRat z 1))]) (by kernel_rfl) (by kernel_rfl) (by decide) (by kernel_rfl) (by kernel_rfl) ?_ ?_ ?_
  · intro j hj; cases hj
  · refine po rfl (fun lq aq wq hk hr K hK => ?_) ?_
    · have B1 : ev aq (.tmp 1) = .pointer (some ⟨w.heap.size, 0, none⟩) := hk.base 1 (by kernel_rfl) rfl
      have hb := grows_of hk.ext
      exact vc hK (op_load 1 _ B1 (D0.out.below hb)) (fun w2 h2 => ⟨_, _, _, _, rfl, (SN0.out.below hb).below h2⟩)
    refine po rfl (fun lq aq wq hk hr K hK => ?_) ?_
    · exact yc hK (by go_simp) (one_v wq) (fun u w1 hu w2 h2 => (hu).grow h2)
    refine po rfl (fun lq aq wq hk hr K hK => ?_) ?_
    · obtain ⟨v0, E0, r0⟩ := hk.dp hr 0 3 (by kernel_rfl)
      have r0 : WV wq v0 z := r0
      obtain ⟨v1, E1, r1⟩ := hk.dp hr 1 4 (by kernel_rfl)
      have r1 : LV wq v1 ((limbs 1)) 1 := r1
      exact yc hK (by go_simp) (reduced_o wq (low hB HB.out (grows_of hk.ext)) r0 r1 (by rw [limbs_pos (by decide)]; simp [limbs_zero]) (by decide)) (fun u w1 hu w2 h2 => (hu).grow h2)
    exact AllOps.nil
  intro V x1 hG hV hap
  have r2 : RO bO x1 (V 2) ((mkRat z 1)) := hV 2 (by decide)
  clear hV hap
  simp only [List.take_succ_cons, List.take_zero, List.drop_succ_cons, List.drop_zero, putAll, Act.put, List.setIfInBounds_toArray, List.set_cons_zero, List.set_cons_succ]
  have hb := grows_of hG
  obtain ⟨nR, AR, kR, cR, BR, jR, dR, y9, eR, ey, hQ, HQ, c0, c1, c2⟩ := ret3o r2 (DR.out.below hb) (HB.out.trans (Below.mono hb HB.out.size)) (by omega)
  simp only [eR]
  refine wpList_of_skip rfl (op_store3 2 5 _ rfl rfl (DR.out.below hb)) ?_
  rw [ey]
  clear eR ey hb hG HB DR
  go_wp2_with fail
  refine bodyPost_ret (v := .agg #[.bool nR, .slice AR kR cR, .slice BR jR dR]) (by simp [results, Tryz.results45, go_sem, c0, c1, c2]) rfl ⟨_, rfl, (RO.to hQ (Rat.mkRat_one z)), HQ⟩
set_option maxHeartbeats 4000000 in
set_option maxRecDepth 100000 in
theorem neg1_o (w : World) {bO : Nat} (hB : bO ≤ w.heap.size) {u : Value} {q : Rat} (h0 : RO bO w u q) : Calls Tryz.prog 60 #[u] w fun e w' => ∃ x, e = .returned x ∧ RO bO w' x (-q) ∧ Grows w w' := by
  obtain ⟨n0, A0, k0, c0, B0, j0, d0, rfl, s0, t0, hd0, oN0, oD0⟩ := h0
  go_enter Tryz.func60, Tryz.ntmps60
  go_upto_region 1 with fail
  obtain ⟨x0, ex0, HB, D0, DR⟩ := st_33 w 26 (.bool n0) (.slice A0 k0 c0) (.slice B0 j0 d0) 26 (.bool false) (.slice none 0 0) (.slice none 0 0)
  rw [ex0]
  clear ex0
  replace HB := Lib.hid HB
  replace D0 := Lib.hid D0
  replace DR := Lib.hid DR
  have ON0 := Lib.hid (oN0.below HB.out)
  have OD0 := Lib.hid (oD0.below HB.out)
  clear oN0 oD0
  have SN0 := Lib.hid (s0.below HB.out)
  clear s0
  have SD0 := Lib.hid (t0.below HB.out)
  clear t0
  have hneg : szz (-q.num) ≤ 1000 := szz_neg SN0.out.short
  refine wp_region_going 6 [] ([fun vq _ => vq = .pointer (some ⟨w.heap.size, 0, none⟩),
      fun vq wq => ZV wq vq q.num,
      fun vq wq => ZO bO wq vq ((-q).num),
      fun vq _ => vq = .pointer (some ⟨w.heap.size, 2, none⟩),
      fun vq _ => vq = .slice B0 j0 d0,
      fun vq wq => RO bO wq vq ((-q))]) (by kernel_rfl) (by kernel_rfl) (by decide) (by kernel_rfl) (by kernel_rfl) ?_ ?_ ?_
  · intro j hj; cases hj
  · refine po rfl (fun lq aq wq hk hr K hK => ?_) ?_
    · have B1 : ev aq (.tmp 1) = .pointer (some ⟨w.heap.size, 0, none⟩) := hk.base 1 (by kernel_rfl) rfl
      exact vc hK (by go_simp) (fun w2 h2 => rfl)
    refine po rfl (fun lq aq wq hk hr K hK => ?_) ?_
    · have E0 : ev aq (.tmp 3) = .pointer (some ⟨w.heap.size, 0, none⟩) := hk.dc hr 0 (by kernel_rfl) fun _ _ h => h
      have hb := grows_of hk.ext
      exact vc hK (op_loadN 3 _ E0 (D0.out.below hb)) (fun w2 h2 => ⟨_, _, _, _, rfl, (SN0.out.below hb).below h2⟩)
    refine po rfl (fun lq aq wq hk hr K hK => ?_) ?_
    · obtain ⟨v1, E1, r1⟩ := hk.dp hr 1 4 (by kernel_rfl)
      have r1 : ZV wq v1 q.num := r1
      refine wp_of_call (f := 61) (vs := #[v1]) (by go_simp) ((by have h := neg_o wq (low hB HB.out (grows_of hk.ext)) (r1).wv hneg; rwa [← Rat.neg_num] at h)) ?_
      rintro e w1 ⟨u, rfl, hu, hb⟩
      exact ⟨u, rfl, hK.out _ _ hb (fun w2 h2 => (hu).grow h2) (fun h => absurd h (by decide))⟩
    refine po rfl (fun lq aq wq hk hr K hK => ?_) ?_
    · have B1 : ev aq (.tmp 1) = .pointer (some ⟨w.heap.size, 0, none⟩) := hk.base 1 (by kernel_rfl) rfl
      exact vc hK (by go_simp) (fun w2 h2 => rfl)
    refine po rfl (fun lq aq wq hk hr K hK => ?_) ?_
    · have E3 : ev aq (.tmp 6) = .pointer (some ⟨w.heap.size, 2, none⟩) := hk.dc hr 3 (by kernel_rfl) fun _ _ h => h
      have hb := grows_of hk.ext
      have c2 := (D0.out.below hb).c2
      exact vc hK (by go_simp) (fun w2 h2 => rfl)
    refine po rfl (fun lq aq wq hk hr K hK => ?_) ?_
    · obtain ⟨v2, E2, r2⟩ := hk.dp hr 2 5 (by kernel_rfl)
      have r2 : ZO bO wq v2 ((-q).num) := r2
      have E4 : ev aq (.tmp 7) = .slice B0 j0 d0 := hk.dc hr 4 (by kernel_rfl) fun _ _ h => h
      obtain ⟨n2, A2, k2, c2, rfl, s2, o2⟩ := r2
      have hsl : ∃ B j e, .slice B0 j0 d0 = Value.slice B j e := ⟨_, _, _, rfl⟩
      have hnd := SD0.out.below (grows_of hk.ext)
      exact vc hK (op_rat 5 7 E2 E4 hsl) (fun w2 h2 => RO.grow ⟨_, _, _, _, _, _, _, rfl, s2, (Num.to hnd (Rat.neg_den q).symm), (show sz (-q).den ≤ 1000 by rw [Rat.neg_den]; exact hd0), o2, (OD0.out.below (grows_of hk.ext))⟩ h2)
    exact AllOps.nil
  intro V x1 hG hV hap
  have r2 : ZO bO x1 (V 2) ((-q).num) := hV 2 (by decide)
  have r5 : RO bO x1 (V 5) ((-q)) := hV 5 (by decide)
  clear hV hap
  simp only [List.take_succ_cons, List.take_zero, List.drop_succ_cons, List.drop_zero, putAll, Act.put, List.setIfInBounds_toArray, List.set_cons_zero, List.set_cons_succ]
  have hb := grows_of hG
  obtain ⟨nR, AR, kR, cR, BR, jR, dR, y9, eR, ey, hQ, HQ, c0, c1, c2⟩ := ret3o r5 (DR.out.below hb) (HB.out.trans (Below.mono hb HB.out.size)) (by omega)
  simp only [eR]
  refine wpList_of_skip rfl (op_store3 2 8 _ rfl rfl (DR.out.below hb)) ?_
  rw [ey]
  clear eR ey hb hG HB DR
  go_wp2_with fail
  refine bodyPost_ret (v := .agg #[.bool nR, .slice AR kR cR, .slice BR jR dR]) (by simp [results, Tryz.results60, go_sem, c0, c1, c2]) rfl ⟨_, rfl, hQ, HQ⟩
end Go.Proofs.YtbippecchpaleaaGreatDoor
