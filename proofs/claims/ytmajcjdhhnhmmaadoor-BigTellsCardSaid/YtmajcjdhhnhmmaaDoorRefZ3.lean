import Derived.Test.YtmajcjdhhnhmmaaDoorRefZ4
/- litmusref02.Div, Mod: what each returns. -/
namespace Go.Proofs.YtmajcjdhhnhmmaaDoor
open Go.RowKit Go.Num Go.Kp
attribute [local go_sem] Oper.semAt_some u64_mask ev_const ev_func ev_global
set_option maxHeartbeats 4000000 in
set_option maxRecDepth 100000 in
theorem rdiv0_v (w : World) {u v : Value} {x y : Int} (h0 : WV w u x) (h1 : WV w v y) (hy0 : y = 0) : Calls Tryd.prog 18 #[u, v] w fun e w' => ∃ r, e = .returned r ∧ (∃ q, r = .tuple #[q, .int .i64 3] ∧ ZV w' q 0) ∧ Grows w w' := by
  obtain ⟨n0, A0, k0, c0, rfl, s0⟩ := h0
  have hk0 : szz x ≤ 1000 := s0.size
  obtain ⟨n1, A1, k1, c1, rfl, s1⟩ := h1
  have hk1 : szz y ≤ 1000 := s1.size
  obtain ⟨HB, D0, D1, DR⟩ := start3 w 24 (.bool n0) (.slice A0 k0 c0) (.bool n1) (.slice A1 k1 c1) (.bool false) (.slice none 0 0)
  replace HB := Lib.hid HB
  replace D0 := Lib.hid D0
  replace D1 := Lib.hid D1
  replace DR := Lib.hid DR
  have S0 := Lib.hid (s0.below HB.out)
  clear s0
  have S1 := Lib.hid (s1.below HB.out)
  clear s1
  go_enter Tryd.func18, Tryd.ntmps18
  go_upto_region 1 with fail
  generalize (((w.alloc (.cells #[.bool n0, .slice A0 k0 c0] 24)).alloc (.cells #[.bool n1, .slice A1 k1 c1] 24)).alloc (.cells #[.bool false, .slice none 0 0] 24)) = x0 at *
  obtain ⟨l0, a0, q0, hl0, e0⟩ := S0.out
  have Q0 := Lib.hid q0
  clear q0
  obtain ⟨l1, a1, q1, hl1, e1⟩ := S1.out
  have Q1 := Lib.hid q1
  clear q1
  obtain rfl : a1 = 0 := by have h := congrArg Int.natAbs e1; rw [sg_natAbs, hy0] at h; exact h.symm
  refine wp_region_calm 9 [] ([fun vq _ => vq = .pointer (some ⟨w.heap.size, 1, none⟩),
      fun vq _ => vq = .slice A0 k0 c0,
      fun vq _ => vq = .pointer (some ⟨w.heap.size + 1, 1, none⟩),
      fun vq _ => vq = .slice A1 k1 c1,
      fun vq wq => vq = .tuple #[.slice none 0 0, .slice none 0 0, .int .i64 3],
      fun vq wq => vq = .tuple #[.slice none 0 0, .slice none 0 0, .int .i64 3],
      fun vq _ => vq = .slice none 0 0,
      fun vq _ => vq = .slice none 0 0,
      fun vq _ => vq = .int .i64 3]) (by kernel_rfl) (by decide) ?hF ?steps ?fin
  case hF =>
    intro j hj; cases hj
  case steps =>
    refine AllOps.cons (Does.plain rfl fun lq aq wq hk hr K hK => ?_) ?_
    · have B2 : ev aq (.tmp 2) = .pointer (some ⟨w.heap.size, 0, none⟩) := hk.base 2 (by kernel_rfl) rfl
      exact wp_of_value (by go_simp) (hK.out _ _ (Grows.refl _) (fun w2 h2 => rfl) (fun h => absurd h (by decide)))
    refine AllOps.cons (Does.plain rfl fun lq aq wq hk hr K hK => ?_) ?_
    · obtain ⟨v0, E0, -, r0⟩ := hk.dep hr 0 11 (by kernel_rfl) (by kernel_rfl)
      replace E0 : ev aq (.tmp 11) = .pointer (some ⟨w.heap.size, 1, none⟩) := E0.trans (r0 wq (Grows.refl wq))
      have hb : Below _ _ _ := hk.ext
      have c1 := (Box2.below D0.out hb).c1
      exact wp_of_value (by go_simp) (hK.out _ _ (Grows.refl _) (fun w2 h2 => rfl) (fun h => absurd h (by decide)))
    refine AllOps.cons (Does.plain rfl fun lq aq wq hk hr K hK => ?_) ?_
    · have B3 : ev aq (.tmp 3) = .pointer (some ⟨w.heap.size + 1, 0, none⟩) := hk.base 3 (by kernel_rfl) rfl
      exact wp_of_value (by go_simp) (hK.out _ _ (Grows.refl _) (fun w2 h2 => rfl) (fun h => absurd h (by decide)))
    refine AllOps.cons (Does.plain rfl fun lq aq wq hk hr K hK => ?_) ?_
    · obtain ⟨v2, E2, -, r2⟩ := hk.dep hr 2 13 (by kernel_rfl) (by kernel_rfl)
      replace E2 : ev aq (.tmp 13) = .pointer (some ⟨w.heap.size + 1, 1, none⟩) := E2.trans (r2 wq (Grows.refl wq))
      have hb : Below _ _ _ := hk.ext
      have c1 := (Box2.below D1.out hb).c1
      exact wp_of_value (by go_simp) (hK.out _ _ (Grows.refl _) (fun w2 h2 => rfl) (fun h => absurd h (by decide)))
    refine AllOps.cons (Does.plain rfl fun lq aq wq hk hr K hK => ?_) ?_
    · obtain ⟨v1, E1, -, r1⟩ := hk.dep hr 1 12 (by kernel_rfl) (by kernel_rfl)
      replace E1 : ev aq (.tmp 12) = .slice A0 k0 c0 := E1.trans (r1 wq (Grows.refl wq))
      obtain ⟨v3, E3, -, r3⟩ := hk.dep hr 3 14 (by kernel_rfl) (by kernel_rfl)
      replace E3 : ev aq (.tmp 14) = .slice A1 k1 c1 := E3.trans (r3 wq (Grows.refl wq))
      refine wp_of_call (f := 52) (vs := #[.slice A0 k0 c0, .slice A1 k1 c1]) (by go_simp) (rdivn0_v wq (Q1.out.below hk.ext).lv) ?_
      rintro e w1 ⟨u, rfl, hu, hb⟩
      exact ⟨u, rfl, hK.out _ _ hb (fun w2 h2 => hu) (fun h => absurd h (by decide))⟩
    refine AllOps.cons (Does.plain rfl fun lq aq wq hk hr K hK => ?_) ?_
    · obtain ⟨v4, E4, -, r4⟩ := hk.dep hr 4 15 (by kernel_rfl) (by kernel_rfl)
      have r4 : v4 = .tuple #[.slice none 0 0, .slice none 0 0, .int .i64 3] := r4 wq (Grows.refl wq)
      exact wp_of_value (by go_simp) (hK.out _ _ (Grows.refl _) (fun w2 h2 => r4) (fun h => absurd h (by decide)))
    refine AllOps.cons (Does.plain rfl fun lq aq wq hk hr K hK => ?_) ?_
    · obtain ⟨v5, E5, -, r5⟩ := hk.dep hr 5 10 (by kernel_rfl) (by kernel_rfl)
      have r5 : v5 = .tuple #[.slice none 0 0, .slice none 0 0, .int .i64 3] := r5 wq (Grows.refl wq)
      obtain ⟨rfl⟩ := r5
      exact wp_of_value (by go_simp) (hK.out _ _ (Grows.refl _) (fun w2 h2 => rfl) (fun h => absurd h (by decide)))
    refine AllOps.cons (Does.plain rfl fun lq aq wq hk hr K hK => ?_) ?_
    · obtain ⟨v5, E5, -, r5⟩ := hk.dep hr 5 10 (by kernel_rfl) (by kernel_rfl)
      have r5 : v5 = .tuple #[.slice none 0 0, .slice none 0 0, .int .i64 3] := r5 wq (Grows.refl wq)
      obtain ⟨rfl⟩ := r5
      exact wp_of_value (by go_simp) (hK.out _ _ (Grows.refl _) (fun w2 h2 => rfl) (fun h => absurd h (by decide)))
    refine AllOps.cons (Does.plain rfl fun lq aq wq hk hr K hK => ?_) ?_
    · obtain ⟨v5, E5, -, r5⟩ := hk.dep hr 5 10 (by kernel_rfl) (by kernel_rfl)
      have r5 : v5 = .tuple #[.slice none 0 0, .slice none 0 0, .int .i64 3] := r5 wq (Grows.refl wq)
      obtain ⟨rfl⟩ := r5
      exact wp_of_value (by go_simp) (hK.out _ _ (Grows.refl _) (fun w2 h2 => rfl) (fun h => absurd h (by decide)))
    exact AllOps.nil
  case fin =>
    intro V x1 hG hV hap
    have r6 : (V 6) = .slice none 0 0 := hV 6 (by decide)
    have r7 : (V 7) = .slice none 0 0 := hV 7 (by decide)
    have r8 : (V 8) = .int .i64 3 := hV 8 (by decide)
    clear hV hap
    simp only [List.take_succ_cons, List.take_zero, List.drop_succ_cons, List.drop_zero, putAll, Act.put, List.setIfInBounds_toArray, List.set_cons_zero, List.set_cons_succ]
    have hb := (show Below _ _ _ from hG)
    replace D0 := Lib.hid (Box2.below D0.out hb)
    replace S0 := Lib.hid (S0.out.below hb)
    replace D1 := Lib.hid (Box2.below D1.out hb)
    replace S1 := Lib.hid (S1.out.below hb)
    replace DR := Lib.hid (Box2.below DR.out hb)
    replace Q0 := Lib.hid (Q0.out.below hb)
    replace Q1 := Lib.hid (Q1.out.below hb)
    replace HB := Lib.hid (HB.out.trans (Below.mono hb HB.out.size))
    clear hb hG
    rw [r6, r7, r8]
    clear r6 r7 r8
    go_upto_region 2 with fail
    refine wp_region_calm 2 [] ([fun vq _ => vq = .int .i64 3,
        fun vq _ => vq = .bool true]) (by kernel_rfl) (by decide) ?hF ?steps ?fin
    case hF =>
      intro j hj; cases hj
    case steps =>
      refine AllOps.cons (Does.plain rfl fun lq aq wq hk hr K hK => ?_) ?_
      · have B8 : ev aq (.tmp 8) = .int .i64 3 := hk.base 8 (by kernel_rfl) rfl
        exact wp_of_value (by go_simp) (hK.out _ _ (Grows.refl _) (fun w2 h2 => rfl) (fun h => absurd h (by decide)))
      refine AllOps.cons (Does.plain rfl fun lq aq wq hk hr K hK => ?_) ?_
      · obtain ⟨v0, E0, -, r0⟩ := hk.dep hr 0 19 (by kernel_rfl) (by kernel_rfl)
        replace E0 : ev aq (.tmp 19) = .int .i64 3 := E0.trans (r0 wq (Grows.refl wq))
        exact wp_of_value (by go_simp) (hK.out _ _ (Grows.refl _) (fun w2 h2 => rfl) (fun h => absurd h (by decide)))
      exact AllOps.nil
    case fin =>
      intro V x2 hG hV hap
      have r1 : (V 1) = .bool true := hV 1 (by decide)
      clear hV hap
      simp only [List.take_succ_cons, List.take_nil, List.drop_succ_cons, List.drop_nil, putAll, Act.put, List.setIfInBounds_toArray, List.set_cons_zero, List.set_cons_succ]
      have hb := (show Below _ _ _ from hG)
      replace D0 := Lib.hid (Box2.below D0.out hb)
      replace S0 := Lib.hid (S0.out.below hb)
      replace D1 := Lib.hid (Box2.below D1.out hb)
      replace S1 := Lib.hid (S1.out.below hb)
      replace DR := Lib.hid (Box2.below DR.out hb)
      replace Q0 := Lib.hid (Q0.out.below hb)
      replace Q1 := Lib.hid (Q1.out.below hb)
      replace HB := Lib.hid (HB.out.trans (Below.mono hb HB.out.size))
      clear hb hG
      rw [r1]
      clear r1
      go_upto_region 3 with fail
      refine wp_region_calm 1 [] ([fun vq wq => ZV wq vq 0]) (by kernel_rfl) (by decide) ?hF ?steps ?fin
      case hF =>
        intro j hj; cases hj
      case steps =>
        refine AllOps.cons (Does.plain rfl fun lq aq wq hk hr K hK => ?_) ?_
        · exact wp_of_value (by go_simp) (hK.out _ _ (Grows.refl _) (fun w2 h2 => (ZV.zero _ 0).grow h2) (fun h => absurd h (by decide)))
        exact AllOps.nil
      case fin =>
        intro V x3 hG hV hap
        have r0 : ZV x3 (V 0) 0 := hV 0 (by decide)
        clear hV hap
        simp only [List.take_succ_cons, List.take_zero, List.drop_succ_cons, List.drop_zero, putAll, Act.put, List.setIfInBounds_toArray, List.set_cons_zero, List.set_cons_succ]
        have hb := (show Below _ _ _ from hG)
        obtain ⟨nR, AR, kR, cR, eR, sR⟩ := r0
        simp only [eR]
        clear eR
        replace DR := Box2.below DR.out hb
        refine wpList_of_skip rfl (op_store 4 21 _ rfl rfl DR) ?_
        have sQ := sR.put DR (.bool nR) (.slice AR kR cR)
        have HQ := put2_below (u := .bool nR) (v := .slice AR kR cR) (HB.out.trans (Below.mono hb HB.out.size)) (show w.heap.size ≤ w.heap.size + 1 + 1 by omega)
        replace DR := put2_own (u := .bool nR) (v := .slice AR kR cR) DR
        clear hb hG sR HB
        generalize put2 x3 (w.heap.size + 1 + 1) (.bool nR) (.slice AR kR cR) = y9 at *
        have c0 := DR.c0
        have c1 := DR.c1
        clear DR
        go_wp2_with fail
        refine bodyPost_ret (v := .tuple #[.agg #[.bool nR, .slice AR kR cR], .int .i64 3]) (by simp [results, Tryd.results18, go_sem, c0, c1]) rfl ⟨_, rfl, ⟨_, rfl, ⟨_, _, _, _, rfl, sQ⟩⟩, HQ⟩
set_option maxHeartbeats 16000000 in
set_option maxRecDepth 100000 in
theorem rdiv_v (w : World) {u v : Value} {x y : Int} (h0 : WV w u x) (h1 : WV w v y) (hy0 : y ≠ 0) : Calls Tryd.prog 18 #[u, v] w fun e w' => ∃ r, e = .returned r ∧ (∃ q, r = .tuple #[q, .int .i64 0] ∧ ZV w' q (Int.fdiv x y)) ∧ Grows w w' := by
  obtain ⟨n0, A0, k0, c0, rfl, s0⟩ := h0
  have hk0 : szz x ≤ 1000 := s0.size
  obtain ⟨n1, A1, k1, c1, rfl, s1⟩ := h1
  have hk1 : szz y ≤ 1000 := s1.size
  obtain ⟨HB, D0, D1, DR⟩ := start3 w 24 (.bool n0) (.slice A0 k0 c0) (.bool n1) (.slice A1 k1 c1) (.bool false) (.slice none 0 0)
  replace HB := Lib.hid HB
  replace D0 := Lib.hid D0
  replace D1 := Lib.hid D1
  replace DR := Lib.hid DR
  have S0 := Lib.hid (s0.below HB.out)
  clear s0
  have S1 := Lib.hid (s1.below HB.out)
  clear s1
  go_enter Tryd.func18, Tryd.ntmps18
  go_upto_region 1 with fail
  generalize (((w.alloc (.cells #[.bool n0, .slice A0 k0 c0] 24)).alloc (.cells #[.bool n1, .slice A1 k1 c1] 24)).alloc (.cells #[.bool false, .slice none 0 0] 24)) = x0 at *
  obtain ⟨l0, a0, q0, hl0, e0⟩ := S0.out
  have Q0 := Lib.hid q0
  clear q0
  obtain ⟨l1, a1, q1, hl1, e1⟩ := S1.out
  have Q1 := Lib.hid q1
  clear q1
  have hpos : 0 < a1 := by
    rcases Nat.eq_zero_or_pos a1 with h | h
    · exact absurd (by rw [e1, h, sg_zero]) hy0
    · exact h
  have hsa : sz a0 ≤ 1000 := by have h := hk0; rw [e0] at h; unfold szz at h; rwa [sg_natAbs] at h
  have hsb : sz a1 ≤ 1000 := by have h := hk1; rw [e1] at h; unfold szz at h; rwa [sg_natAbs] at h
  obtain ⟨p, hp⟩ : ∃ p, decide (x < 0) = p := ⟨_, rfl⟩
  obtain ⟨q, hq⟩ : ∃ q, decide (y < 0) = q := ⟨_, rfl⟩
  have hx : sg p a0 = x := by have h := sg_own x; rw [hp] at h; rw [← h, ← sg_natAbs n0 a0, ← e0]
  have hy : sg q a1 = y := by have h := sg_own y; rw [hq] at h; rw [← h, ← sg_natAbs n1 a1, ← e1]
  have h6 : sz (a0 / a1) ≤ 1000 := Nat.le_trans (sz_mono (Nat.div_le_self _ _)) hsa
  have h7 : sz (a0 % a1) ≤ 1000 := Nat.le_trans (sz_mono (Nat.mod_le _ _)) hsa
  have hso : szz (sg (p != q) (a0 / a1)) ≤ 1000 := by unfold szz; rw [sg_natAbs]; exact h6
  have hs2 : szz (sg (p != q) (a0 / a1) - 1) ≤ 1001 := Nat.le_trans (szz_sub hso (szz_i64 (by decide) (by decide) : szz 1 ≤ 2)) (by decide)
  refine wp_region_calm 9 [] ([fun vq _ => vq = .pointer (some ⟨w.heap.size, 1, none⟩),
      fun vq _ => vq = .slice A0 k0 c0,
      fun vq _ => vq = .pointer (some ⟨w.heap.size + 1, 1, none⟩),
      fun vq _ => vq = .slice A1 k1 c1,
      fun vq wq => ∃ u0 u1, vq = .tuple #[u0, u1, .int .i64 0] ∧ LV wq u0 ((limbs (a0 / a1))) ((a0 / a1)) ∧ LV wq u1 ((limbs (a0 % a1))) ((a0 % a1)),
      fun vq wq => ∃ u0 u1, vq = .tuple #[u0, u1, .int .i64 0] ∧ LV wq u0 ((limbs (a0 / a1))) ((a0 / a1)) ∧ LV wq u1 ((limbs (a0 % a1))) ((a0 % a1)),
      fun vq wq => LV wq vq ((limbs (a0 / a1))) ((a0 / a1)),
      fun vq wq => LV wq vq ((limbs (a0 % a1))) ((a0 % a1)),
      fun vq _ => vq = .int .i64 0]) (by kernel_rfl) (by decide) ?hF ?steps ?fin
  case hF =>
    intro j hj; cases hj
  case steps =>
    refine AllOps.cons (Does.plain rfl fun lq aq wq hk hr K hK => ?_) ?_
    · have B2 : ev aq (.tmp 2) = .pointer (some ⟨w.heap.size, 0, none⟩) := hk.base 2 (by kernel_rfl) rfl
      exact wp_of_value (by go_simp) (hK.out _ _ (Grows.refl _) (fun w2 h2 => rfl) (fun h => absurd h (by decide)))
    refine AllOps.cons (Does.plain rfl fun lq aq wq hk hr K hK => ?_) ?_
    · obtain ⟨v0, E0, -, r0⟩ := hk.dep hr 0 11 (by kernel_rfl) (by kernel_rfl)
      replace E0 : ev aq (.tmp 11) = .pointer (some ⟨w.heap.size, 1, none⟩) := E0.trans (r0 wq (Grows.refl wq))
      have hb : Below _ _ _ := hk.ext
      have c1 := (Box2.below D0.out hb).c1
      exact wp_of_value (by go_simp) (hK.out _ _ (Grows.refl _) (fun w2 h2 => rfl) (fun h => absurd h (by decide)))
    refine AllOps.cons (Does.plain rfl fun lq aq wq hk hr K hK => ?_) ?_
    · have B3 : ev aq (.tmp 3) = .pointer (some ⟨w.heap.size + 1, 0, none⟩) := hk.base 3 (by kernel_rfl) rfl
      exact wp_of_value (by go_simp) (hK.out _ _ (Grows.refl _) (fun w2 h2 => rfl) (fun h => absurd h (by decide)))
    refine AllOps.cons (Does.plain rfl fun lq aq wq hk hr K hK => ?_) ?_
    · obtain ⟨v2, E2, -, r2⟩ := hk.dep hr 2 13 (by kernel_rfl) (by kernel_rfl)
      replace E2 : ev aq (.tmp 13) = .pointer (some ⟨w.heap.size + 1, 1, none⟩) := E2.trans (r2 wq (Grows.refl wq))
      have hb : Below _ _ _ := hk.ext
      have c1 := (Box2.below D1.out hb).c1
      exact wp_of_value (by go_simp) (hK.out _ _ (Grows.refl _) (fun w2 h2 => rfl) (fun h => absurd h (by decide)))
    refine AllOps.cons (Does.plain rfl fun lq aq wq hk hr K hK => ?_) ?_
    · obtain ⟨v1, E1, -, r1⟩ := hk.dep hr 1 12 (by kernel_rfl) (by kernel_rfl)
      replace E1 : ev aq (.tmp 12) = .slice A0 k0 c0 := E1.trans (r1 wq (Grows.refl wq))
      obtain ⟨v3, E3, -, r3⟩ := hk.dep hr 3 14 (by kernel_rfl) (by kernel_rfl)
      replace E3 : ev aq (.tmp 14) = .slice A1 k1 c1 := E3.trans (r3 wq (Grows.refl wq))
      refine wp_of_call (f := 52) (vs := #[.slice A0 k0 c0, .slice A1 k1 c1]) (by go_simp) (rdivn_v wq (Q0.out.below hk.ext).lv (Q1.out.below hk.ext).lv hl0 hl1 hpos) ?_
      rintro e w1 ⟨u, rfl, hu, hb⟩
      exact ⟨u, rfl, hK.out _ _ hb (fun w2 h2 => (let ⟨u0, u1, e0, h0, h1⟩ := hu; ⟨u0, u1, e0, (h0).grow h2, (h1).grow h2⟩)) (fun h => absurd h (by decide))⟩
    refine AllOps.cons (Does.plain rfl fun lq aq wq hk hr K hK => ?_) ?_
    · obtain ⟨v4, E4, -, r4⟩ := hk.dep hr 4 15 (by kernel_rfl) (by kernel_rfl)
      have r4 : ∃ u0 u1, v4 = .tuple #[u0, u1, .int .i64 0] ∧ LV wq u0 ((limbs (a0 / a1))) ((a0 / a1)) ∧ LV wq u1 ((limbs (a0 % a1))) ((a0 % a1)) := r4 wq (Grows.refl wq)
      exact wp_of_value (by go_simp) (hK.out _ _ (Grows.refl _) (fun w2 h2 => (let ⟨u0, u1, e0, h0, h1⟩ := r4; ⟨u0, u1, e0, (h0).grow h2, (h1).grow h2⟩)) (fun h => absurd h (by decide)))
    refine AllOps.cons (Does.plain rfl fun lq aq wq hk hr K hK => ?_) ?_
    · obtain ⟨v5, E5, -, r5⟩ := hk.dep hr 5 10 (by kernel_rfl) (by kernel_rfl)
      have r5 : ∃ u0 u1, v5 = .tuple #[u0, u1, .int .i64 0] ∧ LV wq u0 ((limbs (a0 / a1))) ((a0 / a1)) ∧ LV wq u1 ((limbs (a0 % a1))) ((a0 % a1)) := r5 wq (Grows.refl wq)
      obtain ⟨u0, u1, rfl, h0, h1⟩ := r5
      exact wp_of_value (by go_simp) (hK.out _ _ (Grows.refl _) (fun w2 h2 => (h0).grow h2) (fun h => absurd h (by decide)))
    refine AllOps.cons (Does.plain rfl fun lq aq wq hk hr K hK => ?_) ?_
    · obtain ⟨v5, E5, -, r5⟩ := hk.dep hr 5 10 (by kernel_rfl) (by kernel_rfl)
      have r5 : ∃ u0 u1, v5 = .tuple #[u0, u1, .int .i64 0] ∧ LV wq u0 ((limbs (a0 / a1))) ((a0 / a1)) ∧ LV wq u1 ((limbs (a0 % a1))) ((a0 % a1)) := r5 wq (Grows.refl wq)
      obtain ⟨u0, u1, rfl, h0, h1⟩ := r5
      exact wp_of_value (by go_simp) (hK.out _ _ (Grows.refl _) (fun w2 h2 => (h1).grow h2) (fun h => absurd h (by decide)))
    refine AllOps.cons (Does.plain rfl fun lq aq wq hk hr K hK => ?_) ?_
    · obtain ⟨v5, E5, -, r5⟩ := hk.dep hr 5 10 (by kernel_rfl) (by kernel_rfl)
      have r5 : ∃ u0 u1, v5 = .tuple #[u0, u1, .int .i64 0] ∧ LV wq u0 ((limbs (a0 / a1))) ((a0 / a1)) ∧ LV wq u1 ((limbs (a0 % a1))) ((a0 % a1)) := r5 wq (Grows.refl wq)
      obtain ⟨u0, u1, rfl, h0, h1⟩ := r5
      exact wp_of_value (by go_simp) (hK.out _ _ (Grows.refl _) (fun w2 h2 => rfl) (fun h => absurd h (by decide)))
    exact AllOps.nil
  case fin =>
    intro V x1 hG hV hap
    have r6 : LV x1 (V 6) ((limbs (a0 / a1))) ((a0 / a1)) := hV 6 (by decide)
    have r7 : LV x1 (V 7) ((limbs (a0 % a1))) ((a0 % a1)) := hV 7 (by decide)
    have r8 : (V 8) = .int .i64 0 := hV 8 (by decide)
    clear hV hap
    simp only [List.take_succ_cons, List.take_zero, List.drop_succ_cons, List.drop_zero, putAll, Act.put, List.setIfInBounds_toArray, List.set_cons_zero, List.set_cons_succ]
    have hb := (show Below _ _ _ from hG)
    replace D0 := Lib.hid (Box2.below D0.out hb)
    replace S0 := Lib.hid (S0.out.below hb)
    replace D1 := Lib.hid (Box2.below D1.out hb)
    replace S1 := Lib.hid (S1.out.below hb)
    replace DR := Lib.hid (Box2.below DR.out hb)
    replace Q0 := Lib.hid (Q0.out.below hb)
    replace Q1 := Lib.hid (Q1.out.below hb)
    replace HB := Lib.hid (HB.out.trans (Below.mono hb HB.out.size))
    clear hb hG
    rw [r8]
    clear r8
    obtain ⟨A6, c6, e6, q6⟩ := r6
    simp only [e6]
    rw [e6] at q6
    have Q6 := Lib.hid q6
    clear e6 q6
    obtain ⟨A7, c7, e7, q7⟩ := r7
    simp only [e7]
    rw [e7] at q7
    have Q7 := Lib.hid q7
    clear e7 q7
    go_upto_region 2 with fail
    refine wp_region_calm 2 [] ([fun vq _ => vq = .int .i64 0,
        fun vq _ => vq = .bool false]) (by kernel_rfl) (by decide) ?hF ?steps ?fin
    case hF =>
      intro j hj; cases hj
    case steps =>
      refine AllOps.cons (Does.plain rfl fun lq aq wq hk hr K hK => ?_) ?_
      · have B8 : ev aq (.tmp 8) = .int .i64 0 := hk.base 8 (by kernel_rfl) rfl
        exact wp_of_value (by go_simp) (hK.out _ _ (Grows.refl _) (fun w2 h2 => rfl) (fun h => absurd h (by decide)))
      refine AllOps.cons (Does.plain rfl fun lq aq wq hk hr K hK => ?_) ?_
      · obtain ⟨v0, E0, -, r0⟩ := hk.dep hr 0 19 (by kernel_rfl) (by kernel_rfl)
        replace E0 : ev aq (.tmp 19) = .int .i64 0 := E0.trans (r0 wq (Grows.refl wq))
        exact wp_of_value (by go_simp) (hK.out _ _ (Grows.refl _) (fun w2 h2 => rfl) (fun h => absurd h (by decide)))
      exact AllOps.nil
    case fin =>
      intro V x2 hG hV hap
      have r1 : (V 1) = .bool false := hV 1 (by decide)
      clear hV hap
      simp only [List.take_succ_cons, List.take_nil, List.drop_succ_cons, List.drop_nil, putAll, Act.put, List.setIfInBounds_toArray, List.set_cons_zero, List.set_cons_succ]
      have hb := (show Below _ _ _ from hG)
      replace D0 := Lib.hid (Box2.below D0.out hb)
      replace S0 := Lib.hid (S0.out.below hb)
      replace D1 := Lib.hid (Box2.below D1.out hb)
      replace S1 := Lib.hid (S1.out.below hb)
      replace DR := Lib.hid (Box2.below DR.out hb)
      replace Q0 := Lib.hid (Q0.out.below hb)
      replace Q1 := Lib.hid (Q1.out.below hb)
      replace Q6 := Lib.hid (Q6.out.below hb)
      replace Q7 := Lib.hid (Q7.out.below hb)
      replace HB := Lib.hid (HB.out.trans (Below.mono hb HB.out.size))
      clear hb hG
      rw [r1]
      clear r1
      go_upto_region 4 with fail
      have lwo := DR.out.lt
      refine wp_region_going 10 [9] ([fun vq wq => WV wq vq x,
          fun vq wq => ZV wq vq x,
          fun vq _ => vq = .bool p,
          fun vq wq => WV wq vq y,
          fun vq wq => ZV wq vq y,
          fun vq _ => vq = .bool q,
          fun vq _ => vq = .bool (p != q),
          fun vq _ => vq = .slice A6 (limbs (a0 / a1)).length c6,
          fun vq wq => ZV wq vq ((sg (p != q) (a0 / a1))),
          fun vq wq => ∃ bq, vq = .pointer (some ⟨bq, 0, none⟩) ∧ Box2 wq bq 24 (.bool false) (.slice none 0 0) ∧ (x2).heap.size ≤ bq]) (by kernel_rfl) (by kernel_rfl) (by decide) (by kernel_rfl) (by kernel_rfl) ?hF ?steps ?fin
      case hF =>
        intro j hj v w h
        simp only [List.mem_cons, List.not_mem_nil, or_false] at hj
        subst hj
        all_goals (obtain ⟨b, rfl, hB, _⟩ := h; exact hB.lt)
      case steps =>
        refine AllOps.cons (Does.plain rfl fun lq aq wq hk hr K hK => ?_) ?_
        · have B2 : ev aq (.tmp 2) = .pointer (some ⟨w.heap.size, 0, none⟩) := hk.base 2 (by kernel_rfl) rfl
          have hb := grows_of hk.ext
          exact wp_of_value (op_load 2 _ B2 (Box2.below D0.out hb)) (hK.out _ _ (Grows.refl _) (fun w2 h2 => ⟨_, _, _, _, rfl, (S0.out.below hb).below h2⟩) (fun h => absurd h (by decide)))
        refine AllOps.cons (Does.plain rfl fun lq aq wq hk hr K hK => ?_) ?_
        · obtain ⟨v0, E0, -, r0⟩ := hk.dep hr 0 22 (by kernel_rfl) (by kernel_rfl)
          have r0 : WV wq v0 x := r0 wq (Grows.refl wq)
          refine wp_of_call (f := 46) (vs := #[v0]) (by go_simp) (rmade_v wq r0) ?_
          rintro e w1 ⟨u, rfl, hu, hb⟩
          exact ⟨u, rfl, hK.out _ _ hb (fun w2 h2 => (hu).grow h2) (fun h => absurd h (by decide))⟩
        refine AllOps.cons (Does.plain rfl fun lq aq wq hk hr K hK => ?_) ?_
        · obtain ⟨v1, E1, -, r1⟩ := hk.dep hr 1 23 (by kernel_rfl) (by kernel_rfl)
          have r1 : ZV wq v1 x := r1 wq (Grows.refl wq)
          obtain ⟨n1, A1, k1, c1, rfl, s1⟩ := r1
          have sk := s1.sign
          rw [hp] at sk
          subst sk
          exact wp_of_value (by have hfd := field0; go_simp) (hK.out _ _ (Grows.refl _) (fun w2 h2 => rfl) (fun h => absurd h (by decide)))
        refine AllOps.cons (Does.plain rfl fun lq aq wq hk hr K hK => ?_) ?_
        · have B3 : ev aq (.tmp 3) = .pointer (some ⟨w.heap.size + 1, 0, none⟩) := hk.base 3 (by kernel_rfl) rfl
          have hb := grows_of hk.ext
          exact wp_of_value (op_load 3 _ B3 (Box2.below D1.out hb)) (hK.out _ _ (Grows.refl _) (fun w2 h2 => ⟨_, _, _, _, rfl, (S1.out.below hb).below h2⟩) (fun h => absurd h (by decide)))
        refine AllOps.cons (Does.plain rfl fun lq aq wq hk hr K hK => ?_) ?_
        · obtain ⟨v3, E3, -, r3⟩ := hk.dep hr 3 25 (by kernel_rfl) (by kernel_rfl)
          have r3 : WV wq v3 y := r3 wq (Grows.refl wq)
          refine wp_of_call (f := 46) (vs := #[v3]) (by go_simp) (rmade_v wq r3) ?_
          rintro e w1 ⟨u, rfl, hu, hb⟩
          exact ⟨u, rfl, hK.out _ _ hb (fun w2 h2 => (hu).grow h2) (fun h => absurd h (by decide))⟩
        refine AllOps.cons (Does.plain rfl fun lq aq wq hk hr K hK => ?_) ?_
        · obtain ⟨v4, E4, -, r4⟩ := hk.dep hr 4 26 (by kernel_rfl) (by kernel_rfl)
          have r4 : ZV wq v4 y := r4 wq (Grows.refl wq)
          obtain ⟨n4, A4, k4, c4, rfl, s4⟩ := r4
          have sk := s4.sign
          rw [hq] at sk
          subst sk
          exact wp_of_value (by have hfd := field0; go_simp) (hK.out _ _ (Grows.refl _) (fun w2 h2 => rfl) (fun h => absurd h (by decide)))
        refine AllOps.cons (Does.plain rfl fun lq aq wq hk hr K hK => ?_) ?_
        · obtain ⟨v2, E2, -, r2⟩ := hk.dep hr 2 24 (by kernel_rfl) (by kernel_rfl)
          replace E2 : ev aq (.tmp 24) = .bool p := E2.trans (r2 wq (Grows.refl wq))
          obtain ⟨v5, E5, -, r5⟩ := hk.dep hr 5 27 (by kernel_rfl) (by kernel_rfl)
          replace E5 : ev aq (.tmp 27) = .bool q := E5.trans (r5 wq (Grows.refl wq))
          exact wp_of_value (by go_simp; cases p <;> cases q <;> rfl) (hK.out _ _ (Grows.refl _) (fun w2 h2 => rfl) (fun h => absurd h (by decide)))
        refine AllOps.cons (Does.plain rfl fun lq aq wq hk hr K hK => ?_) ?_
        · have B6 : ev aq (.tmp 6) = .slice A6 (limbs (a0 / a1)).length c6 := hk.base 6 (by kernel_rfl) rfl
          exact wp_of_value (by go_simp) (hK.out _ _ (Grows.refl _) (fun w2 h2 => rfl) (fun h => absurd h (by decide)))
        refine AllOps.cons (Does.plain rfl fun lq aq wq hk hr K hK => ?_) ?_
        · obtain ⟨v6, E6, -, r6⟩ := hk.dep hr 6 28 (by kernel_rfl) (by kernel_rfl)
          replace E6 : ev aq (.tmp 28) = .bool (p != q) := E6.trans (r6 wq (Grows.refl wq))
          obtain ⟨v7, E7, -, r7⟩ := hk.dep hr 7 29 (by kernel_rfl) (by kernel_rfl)
          replace E7 : ev aq (.tmp 29) = .slice A6 (limbs (a0 / a1)).length c6 := E7.trans (r7 wq (Grows.refl wq))
          refine wp_of_call (f := 49) (vs := #[.bool (p != q), .slice A6 (limbs (a0 / a1)).length c6]) (by go_simp) (rof_v wq ((p != q)) (Q6.out.below (grows_of hk.ext)).lv h6 rfl hso) ?_
          rintro e w1 ⟨u, rfl, hu, hb⟩
          exact ⟨u, rfl, hK.out _ _ hb (fun w2 h2 => (hu).grow h2) (fun h => absurd h (by decide))⟩
        refine AllOps.cons (Does.plain rfl fun lq aq wq hk hr K hK => ?_) ?_
        · exact wp_of_value (by go_simp) (hK.out _ _ ((Grows.refl _).alloc _) (fun w2 h2 => ⟨_, rfl, (Box2.new wq 24 _ _).below h2, (grows_of hk.ext).size⟩) (fun _ => Nat.le_refl _))
        exact AllOps.nil
      case fin =>
        intro V x3 hG hV hap
        have r8 : ZV x3 (V 8) ((sg (p != q) (a0 / a1))) := hV 8 (by decide)
        have r9 : ∃ bq, (V 9) = .pointer (some ⟨bq, 0, none⟩) ∧ Box2 x3 bq 24 (.bool false) (.slice none 0 0) ∧ (x2).heap.size ≤ bq := hV 9 (by decide)
        clear hV
        simp only [List.take_succ_cons, List.take_zero, List.drop_succ_cons, List.drop_zero, putAll, Act.put, List.setIfInBounds_toArray, List.set_cons_zero, List.set_cons_succ]
        have hb := grows_of hG
        obtain ⟨bo, eo, Do, go⟩ := r9
        obtain ⟨no, Ao, ko, co, eo', so⟩ := r8
        simp only [eo, eo']
        clear eo eo' hap
        refine wpList_of_skip rfl (op_store 9 30 _ rfl rfl Do) ?_
        have hB := put2_below (u := .bool no) (v := .slice Ao ko co) hb go
        replace so := so.put Do (.bool no) (.slice Ao ko co)
        replace Do := put2_own (u := .bool no) (v := .slice Ao ko co) Do
        clear hb
        generalize put2 x3 bo (.bool no) (.slice Ao ko co) = y4 at *
        replace D0 := Lib.hid (Box2.below D0.out hB)
        replace S0 := Lib.hid (S0.out.below hB)
        replace D1 := Lib.hid (Box2.below D1.out hB)
        replace S1 := Lib.hid (S1.out.below hB)
        replace DR := Lib.hid (Box2.below DR.out hB)
        replace Q0 := Lib.hid (Q0.out.below hB)
        replace Q1 := Lib.hid (Q1.out.below hB)
        replace Q6 := Lib.hid (Q6.out.below hB)
        replace Q7 := Lib.hid (Q7.out.below hB)
        replace HB := Lib.hid (HB.out.trans (Below.mono hB HB.out.size))
        have mo : w.heap.size + 1 + 1 + 1 ≤ bo := Nat.le_trans lwo go
        clear lwo
        replace Do := Lib.hid Do
        have So := Lib.hid so
        clear hG hB go so
        have hw : (p != q) = false ∨ ((p != q) = true ∧ (limbs (a0 % a1)).length = 0) ∨ ((p != q) = true ∧ ∃ k, (limbs (a0 % a1)).length = k + 1 ∧ k < 1000) := by
          cases ht : (p != q)
          · exact .inl rfl
          · rcases Nat.eq_zero_or_pos (a0 % a1) with h0 | h0
            · exact .inr (.inl ⟨rfl, by rw [h0, limbs_zero]; rfl⟩)
            · obtain ⟨k, hl1⟩ : ∃ k, (limbs (a0 % a1)).length = k + 1 := ⟨(limbs (a0 % a1)).length - 1, by rw [limbs_pos (by omega)]; simp⟩
              exact .inr (.inr ⟨rfl, k, hl1, by unfold sz at h7; omega⟩)
        rcases hw with ht | ⟨ht, hlen⟩ | ⟨ht, k, hlen, hk9⟩
        · skip
          go_upto_region 5 with fail
          refine wp_region_going 12 [] ([fun vq wq => WV wq vq x,
              fun vq wq => ZV wq vq x,
              fun vq _ => vq = .bool p,
              fun vq wq => WV wq vq y,
              fun vq wq => ZV wq vq y,
              fun vq _ => vq = .bool q,
              fun vq _ => vq = .bool false,
              fun vq _ => vq = .bool false,
              fun vq _ => vq = undef,
              fun vq _ => vq = undef,
              fun vq _ => vq = undef,
              fun vq _ => vq = .bool false]) (by kernel_rfl) (by kernel_rfl) (by decide) (by kernel_rfl) (by kernel_rfl) ?hF ?steps ?fin
          case hF =>
            intro j hj; cases hj
          case steps =>
            refine AllOps.cons (Does.plain rfl fun lq aq wq hk hr K hK => ?_) ?_
            · have B2 : ev aq (.tmp 2) = .pointer (some ⟨w.heap.size, 0, none⟩) := hk.base 2 (by kernel_rfl) rfl
              have hb := grows_of hk.ext
              exact wp_of_value (op_load 2 _ B2 (Box2.below D0.out hb)) (hK.out _ _ (Grows.refl _) (fun w2 h2 => ⟨_, _, _, _, rfl, (S0.out.below hb).below h2⟩) (fun h => absurd h (by decide)))
            refine AllOps.cons (Does.plain rfl fun lq aq wq hk hr K hK => ?_) ?_
            · obtain ⟨v0, E0, -, r0⟩ := hk.dep hr 0 31 (by kernel_rfl) (by kernel_rfl)
              have r0 : WV wq v0 x := r0 wq (Grows.refl wq)
              refine wp_of_call (f := 46) (vs := #[v0]) (by go_simp) (rmade_v wq r0) ?_
              rintro e w1 ⟨u, rfl, hu, hb⟩
              exact ⟨u, rfl, hK.out _ _ hb (fun w2 h2 => (hu).grow h2) (fun h => absurd h (by decide))⟩
            refine AllOps.cons (Does.plain rfl fun lq aq wq hk hr K hK => ?_) ?_
            · obtain ⟨v1, E1, -, r1⟩ := hk.dep hr 1 32 (by kernel_rfl) (by kernel_rfl)
              have r1 : ZV wq v1 x := r1 wq (Grows.refl wq)
              obtain ⟨n1, A1, k1, c1, rfl, s1⟩ := r1
              have sk := s1.sign
              rw [hp] at sk
              subst sk
              exact wp_of_value (by have hfd := field0; go_simp) (hK.out _ _ (Grows.refl _) (fun w2 h2 => rfl) (fun h => absurd h (by decide)))
            refine AllOps.cons (Does.plain rfl fun lq aq wq hk hr K hK => ?_) ?_
            · have B3 : ev aq (.tmp 3) = .pointer (some ⟨w.heap.size + 1, 0, none⟩) := hk.base 3 (by kernel_rfl) rfl
              have hb := grows_of hk.ext
              exact wp_of_value (op_load 3 _ B3 (Box2.below D1.out hb)) (hK.out _ _ (Grows.refl _) (fun w2 h2 => ⟨_, _, _, _, rfl, (S1.out.below hb).below h2⟩) (fun h => absurd h (by decide)))
            refine AllOps.cons (Does.plain rfl fun lq aq wq hk hr K hK => ?_) ?_
            · obtain ⟨v3, E3, -, r3⟩ := hk.dep hr 3 34 (by kernel_rfl) (by kernel_rfl)
              have r3 : WV wq v3 y := r3 wq (Grows.refl wq)
              refine wp_of_call (f := 46) (vs := #[v3]) (by go_simp) (rmade_v wq r3) ?_
              rintro e w1 ⟨u, rfl, hu, hb⟩
              exact ⟨u, rfl, hK.out _ _ hb (fun w2 h2 => (hu).grow h2) (fun h => absurd h (by decide))⟩
            refine AllOps.cons (Does.plain rfl fun lq aq wq hk hr K hK => ?_) ?_
            · obtain ⟨v4, E4, -, r4⟩ := hk.dep hr 4 35 (by kernel_rfl) (by kernel_rfl)
              have r4 : ZV wq v4 y := r4 wq (Grows.refl wq)
              obtain ⟨n4, A4, k4, c4, rfl, s4⟩ := r4
              have sk := s4.sign
              rw [hq] at sk
              subst sk
              exact wp_of_value (by have hfd := field0; go_simp) (hK.out _ _ (Grows.refl _) (fun w2 h2 => rfl) (fun h => absurd h (by decide)))
            refine AllOps.cons (Does.plain rfl fun lq aq wq hk hr K hK => ?_) ?_
            · obtain ⟨v2, E2, -, r2⟩ := hk.dep hr 2 33 (by kernel_rfl) (by kernel_rfl)
              replace E2 : ev aq (.tmp 33) = .bool p := E2.trans (r2 wq (Grows.refl wq))
              obtain ⟨v5, E5, -, r5⟩ := hk.dep hr 5 36 (by kernel_rfl) (by kernel_rfl)
              replace E5 : ev aq (.tmp 36) = .bool q := E5.trans (r5 wq (Grows.refl wq))
              exact wp_of_value (by go_simp; revert ht; cases p <;> cases q <;> simp) (hK.out _ _ (Grows.refl _) (fun w2 h2 => rfl) (fun h => absurd h (by decide)))
            refine AllOps.cons (Does.plain rfl fun lq aq wq hk hr K hK => ?_) ?_
            · obtain ⟨v6, E6, -, r6⟩ := hk.dep hr 6 37 (by kernel_rfl) (by kernel_rfl)
              replace E6 : ev aq (.tmp 37) = .bool false := E6.trans (r6 wq (Grows.refl wq))
              exact wp_of_value (by go_simp) (hK.out _ _ (Grows.refl _) (fun w2 h2 => rfl) (fun h => absurd h (by decide)))
            refine AllOps.cons (Does.bars (g := 7) (d := 38) (t := true) (u := false) rfl (by kernel_rfl) (by kernel_rfl) (fun vq wq h => h wq (Grows.refl wq)) (by decide) (fun _ _ _ => rfl) rfl) ?_
            refine AllOps.cons (Does.bars (g := 7) (d := 38) (t := true) (u := false) rfl (by kernel_rfl) (by kernel_rfl) (fun vq wq h => h wq (Grows.refl wq)) (by decide) (fun _ _ _ => rfl) rfl) ?_
            refine AllOps.cons (Does.bars (g := 7) (d := 38) (t := true) (u := false) rfl (by kernel_rfl) (by kernel_rfl) (fun vq wq h => h wq (Grows.refl wq)) (by decide) (fun _ _ _ => rfl) rfl) ?_
            refine AllOps.cons (Does.plain rfl fun lq aq wq hk hr K hK => ?_) ?_
            · obtain ⟨v7, E7, -, r7⟩ := hk.dep hr 7 38 (by kernel_rfl) (by kernel_rfl)
              replace E7 : ev aq (.tmp 38) = .bool false := E7.trans (r7 wq (Grows.refl wq))
              exact wp_of_value (by go_simp) (hK.out _ _ (Grows.refl _) (fun w2 h2 => rfl) (fun h => absurd h (by decide)))
            exact AllOps.nil
          case fin =>
            intro V x5 hG hV hap
            have r11 : (V 11) = .bool false := hV 11 (by decide)
            clear hV hap
            simp only [List.take_succ_cons, List.take_nil, List.drop_succ_cons, List.drop_nil, putAll, Act.put, List.setIfInBounds_toArray, List.set_cons_zero, List.set_cons_succ]
            have hb := grows_of hG
            replace D0 := Lib.hid (Box2.below D0.out hb)
            replace S0 := Lib.hid (S0.out.below hb)
            replace D1 := Lib.hid (Box2.below D1.out hb)
            replace S1 := Lib.hid (S1.out.below hb)
            replace Do := Lib.hid (Box2.below Do.out hb)
            replace So := Lib.hid (So.out.below hb)
            replace DR := Lib.hid (Box2.below DR.out hb)
            replace Q0 := Lib.hid (Q0.out.below hb)
            replace Q1 := Lib.hid (Q1.out.below hb)
            replace Q6 := Lib.hid (Q6.out.below hb)
            replace Q7 := Lib.hid (Q7.out.below hb)
            replace HB := Lib.hid (HB.out.trans (Below.mono hb HB.out.size))
            clear hb hG
            rw [r11]
            clear r11
            go_upto_region 7 with fail
            refine wp_region_calm 1 [] ([fun vq wq => ZV wq vq ((sg (p != q) (a0 / a1)))]) (by kernel_rfl) (by decide) ?hF ?steps ?fin
            case hF =>
              intro j hj; cases hj
            case steps =>
              refine AllOps.cons (Does.plain rfl fun lq aq wq hk hr K hK => ?_) ?_
              · have B9 : ev aq (.tmp 9) = .pointer (some ⟨bo, 0, none⟩) := hk.base 9 (by kernel_rfl) rfl
                have hb : Below _ _ _ := hk.ext
                exact wp_of_value (op_load 9 _ B9 (Box2.below Do.out hb)) (hK.out _ _ (Grows.refl _) (fun w2 h2 => ⟨_, _, _, _, rfl, (So.out.below hb).below h2⟩) (fun h => absurd h (by decide)))
              exact AllOps.nil
            case fin =>
              intro V x6 hG hV hap
              have r0 : ZV x6 (V 0) ((sg (p != q) (a0 / a1))) := hV 0 (by decide)
              clear hV hap
              simp only [List.take_succ_cons, List.take_zero, List.drop_succ_cons, List.drop_zero, putAll, Act.put, List.setIfInBounds_toArray, List.set_cons_zero, List.set_cons_succ]
              have hb := (show Below _ _ _ from hG)
              obtain ⟨nR, AR, kR, cR, eR, sR⟩ := r0
              simp only [eR]
              clear eR
              replace DR := Box2.below DR.out hb
              refine wpList_of_skip rfl (op_store 4 46 _ rfl rfl DR) ?_
              have sQ := sR.put DR (.bool nR) (.slice AR kR cR)
              have HQ := put2_below (u := .bool nR) (v := .slice AR kR cR) (HB.out.trans (Below.mono hb HB.out.size)) (show w.heap.size ≤ w.heap.size + 1 + 1 by omega)
              replace DR := put2_own (u := .bool nR) (v := .slice AR kR cR) DR
              clear hb hG sR HB
              generalize put2 x6 (w.heap.size + 1 + 1) (.bool nR) (.slice AR kR cR) = y9 at *
              have c0 := DR.c0
              have c1 := DR.c1
              clear DR
              go_wp2_with fail
              refine bodyPost_ret (v := .tuple #[.agg #[.bool nR, .slice AR kR cR], .int .i64 0]) (by simp [results, Tryd.results18, go_sem, c0, c1]) rfl ⟨_, rfl, ⟨_, rfl, ZV.to ⟨_, _, _, _, rfl, sQ⟩ (by rw [← hx, ← hy]; exact (fdiv_plain hpos (.inl (by simpa using ht))).1.symm)⟩, HQ⟩
        · skip
          rw [hlen]
          have q7 := Q7.out
          rw [hlen] at q7
          clear Q7
          go_upto_region 5 with fail
          refine wp_region_going 12 [] ([fun vq wq => WV wq vq x,
              fun vq wq => ZV wq vq x,
              fun vq _ => vq = .bool p,
              fun vq wq => WV wq vq y,
              fun vq wq => ZV wq vq y,
              fun vq _ => vq = .bool q,
              fun vq _ => vq = .bool true,
              fun vq _ => vq = .bool true,
              fun vq _ => vq = .slice A7 0 c7,
              fun vq _ => vq = .int .i64 0,
              fun vq _ => vq = .bool false,
              fun vq _ => vq = .bool false]) (by kernel_rfl) (by kernel_rfl) (by decide) (by kernel_rfl) (by kernel_rfl) ?hF ?steps ?fin
          case hF =>
            intro j hj; cases hj
          case steps =>
            refine AllOps.cons (Does.plain rfl fun lq aq wq hk hr K hK => ?_) ?_
            · have B2 : ev aq (.tmp 2) = .pointer (some ⟨w.heap.size, 0, none⟩) := hk.base 2 (by kernel_rfl) rfl
              have hb := grows_of hk.ext
              exact wp_of_value (op_load 2 _ B2 (Box2.below D0.out hb)) (hK.out _ _ (Grows.refl _) (fun w2 h2 => ⟨_, _, _, _, rfl, (S0.out.below hb).below h2⟩) (fun h => absurd h (by decide)))
            refine AllOps.cons (Does.plain rfl fun lq aq wq hk hr K hK => ?_) ?_
            · obtain ⟨v0, E0, -, r0⟩ := hk.dep hr 0 31 (by kernel_rfl) (by kernel_rfl)
              have r0 : WV wq v0 x := r0 wq (Grows.refl wq)
              refine wp_of_call (f := 46) (vs := #[v0]) (by go_simp) (rmade_v wq r0) ?_
              rintro e w1 ⟨u, rfl, hu, hb⟩
              exact ⟨u, rfl, hK.out _ _ hb (fun w2 h2 => (hu).grow h2) (fun h => absurd h (by decide))⟩
            refine AllOps.cons (Does.plain rfl fun lq aq wq hk hr K hK => ?_) ?_
            · obtain ⟨v1, E1, -, r1⟩ := hk.dep hr 1 32 (by kernel_rfl) (by kernel_rfl)
              have r1 : ZV wq v1 x := r1 wq (Grows.refl wq)
              obtain ⟨n1, A1, k1, c1, rfl, s1⟩ := r1
              have sk := s1.sign
              rw [hp] at sk
              subst sk
              exact wp_of_value (by have hfd := field0; go_simp) (hK.out _ _ (Grows.refl _) (fun w2 h2 => rfl) (fun h => absurd h (by decide)))
            refine AllOps.cons (Does.plain rfl fun lq aq wq hk hr K hK => ?_) ?_
            · have B3 : ev aq (.tmp 3) = .pointer (some ⟨w.heap.size + 1, 0, none⟩) := hk.base 3 (by kernel_rfl) rfl
              have hb := grows_of hk.ext
              exact wp_of_value (op_load 3 _ B3 (Box2.below D1.out hb)) (hK.out _ _ (Grows.refl _) (fun w2 h2 => ⟨_, _, _, _, rfl, (S1.out.below hb).below h2⟩) (fun h => absurd h (by decide)))
            refine AllOps.cons (Does.plain rfl fun lq aq wq hk hr K hK => ?_) ?_
            · obtain ⟨v3, E3, -, r3⟩ := hk.dep hr 3 34 (by kernel_rfl) (by kernel_rfl)
              have r3 : WV wq v3 y := r3 wq (Grows.refl wq)
              refine wp_of_call (f := 46) (vs := #[v3]) (by go_simp) (rmade_v wq r3) ?_
              rintro e w1 ⟨u, rfl, hu, hb⟩
              exact ⟨u, rfl, hK.out _ _ hb (fun w2 h2 => (hu).grow h2) (fun h => absurd h (by decide))⟩
            refine AllOps.cons (Does.plain rfl fun lq aq wq hk hr K hK => ?_) ?_
            · obtain ⟨v4, E4, -, r4⟩ := hk.dep hr 4 35 (by kernel_rfl) (by kernel_rfl)
              have r4 : ZV wq v4 y := r4 wq (Grows.refl wq)
              obtain ⟨n4, A4, k4, c4, rfl, s4⟩ := r4
              have sk := s4.sign
              rw [hq] at sk
              subst sk
              exact wp_of_value (by have hfd := field0; go_simp) (hK.out _ _ (Grows.refl _) (fun w2 h2 => rfl) (fun h => absurd h (by decide)))
            refine AllOps.cons (Does.plain rfl fun lq aq wq hk hr K hK => ?_) ?_
            · obtain ⟨v2, E2, -, r2⟩ := hk.dep hr 2 33 (by kernel_rfl) (by kernel_rfl)
              replace E2 : ev aq (.tmp 33) = .bool p := E2.trans (r2 wq (Grows.refl wq))
              obtain ⟨v5, E5, -, r5⟩ := hk.dep hr 5 36 (by kernel_rfl) (by kernel_rfl)
              replace E5 : ev aq (.tmp 36) = .bool q := E5.trans (r5 wq (Grows.refl wq))
              exact wp_of_value (by go_simp; revert ht; cases p <;> cases q <;> simp) (hK.out _ _ (Grows.refl _) (fun w2 h2 => rfl) (fun h => absurd h (by decide)))
            refine AllOps.cons (Does.plain rfl fun lq aq wq hk hr K hK => ?_) ?_
            · obtain ⟨v6, E6, -, r6⟩ := hk.dep hr 6 37 (by kernel_rfl) (by kernel_rfl)
              replace E6 : ev aq (.tmp 37) = .bool true := E6.trans (r6 wq (Grows.refl wq))
              exact wp_of_value (by go_simp) (hK.out _ _ (Grows.refl _) (fun w2 h2 => rfl) (fun h => absurd h (by decide)))
            refine AllOps.cons (Does.lets (g := 7) (d := 38) (t := true) rfl (by kernel_rfl) (by kernel_rfl) (fun vq wq h => h wq (Grows.refl wq)) fun lq aq wq hk hr K hK => ?_) ?_
            · have B7 : ev aq (.tmp 7) = .slice A7 0 c7 := hk.base 7 (by kernel_rfl) rfl
              exact wp_of_value (by go_simp) (hK.out _ _ (Grows.refl _) (fun w2 h2 => rfl) (fun h => absurd h (by decide)))
            refine AllOps.cons (Does.lets (g := 7) (d := 38) (t := true) rfl (by kernel_rfl) (by kernel_rfl) (fun vq wq h => h wq (Grows.refl wq)) fun lq aq wq hk hr K hK => ?_) ?_
            · obtain ⟨v8, E8, -, r8⟩ := hk.dep hr 8 39 (by kernel_rfl) (by kernel_rfl)
              replace E8 : ev aq (.tmp 39) = .slice A7 0 c7 := E8.trans (r8 wq (Grows.refl wq))
              exact wp_of_value (by go_simp) (hK.out _ _ (Grows.refl _) (fun w2 h2 => rfl) (fun h => absurd h (by decide)))
            refine AllOps.cons (Does.lets (g := 7) (d := 38) (t := true) rfl (by kernel_rfl) (by kernel_rfl) (fun vq wq h => h wq (Grows.refl wq)) fun lq aq wq hk hr K hK => ?_) ?_
            · obtain ⟨v9, E9, -, r9⟩ := hk.dep hr 9 40 (by kernel_rfl) (by kernel_rfl)
              replace E9 : ev aq (.tmp 40) = .int .i64 0 := E9.trans (r9 wq (Grows.refl wq))
              exact wp_of_value (by go_simp) (hK.out _ _ (Grows.refl _) (fun w2 h2 => rfl) (fun h => absurd h (by decide)))
            refine AllOps.cons (Does.plain rfl fun lq aq wq hk hr K hK => ?_) ?_
            · obtain ⟨v7, E7, -, r7⟩ := hk.dep hr 7 38 (by kernel_rfl) (by kernel_rfl)
              replace E7 : ev aq (.tmp 38) = .bool true := E7.trans (r7 wq (Grows.refl wq))
              obtain ⟨v10, E10, -, r10⟩ := hk.dep hr 10 41 (by kernel_rfl) (by kernel_rfl)
              replace E10 : ev aq (.tmp 41) = .bool false := E10.trans (r10 wq (Grows.refl wq))
              exact wp_of_value (by go_simp) (hK.out _ _ (Grows.refl _) (fun w2 h2 => rfl) (fun h => absurd h (by decide)))
            exact AllOps.nil
          case fin =>
            intro V x5 hG hV hap
            have r11 : (V 11) = .bool false := hV 11 (by decide)
            clear hV hap
            simp only [List.take_succ_cons, List.take_nil, List.drop_succ_cons, List.drop_nil, putAll, Act.put, List.setIfInBounds_toArray, List.set_cons_zero, List.set_cons_succ]
            have hb := grows_of hG
            replace D0 := Lib.hid (Box2.below D0.out hb)
            replace S0 := Lib.hid (S0.out.below hb)
            replace D1 := Lib.hid (Box2.below D1.out hb)
            replace S1 := Lib.hid (S1.out.below hb)
            replace Do := Lib.hid (Box2.below Do.out hb)
            replace So := Lib.hid (So.out.below hb)
            replace DR := Lib.hid (Box2.below DR.out hb)
            replace Q0 := Lib.hid (Q0.out.below hb)
            replace Q1 := Lib.hid (Q1.out.below hb)
            replace Q6 := Lib.hid (Q6.out.below hb)
            replace HB := Lib.hid (HB.out.trans (Below.mono hb HB.out.size))
            clear hb hG
            rw [r11]
            clear r11
            go_upto_region 7 with fail
            have hz0 : a0 % a1 = 0 := by
              rcases Nat.eq_zero_or_pos (a0 % a1) with h | h
              · exact h
              · rw [limbs_pos (by omega)] at hlen; simp at hlen
            refine wp_region_calm 1 [] ([fun vq wq => ZV wq vq ((sg (p != q) (a0 / a1)))]) (by kernel_rfl) (by decide) ?hF ?steps ?fin
            case hF =>
              intro j hj; cases hj
            case steps =>
              refine AllOps.cons (Does.plain rfl fun lq aq wq hk hr K hK => ?_) ?_
              · have B9 : ev aq (.tmp 9) = .pointer (some ⟨bo, 0, none⟩) := hk.base 9 (by kernel_rfl) rfl
                have hb : Below _ _ _ := hk.ext
                exact wp_of_value (op_load 9 _ B9 (Box2.below Do.out hb)) (hK.out _ _ (Grows.refl _) (fun w2 h2 => ⟨_, _, _, _, rfl, (So.out.below hb).below h2⟩) (fun h => absurd h (by decide)))
              exact AllOps.nil
            case fin =>
              intro V x6 hG hV hap
              have r0 : ZV x6 (V 0) ((sg (p != q) (a0 / a1))) := hV 0 (by decide)
              clear hV hap
              simp only [List.take_succ_cons, List.take_zero, List.drop_succ_cons, List.drop_zero, putAll, Act.put, List.setIfInBounds_toArray, List.set_cons_zero, List.set_cons_succ]
              have hb := (show Below _ _ _ from hG)
              obtain ⟨nR, AR, kR, cR, eR, sR⟩ := r0
              simp only [eR]
              clear eR
              replace DR := Box2.below DR.out hb
              refine wpList_of_skip rfl (op_store 4 46 _ rfl rfl DR) ?_
              have sQ := sR.put DR (.bool nR) (.slice AR kR cR)
              have HQ := put2_below (u := .bool nR) (v := .slice AR kR cR) (HB.out.trans (Below.mono hb HB.out.size)) (show w.heap.size ≤ w.heap.size + 1 + 1 by omega)
              replace DR := put2_own (u := .bool nR) (v := .slice AR kR cR) DR
              clear hb hG sR HB
              generalize put2 x6 (w.heap.size + 1 + 1) (.bool nR) (.slice AR kR cR) = y9 at *
              have c0 := DR.c0
              have c1 := DR.c1
              clear DR
              go_wp2_with fail
              refine bodyPost_ret (v := .tuple #[.agg #[.bool nR, .slice AR kR cR], .int .i64 0]) (by simp [results, Tryd.results18, go_sem, c0, c1]) rfl ⟨_, rfl, ⟨_, rfl, ZV.to ⟨_, _, _, _, rfl, sQ⟩ (by rw [← hx, ← hy]; exact (fdiv_plain hpos (.inr hz0)).1.symm)⟩, HQ⟩
        · skip
          have hz0 : 0 < a0 % a1 := by
            rcases Nat.eq_zero_or_pos (a0 % a1) with h | h
            · rw [h, limbs_zero] at hlen; simp at hlen
            · exact h
          have hdn : sg (p != q) (a0 / a1) - 1 = Int.fdiv x y := by
            rw [← hx, ← hy, (fdiv_down hpos (by simpa using ht) hz0).1, ht]
            simp [sg]
            omega
          have hsd : szz (sg (p != q) (a0 / a1) - 1) ≤ 1000 := by rw [hdn]; exact szz_fdiv y hk0
          rw [hlen]
          have q7 := Q7.out
          rw [hlen] at q7
          clear Q7
          go_upto_region 5 with fail
          refine wp_region_going 12 [] ([fun vq wq => WV wq vq x,
              fun vq wq => ZV wq vq x,
              fun vq _ => vq = .bool p,
              fun vq wq => WV wq vq y,
              fun vq wq => ZV wq vq y,
              fun vq _ => vq = .bool q,
              fun vq _ => vq = .bool true,
              fun vq _ => vq = .bool true,
              fun vq _ => vq = .slice A7 (k + 1) c7,
              fun vq _ => vq = .int .i64 (k + 1),
              fun vq _ => vq = .bool true,
              fun vq _ => vq = .bool true]) (by kernel_rfl) (by kernel_rfl) (by decide) (by kernel_rfl) (by kernel_rfl) ?hF ?steps ?fin
          case hF =>
            intro j hj; cases hj
          case steps =>
            refine AllOps.cons (Does.plain rfl fun lq aq wq hk hr K hK => ?_) ?_
            · have B2 : ev aq (.tmp 2) = .pointer (some ⟨w.heap.size, 0, none⟩) := hk.base 2 (by kernel_rfl) rfl
              have hb := grows_of hk.ext
              exact wp_of_value (op_load 2 _ B2 (Box2.below D0.out hb)) (hK.out _ _ (Grows.refl _) (fun w2 h2 => ⟨_, _, _, _, rfl, (S0.out.below hb).below h2⟩) (fun h => absurd h (by decide)))
            refine AllOps.cons (Does.plain rfl fun lq aq wq hk hr K hK => ?_) ?_
            · obtain ⟨v0, E0, -, r0⟩ := hk.dep hr 0 31 (by kernel_rfl) (by kernel_rfl)
              have r0 : WV wq v0 x := r0 wq (Grows.refl wq)
              refine wp_of_call (f := 46) (vs := #[v0]) (by go_simp) (rmade_v wq r0) ?_
              rintro e w1 ⟨u, rfl, hu, hb⟩
              exact ⟨u, rfl, hK.out _ _ hb (fun w2 h2 => (hu).grow h2) (fun h => absurd h (by decide))⟩
            refine AllOps.cons (Does.plain rfl fun lq aq wq hk hr K hK => ?_) ?_
            · obtain ⟨v1, E1, -, r1⟩ := hk.dep hr 1 32 (by kernel_rfl) (by kernel_rfl)
              have r1 : ZV wq v1 x := r1 wq (Grows.refl wq)
              obtain ⟨n1, A1, k1, c1, rfl, s1⟩ := r1
              have sk := s1.sign
              rw [hp] at sk
              subst sk
              exact wp_of_value (by have hfd := field0; go_simp) (hK.out _ _ (Grows.refl _) (fun w2 h2 => rfl) (fun h => absurd h (by decide)))
            refine AllOps.cons (Does.plain rfl fun lq aq wq hk hr K hK => ?_) ?_
            · have B3 : ev aq (.tmp 3) = .pointer (some ⟨w.heap.size + 1, 0, none⟩) := hk.base 3 (by kernel_rfl) rfl
              have hb := grows_of hk.ext
              exact wp_of_value (op_load 3 _ B3 (Box2.below D1.out hb)) (hK.out _ _ (Grows.refl _) (fun w2 h2 => ⟨_, _, _, _, rfl, (S1.out.below hb).below h2⟩) (fun h => absurd h (by decide)))
            refine AllOps.cons (Does.plain rfl fun lq aq wq hk hr K hK => ?_) ?_
            · obtain ⟨v3, E3, -, r3⟩ := hk.dep hr 3 34 (by kernel_rfl) (by kernel_rfl)
              have r3 : WV wq v3 y := r3 wq (Grows.refl wq)
              refine wp_of_call (f := 46) (vs := #[v3]) (by go_simp) (rmade_v wq r3) ?_
              rintro e w1 ⟨u, rfl, hu, hb⟩
              exact ⟨u, rfl, hK.out _ _ hb (fun w2 h2 => (hu).grow h2) (fun h => absurd h (by decide))⟩
            refine AllOps.cons (Does.plain rfl fun lq aq wq hk hr K hK => ?_) ?_
            · obtain ⟨v4, E4, -, r4⟩ := hk.dep hr 4 35 (by kernel_rfl) (by kernel_rfl)
              have r4 : ZV wq v4 y := r4 wq (Grows.refl wq)
              obtain ⟨n4, A4, k4, c4, rfl, s4⟩ := r4
              have sk := s4.sign
              rw [hq] at sk
              subst sk
              exact wp_of_value (by have hfd := field0; go_simp) (hK.out _ _ (Grows.refl _) (fun w2 h2 => rfl) (fun h => absurd h (by decide)))
            refine AllOps.cons (Does.plain rfl fun lq aq wq hk hr K hK => ?_) ?_
            · obtain ⟨v2, E2, -, r2⟩ := hk.dep hr 2 33 (by kernel_rfl) (by kernel_rfl)
              replace E2 : ev aq (.tmp 33) = .bool p := E2.trans (r2 wq (Grows.refl wq))
              obtain ⟨v5, E5, -, r5⟩ := hk.dep hr 5 36 (by kernel_rfl) (by kernel_rfl)
              replace E5 : ev aq (.tmp 36) = .bool q := E5.trans (r5 wq (Grows.refl wq))
              exact wp_of_value (by go_simp; revert ht; cases p <;> cases q <;> simp) (hK.out _ _ (Grows.refl _) (fun w2 h2 => rfl) (fun h => absurd h (by decide)))
            refine AllOps.cons (Does.plain rfl fun lq aq wq hk hr K hK => ?_) ?_
            · obtain ⟨v6, E6, -, r6⟩ := hk.dep hr 6 37 (by kernel_rfl) (by kernel_rfl)
              replace E6 : ev aq (.tmp 37) = .bool true := E6.trans (r6 wq (Grows.refl wq))
              exact wp_of_value (by go_simp) (hK.out _ _ (Grows.refl _) (fun w2 h2 => rfl) (fun h => absurd h (by decide)))
            refine AllOps.cons (Does.lets (g := 7) (d := 38) (t := true) rfl (by kernel_rfl) (by kernel_rfl) (fun vq wq h => h wq (Grows.refl wq)) fun lq aq wq hk hr K hK => ?_) ?_
            · have B7 : ev aq (.tmp 7) = .slice A7 (k + 1) c7 := hk.base 7 (by kernel_rfl) rfl
              exact wp_of_value (by go_simp) (hK.out _ _ (Grows.refl _) (fun w2 h2 => rfl) (fun h => absurd h (by decide)))
            refine AllOps.cons (Does.lets (g := 7) (d := 38) (t := true) rfl (by kernel_rfl) (by kernel_rfl) (fun vq wq h => h wq (Grows.refl wq)) fun lq aq wq hk hr K hK => ?_) ?_
            · obtain ⟨v8, E8, -, r8⟩ := hk.dep hr 8 39 (by kernel_rfl) (by kernel_rfl)
              replace E8 : ev aq (.tmp 39) = .slice A7 (k + 1) c7 := E8.trans (r8 wq (Grows.refl wq))
              exact wp_of_value (by go_simp) (hK.out _ _ (Grows.refl _) (fun w2 h2 => rfl) (fun h => absurd h (by decide)))
            refine AllOps.cons (Does.lets (g := 7) (d := 38) (t := true) rfl (by kernel_rfl) (by kernel_rfl) (fun vq wq h => h wq (Grows.refl wq)) fun lq aq wq hk hr K hK => ?_) ?_
            · obtain ⟨v9, E9, -, r9⟩ := hk.dep hr 9 40 (by kernel_rfl) (by kernel_rfl)
              replace E9 : ev aq (.tmp 40) = .int .i64 (k + 1) := E9.trans (r9 wq (Grows.refl wq))
              exact wp_of_value (by go_simp) (hK.out _ _ (Grows.refl _) (fun w2 h2 => rfl) (fun h => absurd h (by decide)))
            refine AllOps.cons (Does.plain rfl fun lq aq wq hk hr K hK => ?_) ?_
            · obtain ⟨v7, E7, -, r7⟩ := hk.dep hr 7 38 (by kernel_rfl) (by kernel_rfl)
              replace E7 : ev aq (.tmp 38) = .bool true := E7.trans (r7 wq (Grows.refl wq))
              obtain ⟨v10, E10, -, r10⟩ := hk.dep hr 10 41 (by kernel_rfl) (by kernel_rfl)
              replace E10 : ev aq (.tmp 41) = .bool true := E10.trans (r10 wq (Grows.refl wq))
              exact wp_of_value (by go_simp) (hK.out _ _ (Grows.refl _) (fun w2 h2 => rfl) (fun h => absurd h (by decide)))
            exact AllOps.nil
          case fin =>
            intro V x5 hG hV hap
            have r11 : (V 11) = .bool true := hV 11 (by decide)
            clear hV hap
            simp only [List.take_succ_cons, List.take_nil, List.drop_succ_cons, List.drop_nil, putAll, Act.put, List.setIfInBounds_toArray, List.set_cons_zero, List.set_cons_succ]
            have hb := grows_of hG
            replace D0 := Lib.hid (Box2.below D0.out hb)
            replace S0 := Lib.hid (S0.out.below hb)
            replace D1 := Lib.hid (Box2.below D1.out hb)
            replace S1 := Lib.hid (S1.out.below hb)
            replace Do := Lib.hid (Box2.below Do.out hb)
            replace So := Lib.hid (So.out.below hb)
            replace DR := Lib.hid (Box2.below DR.out hb)
            replace Q0 := Lib.hid (Q0.out.below hb)
            replace Q1 := Lib.hid (Q1.out.below hb)
            replace Q6 := Lib.hid (Q6.out.below hb)
            replace HB := Lib.hid (HB.out.trans (Below.mono hb HB.out.size))
            clear hb hG
            rw [r11]
            clear r11
            go_upto_region 6 with fail
            refine wp_region_going 3 [] ([fun vq wq => ZV wq vq ((sg (p != q) (a0 / a1))),
                fun vq wq => ZV wq vq 1,
                fun vq wq => ZV wq vq (((sg (p != q) (a0 / a1)) - 1))]) (by kernel_rfl) (by kernel_rfl) (by decide) (by kernel_rfl) (by kernel_rfl) ?hF ?steps ?fin
            case hF =>
              intro j hj; cases hj
            case steps =>
              refine AllOps.cons (Does.plain rfl fun lq aq wq hk hr K hK => ?_) ?_
              · have B9 : ev aq (.tmp 9) = .pointer (some ⟨bo, 0, none⟩) := hk.base 9 (by kernel_rfl) rfl
                have hb := grows_of hk.ext
                exact wp_of_value (op_load 9 _ B9 (Box2.below Do.out hb)) (hK.out _ _ (Grows.refl _) (fun w2 h2 => ⟨_, _, _, _, rfl, (So.out.below hb).below h2⟩) (fun h => absurd h (by decide)))
              refine AllOps.cons (Does.plain rfl fun lq aq wq hk hr K hK => ?_) ?_
              · refine wp_of_call (f := 14) (vs := #[.int .i64 1]) (by go_simp) (rfrom_v wq 1 (by decide) (by decide)) ?_
                rintro e w1 ⟨u, rfl, hu, hb⟩
                exact ⟨u, rfl, hK.out _ _ hb (fun w2 h2 => (hu).grow h2) (fun h => absurd h (by decide))⟩
              refine AllOps.cons (Does.plain rfl fun lq aq wq hk hr K hK => ?_) ?_
              · obtain ⟨v0, E0, -, r0⟩ := hk.dep hr 0 43 (by kernel_rfl) (by kernel_rfl)
                have r0 : ZV wq v0 ((sg (p != q) (a0 / a1))) := r0 wq (Grows.refl wq)
                obtain ⟨v1, E1, -, r1⟩ := hk.dep hr 1 44 (by kernel_rfl) (by kernel_rfl)
                have r1 : ZV wq v1 1 := r1 wq (Grows.refl wq)
                refine wp_of_call (f := 40) (vs := #[v0, v1]) (by go_simp) (rsub_v wq (r0).wv (r1).wv hsd) ?_
                rintro e w1 ⟨u, rfl, hu, hb⟩
                exact ⟨u, rfl, hK.out _ _ hb (fun w2 h2 => (hu).grow h2) (fun h => absurd h (by decide))⟩
              exact AllOps.nil
            case fin =>
              intro V x6 hG hV hap
              have r2 : ZV x6 (V 2) (((sg (p != q) (a0 / a1)) - 1)) := hV 2 (by decide)
              clear hV hap
              simp only [List.take_succ_cons, List.take_zero, List.drop_succ_cons, List.drop_zero, putAll, Act.put, List.setIfInBounds_toArray, List.set_cons_zero, List.set_cons_succ]
              have hb := grows_of hG
              obtain ⟨nm7, Am7, km7, cm7, em7, sm7⟩ := r2
              simp only [em7]
              clear em7
              replace Do := Box2.below Do.out hb
              refine wpList_of_skip rfl (op_store 9 45 _ rfl rfl Do) ?_
              replace D0 := Lib.hid (put2_far (u := .bool nm7) (v := .slice Am7 km7 cm7) (Box2.below D0.out hb) (show w.heap.size ≠ bo by omega))
              replace S0 := Lib.hid ((S0.out.below hb).put Do (.bool nm7) (.slice Am7 km7 cm7))
              replace D1 := Lib.hid (put2_far (u := .bool nm7) (v := .slice Am7 km7 cm7) (Box2.below D1.out hb) (show w.heap.size + 1 ≠ bo by omega))
              replace S1 := Lib.hid ((S1.out.below hb).put Do (.bool nm7) (.slice Am7 km7 cm7))
              replace DR := Lib.hid (put2_far (u := .bool nm7) (v := .slice Am7 km7 cm7) (Box2.below DR.out hb) (show w.heap.size + 1 + 1 ≠ bo by omega))
              replace Q0 := Lib.hid ((Q0.out.below hb).put Do (.bool nm7) (.slice Am7 km7 cm7))
              replace Q1 := Lib.hid ((Q1.out.below hb).put Do (.bool nm7) (.slice Am7 km7 cm7))
              replace Q6 := Lib.hid ((Q6.out.below hb).put Do (.bool nm7) (.slice Am7 km7 cm7))
              have So' := Lib.hid (sm7.put Do (.bool nm7) (.slice Am7 km7 cm7))
              replace HB := Lib.hid (put2_below (u := .bool nm7) (v := .slice Am7 km7 cm7) (HB.out.trans (Below.mono hb HB.out.size)) (show w.heap.size ≤ bo by omega))
              replace Do := Lib.hid (put2_own (u := .bool nm7) (v := .slice Am7 km7 cm7) Do)
              clear hb hG sm7 So
              have So := So'
              clear So'
              generalize put2 x6 bo (.bool nm7) (.slice Am7 km7 cm7) = y8 at *
              go_upto_region 7 with fail
              refine wp_region_calm 1 [] ([fun vq wq => ZV wq vq (((sg (p != q) (a0 / a1)) - 1))]) (by kernel_rfl) (by decide) ?hF ?steps ?fin
              case hF =>
                intro j hj; cases hj
              case steps =>
                refine AllOps.cons (Does.plain rfl fun lq aq wq hk hr K hK => ?_) ?_
                · have B9 : ev aq (.tmp 9) = .pointer (some ⟨bo, 0, none⟩) := hk.base 9 (by kernel_rfl) rfl
                  have hb : Below _ _ _ := hk.ext
                  exact wp_of_value (op_load 9 _ B9 (Box2.below Do.out hb)) (hK.out _ _ (Grows.refl _) (fun w2 h2 => ⟨_, _, _, _, rfl, (So.out.below hb).below h2⟩) (fun h => absurd h (by decide)))
                exact AllOps.nil
              case fin =>
                intro V x9 hG hV hap
                have r0 : ZV x9 (V 0) (((sg (p != q) (a0 / a1)) - 1)) := hV 0 (by decide)
                clear hV hap
                simp only [List.take_succ_cons, List.take_zero, List.drop_succ_cons, List.drop_zero, putAll, Act.put, List.setIfInBounds_toArray, List.set_cons_zero, List.set_cons_succ]
                have hb := (show Below _ _ _ from hG)
                obtain ⟨nR, AR, kR, cR, eR, sR⟩ := r0
                simp only [eR]
                clear eR
                replace DR := Box2.below DR.out hb
                refine wpList_of_skip rfl (op_store 4 46 _ rfl rfl DR) ?_
                have sQ := sR.put DR (.bool nR) (.slice AR kR cR)
                have HQ := put2_below (u := .bool nR) (v := .slice AR kR cR) (HB.out.trans (Below.mono hb HB.out.size)) (show w.heap.size ≤ w.heap.size + 1 + 1 by omega)
                replace DR := put2_own (u := .bool nR) (v := .slice AR kR cR) DR
                clear hb hG sR HB
                generalize put2 x9 (w.heap.size + 1 + 1) (.bool nR) (.slice AR kR cR) = y9 at *
                have c0 := DR.c0
                have c1 := DR.c1
                clear DR
                go_wp2_with fail
                refine bodyPost_ret (v := .tuple #[.agg #[.bool nR, .slice AR kR cR], .int .i64 0]) (by simp [results, Tryd.results18, go_sem, c0, c1]) rfl ⟨_, rfl, ⟨_, rfl, ZV.to ⟨_, _, _, _, rfl, sQ⟩ hdn⟩, HQ⟩
set_option maxHeartbeats 4000000 in
set_option maxRecDepth 100000 in
theorem rmod0_v (w : World) {u v : Value} {x y : Int} (h0 : WV w u x) (h1 : WV w v y) (hy0 : y = 0) : Calls Tryd.prog 19 #[u, v] w fun e w' => ∃ r, e = .returned r ∧ (∃ q, r = .tuple #[q, .int .i64 3] ∧ ZV w' q 0) ∧ Grows w w' := by
  obtain ⟨n0, A0, k0, c0, rfl, s0⟩ := h0
  have hk0 : szz x ≤ 1000 := s0.size
  obtain ⟨n1, A1, k1, c1, rfl, s1⟩ := h1
  have hk1 : szz y ≤ 1000 := s1.size
  obtain ⟨HB, D0, D1, DR⟩ := start3 w 24 (.bool n0) (.slice A0 k0 c0) (.bool n1) (.slice A1 k1 c1) (.bool false) (.slice none 0 0)
  replace HB := Lib.hid HB
  replace D0 := Lib.hid D0
  replace D1 := Lib.hid D1
  replace DR := Lib.hid DR
  have S0 := Lib.hid (s0.below HB.out)
  clear s0
  have S1 := Lib.hid (s1.below HB.out)
  clear s1
  go_enter Tryd.func19, Tryd.ntmps19
  go_upto_region 1 with fail
  generalize (((w.alloc (.cells #[.bool n0, .slice A0 k0 c0] 24)).alloc (.cells #[.bool n1, .slice A1 k1 c1] 24)).alloc (.cells #[.bool false, .slice none 0 0] 24)) = x0 at *
  have lwq := DR.out.lt
  refine wp_region_calm 7 [6] ([fun vq wq => WV wq vq x,
      fun vq wq => WV wq vq y,
      fun vq wq => ∃ u0, vq = .tuple #[u0, .int .i64 3] ∧ ZV wq u0 0,
      fun vq wq => ∃ u0, vq = .tuple #[u0, .int .i64 3] ∧ ZV wq u0 0,
      fun vq wq => ZV wq vq 0,
      fun vq _ => vq = .int .i64 3,
      fun vq wq => ∃ bq, vq = .pointer (some ⟨bq, 0, none⟩) ∧ Box2 wq bq 24 (.bool false) (.slice none 0 0) ∧ (x0).heap.size ≤ bq]) (by kernel_rfl) (by decide) ?hF ?steps ?fin
  case hF =>
    intro j hj v w h
    simp only [List.mem_cons, List.not_mem_nil, or_false] at hj
    subst hj
    all_goals (obtain ⟨b, rfl, hB, _⟩ := h; exact hB.lt)
  case steps =>
    refine AllOps.cons (Does.plain rfl fun lq aq wq hk hr K hK => ?_) ?_
    · have B2 : ev aq (.tmp 2) = .pointer (some ⟨w.heap.size, 0, none⟩) := hk.base 2 (by kernel_rfl) rfl
      have hb : Below _ _ _ := hk.ext
      exact wp_of_value (op_load 2 _ B2 (Box2.below D0.out hb)) (hK.out _ _ (Grows.refl _) (fun w2 h2 => ⟨_, _, _, _, rfl, (S0.out.below hb).below h2⟩) (fun h => absurd h (by decide)))
    refine AllOps.cons (Does.plain rfl fun lq aq wq hk hr K hK => ?_) ?_
    · have B3 : ev aq (.tmp 3) = .pointer (some ⟨w.heap.size + 1, 0, none⟩) := hk.base 3 (by kernel_rfl) rfl
      have hb : Below _ _ _ := hk.ext
      exact wp_of_value (op_load 3 _ B3 (Box2.below D1.out hb)) (hK.out _ _ (Grows.refl _) (fun w2 h2 => ⟨_, _, _, _, rfl, (S1.out.below hb).below h2⟩) (fun h => absurd h (by decide)))
    refine AllOps.cons (Does.plain rfl fun lq aq wq hk hr K hK => ?_) ?_
    · obtain ⟨v0, E0, -, r0⟩ := hk.dep hr 0 9 (by kernel_rfl) (by kernel_rfl)
      have r0 : WV wq v0 x := r0 wq (Grows.refl wq)
      obtain ⟨v1, E1, -, r1⟩ := hk.dep hr 1 10 (by kernel_rfl) (by kernel_rfl)
      have r1 : WV wq v1 y := r1 wq (Grows.refl wq)
      refine wp_of_call (f := 18) (vs := #[v0, v1]) (by go_simp) (rdiv0_v wq r0 r1 hy0) ?_
      rintro e w1 ⟨u, rfl, hu, hb⟩
      exact ⟨u, rfl, hK.out _ _ hb (fun w2 h2 => (let ⟨u0, e0, h0⟩ := hu; ⟨u0, e0, (h0).grow h2⟩)) (fun h => absurd h (by decide))⟩
    refine AllOps.cons (Does.plain rfl fun lq aq wq hk hr K hK => ?_) ?_
    · obtain ⟨v2, E2, -, r2⟩ := hk.dep hr 2 11 (by kernel_rfl) (by kernel_rfl)
      have r2 : ∃ u0, v2 = .tuple #[u0, .int .i64 3] ∧ ZV wq u0 0 := r2 wq (Grows.refl wq)
      exact wp_of_value (by go_simp) (hK.out _ _ (Grows.refl _) (fun w2 h2 => (let ⟨u0, e0, h0⟩ := r2; ⟨u0, e0, (h0).grow h2⟩)) (fun h => absurd h (by decide)))
    refine AllOps.cons (Does.plain rfl fun lq aq wq hk hr K hK => ?_) ?_
    · obtain ⟨v3, E3, -, r3⟩ := hk.dep hr 3 8 (by kernel_rfl) (by kernel_rfl)
      have r3 : ∃ u0, v3 = .tuple #[u0, .int .i64 3] ∧ ZV wq u0 0 := r3 wq (Grows.refl wq)
      obtain ⟨u0, rfl, h0⟩ := r3
      exact wp_of_value (by go_simp) (hK.out _ _ (Grows.refl _) (fun w2 h2 => (h0).grow h2) (fun h => absurd h (by decide)))
    refine AllOps.cons (Does.plain rfl fun lq aq wq hk hr K hK => ?_) ?_
    · obtain ⟨v3, E3, -, r3⟩ := hk.dep hr 3 8 (by kernel_rfl) (by kernel_rfl)
      have r3 : ∃ u0, v3 = .tuple #[u0, .int .i64 3] ∧ ZV wq u0 0 := r3 wq (Grows.refl wq)
      obtain ⟨u0, rfl, h0⟩ := r3
      exact wp_of_value (by go_simp) (hK.out _ _ (Grows.refl _) (fun w2 h2 => rfl) (fun h => absurd h (by decide)))
    refine AllOps.cons (Does.plain rfl fun lq aq wq hk hr K hK => ?_) ?_
    · exact wp_of_value (by go_simp) (hK.out _ _ ((Grows.refl _).alloc _) (fun w2 h2 => ⟨_, rfl, (Box2.new wq 24 _ _).below h2, hk.ext.size⟩) (fun _ => Nat.le_refl _))
    exact AllOps.nil
  case fin =>
    intro V x1 hG hV hap
    have r4 : ZV x1 (V 4) 0 := hV 4 (by decide)
    have r5 : (V 5) = .int .i64 3 := hV 5 (by decide)
    have r6 : ∃ bq, (V 6) = .pointer (some ⟨bq, 0, none⟩) ∧ Box2 x1 bq 24 (.bool false) (.slice none 0 0) ∧ (x0).heap.size ≤ bq := hV 6 (by decide)
    clear hV
    simp only [List.take_succ_cons, List.take_zero, List.drop_succ_cons, List.drop_zero, putAll, Act.put, List.setIfInBounds_toArray, List.set_cons_zero, List.set_cons_succ]
    have hb := (show Below _ _ _ from hG)
    obtain ⟨bq, eq, Dq, gq⟩ := r6
    obtain ⟨nq, Aq, kq, cq, eq', sq⟩ := r4
    simp only [eq, eq', r5]
    clear eq eq' hap r5
    refine wpList_of_skip rfl (op_store 6 12 _ rfl rfl Dq) ?_
    have hB := put2_below (u := .bool nq) (v := .slice Aq kq cq) hb gq
    replace sq := sq.put Dq (.bool nq) (.slice Aq kq cq)
    replace Dq := put2_own (u := .bool nq) (v := .slice Aq kq cq) Dq
    clear hb
    generalize put2 x1 bq (.bool nq) (.slice Aq kq cq) = y2 at *
    replace D0 := Lib.hid (Box2.below D0.out hB)
    replace S0 := Lib.hid (S0.out.below hB)
    replace D1 := Lib.hid (Box2.below D1.out hB)
    replace S1 := Lib.hid (S1.out.below hB)
    replace DR := Lib.hid (Box2.below DR.out hB)
    replace HB := Lib.hid (HB.out.trans (Below.mono hB HB.out.size))
    have mq : w.heap.size + 1 + 1 + 1 ≤ bq := Nat.le_trans lwq gq
    clear lwq
    replace Dq := Lib.hid Dq
    have Sq := Lib.hid sq
    clear hG hB gq sq
    go_upto_region 2 with fail
    refine wp_region_calm 2 [] ([fun vq _ => vq = .int .i64 3,
        fun vq _ => vq = .bool true]) (by kernel_rfl) (by decide) ?hF ?steps ?fin
    case hF =>
      intro j hj; cases hj
    case steps =>
      refine AllOps.cons (Does.plain rfl fun lq aq wq hk hr K hK => ?_) ?_
      · have B7 : ev aq (.tmp 7) = .int .i64 3 := hk.base 7 (by kernel_rfl) rfl
        exact wp_of_value (by go_simp) (hK.out _ _ (Grows.refl _) (fun w2 h2 => rfl) (fun h => absurd h (by decide)))
      refine AllOps.cons (Does.plain rfl fun lq aq wq hk hr K hK => ?_) ?_
      · obtain ⟨v0, E0, -, r0⟩ := hk.dep hr 0 14 (by kernel_rfl) (by kernel_rfl)
        replace E0 : ev aq (.tmp 14) = .int .i64 3 := E0.trans (r0 wq (Grows.refl wq))
        exact wp_of_value (by go_simp) (hK.out _ _ (Grows.refl _) (fun w2 h2 => rfl) (fun h => absurd h (by decide)))
      exact AllOps.nil
    case fin =>
      intro V x3 hG hV hap
      have r1 : (V 1) = .bool true := hV 1 (by decide)
      clear hV hap
      simp only [List.take_succ_cons, List.take_nil, List.drop_succ_cons, List.drop_nil, putAll, Act.put, List.setIfInBounds_toArray, List.set_cons_zero, List.set_cons_succ]
      have hb := (show Below _ _ _ from hG)
      replace D0 := Lib.hid (Box2.below D0.out hb)
      replace S0 := Lib.hid (S0.out.below hb)
      replace D1 := Lib.hid (Box2.below D1.out hb)
      replace S1 := Lib.hid (S1.out.below hb)
      replace Dq := Lib.hid (Box2.below Dq.out hb)
      replace Sq := Lib.hid (Sq.out.below hb)
      replace DR := Lib.hid (Box2.below DR.out hb)
      replace HB := Lib.hid (HB.out.trans (Below.mono hb HB.out.size))
      clear hb hG
      rw [r1]
      clear r1
      go_upto_region 3 with fail
      refine wp_region_calm 2 [] ([fun vq wq => ZV wq vq 0,
          fun vq _ => vq = .int .i64 3]) (by kernel_rfl) (by decide) ?hF ?steps ?fin
      case hF =>
        intro j hj; cases hj
      case steps =>
        refine AllOps.cons (Does.plain rfl fun lq aq wq hk hr K hK => ?_) ?_
        · exact wp_of_value (by go_simp) (hK.out _ _ (Grows.refl _) (fun w2 h2 => (ZV.zero _ 0).grow h2) (fun h => absurd h (by decide)))
        refine AllOps.cons (Does.plain rfl fun lq aq wq hk hr K hK => ?_) ?_
        · have B7 : ev aq (.tmp 7) = .int .i64 3 := hk.base 7 (by kernel_rfl) rfl
          exact wp_of_value (by go_simp) (hK.out _ _ (Grows.refl _) (fun w2 h2 => rfl) (fun h => absurd h (by decide)))
        exact AllOps.nil
      case fin =>
        intro V x4 hG hV hap
        have r0 : ZV x4 (V 0) 0 := hV 0 (by decide)
        have r1 : (V 1) = .int .i64 3 := hV 1 (by decide)
        clear hV hap
        simp only [List.take_succ_cons, List.take_zero, List.drop_succ_cons, List.drop_zero, putAll, Act.put, List.setIfInBounds_toArray, List.set_cons_zero, List.set_cons_succ]
        have hb := (show Below _ _ _ from hG)
        obtain ⟨nR, AR, kR, cR, eR, sR⟩ := r0
        simp only [eR, r1]
        clear eR r1
        replace DR := Box2.below DR.out hb
        refine wpList_of_skip rfl (op_store 4 16 _ rfl rfl DR) ?_
        have sQ := sR.put DR (.bool nR) (.slice AR kR cR)
        have HQ := put2_below (u := .bool nR) (v := .slice AR kR cR) (HB.out.trans (Below.mono hb HB.out.size)) (show w.heap.size ≤ w.heap.size + 1 + 1 by omega)
        replace DR := put2_own (u := .bool nR) (v := .slice AR kR cR) DR
        clear hb hG sR HB
        generalize put2 x4 (w.heap.size + 1 + 1) (.bool nR) (.slice AR kR cR) = y9 at *
        have c0 := DR.c0
        have c1 := DR.c1
        clear DR
        go_wp2_with fail
        refine bodyPost_ret (v := .tuple #[.agg #[.bool nR, .slice AR kR cR], .int .i64 3]) (by simp [results, Tryd.results19, go_sem, c0, c1]) rfl ⟨_, rfl, ⟨_, rfl, ⟨_, _, _, _, rfl, sQ⟩⟩, HQ⟩
set_option maxHeartbeats 16000000 in
set_option maxRecDepth 100000 in
theorem rmod_v (w : World) {u v : Value} {x y : Int} (h0 : WV w u x) (h1 : WV w v y) (hkx : szz x ≤ 900) (hky : szz y ≤ 900) (hy0 : y ≠ 0) : Calls Tryd.prog 19 #[u, v] w fun e w' => ∃ r, e = .returned r ∧ (∃ q, r = .tuple #[q, .int .i64 0] ∧ ZV w' q (Int.fmod x y)) ∧ Grows w w' := by
  obtain ⟨n0, A0, k0, c0, rfl, s0⟩ := h0
  have hk0 : szz x ≤ 1000 := s0.size
  obtain ⟨n1, A1, k1, c1, rfl, s1⟩ := h1
  have hk1 : szz y ≤ 1000 := s1.size
  obtain ⟨HB, D0, D1, DR⟩ := start3 w 24 (.bool n0) (.slice A0 k0 c0) (.bool n1) (.slice A1 k1 c1) (.bool false) (.slice none 0 0)
  replace HB := Lib.hid HB
  replace D0 := Lib.hid D0
  replace D1 := Lib.hid D1
  replace DR := Lib.hid DR
  have S0 := Lib.hid (s0.below HB.out)
  clear s0
  have S1 := Lib.hid (s1.below HB.out)
  clear s1
  go_enter Tryd.func19, Tryd.ntmps19
  go_upto_region 1 with fail
  generalize (((w.alloc (.cells #[.bool n0, .slice A0 k0 c0] 24)).alloc (.cells #[.bool n1, .slice A1 k1 c1] 24)).alloc (.cells #[.bool false, .slice none 0 0] 24)) = x0 at *
  have hkd : szz (Int.fdiv x y) ≤ 1000 := szz_fdiv y hk0
  have hsm : szz (y * Int.fdiv x y) ≤ 1000 := by have hm0 := Int.fmod_def x y; rw [show y * Int.fdiv x y = x - Int.fmod x y by omega]; exact Nat.le_trans (szz_sub (i := 998) (j := 998) (Nat.le_trans hkx (by decide)) (Nat.le_trans (szz_fmod x hy0 hky) (by decide))) (by decide)
  have hsr : szz (x - y * Int.fdiv x y) ≤ 1000 := by rw [← Int.fmod_def]; exact szz_fmod x hy0 hk1
  have lwq := DR.out.lt
  refine wp_region_calm 7 [6] ([fun vq wq => WV wq vq x,
      fun vq wq => WV wq vq y,
      fun vq wq => ∃ u0, vq = .tuple #[u0, .int .i64 0] ∧ ZV wq u0 ((Int.fdiv x y)),
      fun vq wq => ∃ u0, vq = .tuple #[u0, .int .i64 0] ∧ ZV wq u0 ((Int.fdiv x y)),
      fun vq wq => ZV wq vq ((Int.fdiv x y)),
      fun vq _ => vq = .int .i64 0,
      fun vq wq => ∃ bq, vq = .pointer (some ⟨bq, 0, none⟩) ∧ Box2 wq bq 24 (.bool false) (.slice none 0 0) ∧ (x0).heap.size ≤ bq]) (by kernel_rfl) (by decide) ?hF ?steps ?fin
  case hF =>
    intro j hj v w h
    simp only [List.mem_cons, List.not_mem_nil, or_false] at hj
    subst hj
    all_goals (obtain ⟨b, rfl, hB, _⟩ := h; exact hB.lt)
  case steps =>
    refine AllOps.cons (Does.plain rfl fun lq aq wq hk hr K hK => ?_) ?_
    · have B2 : ev aq (.tmp 2) = .pointer (some ⟨w.heap.size, 0, none⟩) := hk.base 2 (by kernel_rfl) rfl
      have hb : Below _ _ _ := hk.ext
      exact wp_of_value (op_load 2 _ B2 (Box2.below D0.out hb)) (hK.out _ _ (Grows.refl _) (fun w2 h2 => ⟨_, _, _, _, rfl, (S0.out.below hb).below h2⟩) (fun h => absurd h (by decide)))
    refine AllOps.cons (Does.plain rfl fun lq aq wq hk hr K hK => ?_) ?_
    · have B3 : ev aq (.tmp 3) = .pointer (some ⟨w.heap.size + 1, 0, none⟩) := hk.base 3 (by kernel_rfl) rfl
      have hb : Below _ _ _ := hk.ext
      exact wp_of_value (op_load 3 _ B3 (Box2.below D1.out hb)) (hK.out _ _ (Grows.refl _) (fun w2 h2 => ⟨_, _, _, _, rfl, (S1.out.below hb).below h2⟩) (fun h => absurd h (by decide)))
    refine AllOps.cons (Does.plain rfl fun lq aq wq hk hr K hK => ?_) ?_
    · obtain ⟨v0, E0, -, r0⟩ := hk.dep hr 0 9 (by kernel_rfl) (by kernel_rfl)
      have r0 : WV wq v0 x := r0 wq (Grows.refl wq)
      obtain ⟨v1, E1, -, r1⟩ := hk.dep hr 1 10 (by kernel_rfl) (by kernel_rfl)
      have r1 : WV wq v1 y := r1 wq (Grows.refl wq)
      refine wp_of_call (f := 18) (vs := #[v0, v1]) (by go_simp) (rdiv_v wq r0 r1 hy0) ?_
      rintro e w1 ⟨u, rfl, hu, hb⟩
      exact ⟨u, rfl, hK.out _ _ hb (fun w2 h2 => (let ⟨u0, e0, h0⟩ := hu; ⟨u0, e0, (h0).grow h2⟩)) (fun h => absurd h (by decide))⟩
    refine AllOps.cons (Does.plain rfl fun lq aq wq hk hr K hK => ?_) ?_
    · obtain ⟨v2, E2, -, r2⟩ := hk.dep hr 2 11 (by kernel_rfl) (by kernel_rfl)
      have r2 : ∃ u0, v2 = .tuple #[u0, .int .i64 0] ∧ ZV wq u0 ((Int.fdiv x y)) := r2 wq (Grows.refl wq)
      exact wp_of_value (by go_simp) (hK.out _ _ (Grows.refl _) (fun w2 h2 => (let ⟨u0, e0, h0⟩ := r2; ⟨u0, e0, (h0).grow h2⟩)) (fun h => absurd h (by decide)))
    refine AllOps.cons (Does.plain rfl fun lq aq wq hk hr K hK => ?_) ?_
    · obtain ⟨v3, E3, -, r3⟩ := hk.dep hr 3 8 (by kernel_rfl) (by kernel_rfl)
      have r3 : ∃ u0, v3 = .tuple #[u0, .int .i64 0] ∧ ZV wq u0 ((Int.fdiv x y)) := r3 wq (Grows.refl wq)
      obtain ⟨u0, rfl, h0⟩ := r3
      exact wp_of_value (by go_simp) (hK.out _ _ (Grows.refl _) (fun w2 h2 => (h0).grow h2) (fun h => absurd h (by decide)))
    refine AllOps.cons (Does.plain rfl fun lq aq wq hk hr K hK => ?_) ?_
    · obtain ⟨v3, E3, -, r3⟩ := hk.dep hr 3 8 (by kernel_rfl) (by kernel_rfl)
      have r3 : ∃ u0, v3 = .tuple #[u0, .int .i64 0] ∧ ZV wq u0 ((Int.fdiv x y)) := r3 wq (Grows.refl wq)
      obtain ⟨u0, rfl, h0⟩ := r3
      exact wp_of_value (by go_simp) (hK.out _ _ (Grows.refl _) (fun w2 h2 => rfl) (fun h => absurd h (by decide)))
    refine AllOps.cons (Does.plain rfl fun lq aq wq hk hr K hK => ?_) ?_
    · exact wp_of_value (by go_simp) (hK.out _ _ ((Grows.refl _).alloc _) (fun w2 h2 => ⟨_, rfl, (Box2.new wq 24 _ _).below h2, hk.ext.size⟩) (fun _ => Nat.le_refl _))
    exact AllOps.nil
  case fin =>
    intro V x1 hG hV hap
    have r4 : ZV x1 (V 4) ((Int.fdiv x y)) := hV 4 (by decide)
    have r5 : (V 5) = .int .i64 0 := hV 5 (by decide)
    have r6 : ∃ bq, (V 6) = .pointer (some ⟨bq, 0, none⟩) ∧ Box2 x1 bq 24 (.bool false) (.slice none 0 0) ∧ (x0).heap.size ≤ bq := hV 6 (by decide)
    clear hV
    simp only [List.take_succ_cons, List.take_zero, List.drop_succ_cons, List.drop_zero, putAll, Act.put, List.setIfInBounds_toArray, List.set_cons_zero, List.set_cons_succ]
    have hb := (show Below _ _ _ from hG)
    obtain ⟨bq, eq, Dq, gq⟩ := r6
    obtain ⟨nq, Aq, kq, cq, eq', sq⟩ := r4
    simp only [eq, eq', r5]
    clear eq eq' hap r5
    refine wpList_of_skip rfl (op_store 6 12 _ rfl rfl Dq) ?_
    have hB := put2_below (u := .bool nq) (v := .slice Aq kq cq) hb gq
    replace sq := sq.put Dq (.bool nq) (.slice Aq kq cq)
    replace Dq := put2_own (u := .bool nq) (v := .slice Aq kq cq) Dq
    clear hb
    generalize put2 x1 bq (.bool nq) (.slice Aq kq cq) = y2 at *
    replace D0 := Lib.hid (Box2.below D0.out hB)
    replace S0 := Lib.hid (S0.out.below hB)
    replace D1 := Lib.hid (Box2.below D1.out hB)
    replace S1 := Lib.hid (S1.out.below hB)
    replace DR := Lib.hid (Box2.below DR.out hB)
    replace HB := Lib.hid (HB.out.trans (Below.mono hB HB.out.size))
    have mq : w.heap.size + 1 + 1 + 1 ≤ bq := Nat.le_trans lwq gq
    clear lwq
    replace Dq := Lib.hid Dq
    have Sq := Lib.hid sq
    clear hG hB gq sq
    go_upto_region 2 with fail
    refine wp_region_calm 2 [] ([fun vq _ => vq = .int .i64 0,
        fun vq _ => vq = .bool false]) (by kernel_rfl) (by decide) ?hF ?steps ?fin
    case hF =>
      intro j hj; cases hj
    case steps =>
      refine AllOps.cons (Does.plain rfl fun lq aq wq hk hr K hK => ?_) ?_
      · have B7 : ev aq (.tmp 7) = .int .i64 0 := hk.base 7 (by kernel_rfl) rfl
        exact wp_of_value (by go_simp) (hK.out _ _ (Grows.refl _) (fun w2 h2 => rfl) (fun h => absurd h (by decide)))
      refine AllOps.cons (Does.plain rfl fun lq aq wq hk hr K hK => ?_) ?_
      · obtain ⟨v0, E0, -, r0⟩ := hk.dep hr 0 14 (by kernel_rfl) (by kernel_rfl)
        replace E0 : ev aq (.tmp 14) = .int .i64 0 := E0.trans (r0 wq (Grows.refl wq))
        exact wp_of_value (by go_simp) (hK.out _ _ (Grows.refl _) (fun w2 h2 => rfl) (fun h => absurd h (by decide)))
      exact AllOps.nil
    case fin =>
      intro V x3 hG hV hap
      have r1 : (V 1) = .bool false := hV 1 (by decide)
      clear hV hap
      simp only [List.take_succ_cons, List.take_nil, List.drop_succ_cons, List.drop_nil, putAll, Act.put, List.setIfInBounds_toArray, List.set_cons_zero, List.set_cons_succ]
      have hb := (show Below _ _ _ from hG)
      replace D0 := Lib.hid (Box2.below D0.out hb)
      replace S0 := Lib.hid (S0.out.below hb)
      replace D1 := Lib.hid (Box2.below D1.out hb)
      replace S1 := Lib.hid (S1.out.below hb)
      replace Dq := Lib.hid (Box2.below Dq.out hb)
      replace Sq := Lib.hid (Sq.out.below hb)
      replace DR := Lib.hid (Box2.below DR.out hb)
      replace HB := Lib.hid (HB.out.trans (Below.mono hb HB.out.size))
      clear hb hG
      rw [r1]
      clear r1
      go_upto_region 4 with fail
      refine wp_region_going 5 [] ([fun vq wq => WV wq vq x,
          fun vq wq => WV wq vq y,
          fun vq wq => ZV wq vq ((Int.fdiv x y)),
          fun vq wq => ZV wq vq ((y * (Int.fdiv x y))),
          fun vq wq => ZV wq vq ((x - (y * (Int.fdiv x y))))]) (by kernel_rfl) (by kernel_rfl) (by decide) (by kernel_rfl) (by kernel_rfl) ?hF ?steps ?fin
      case hF =>
        intro j hj; cases hj
      case steps =>
        refine AllOps.cons (Does.plain rfl fun lq aq wq hk hr K hK => ?_) ?_
        · have B2 : ev aq (.tmp 2) = .pointer (some ⟨w.heap.size, 0, none⟩) := hk.base 2 (by kernel_rfl) rfl
          have hb := grows_of hk.ext
          exact wp_of_value (op_load 2 _ B2 (Box2.below D0.out hb)) (hK.out _ _ (Grows.refl _) (fun w2 h2 => ⟨_, _, _, _, rfl, (S0.out.below hb).below h2⟩) (fun h => absurd h (by decide)))
        refine AllOps.cons (Does.plain rfl fun lq aq wq hk hr K hK => ?_) ?_
        · have B3 : ev aq (.tmp 3) = .pointer (some ⟨w.heap.size + 1, 0, none⟩) := hk.base 3 (by kernel_rfl) rfl
          have hb := grows_of hk.ext
          exact wp_of_value (op_load 3 _ B3 (Box2.below D1.out hb)) (hK.out _ _ (Grows.refl _) (fun w2 h2 => ⟨_, _, _, _, rfl, (S1.out.below hb).below h2⟩) (fun h => absurd h (by decide)))
        refine AllOps.cons (Does.plain rfl fun lq aq wq hk hr K hK => ?_) ?_
        · have B6 : ev aq (.tmp 6) = .pointer (some ⟨bq, 0, none⟩) := hk.base 6 (by kernel_rfl) rfl
          have hb := grows_of hk.ext
          exact wp_of_value (op_load 6 _ B6 (Box2.below Dq.out hb)) (hK.out _ _ (Grows.refl _) (fun w2 h2 => ⟨_, _, _, _, rfl, (Sq.out.below hb).below h2⟩) (fun h => absurd h (by decide)))
        refine AllOps.cons (Does.plain rfl fun lq aq wq hk hr K hK => ?_) ?_
        · obtain ⟨v1, E1, -, r1⟩ := hk.dep hr 1 19 (by kernel_rfl) (by kernel_rfl)
          have r1 : WV wq v1 y := r1 wq (Grows.refl wq)
          obtain ⟨v2, E2, -, r2⟩ := hk.dep hr 2 20 (by kernel_rfl) (by kernel_rfl)
          have r2 : ZV wq v2 ((Int.fdiv x y)) := r2 wq (Grows.refl wq)
          refine wp_of_call (f := 15) (vs := #[v1, v2]) (by go_simp) (rmul_v wq r1 (r2).wv hsm) ?_
          rintro e w1 ⟨u, rfl, hu, hb⟩
          exact ⟨u, rfl, hK.out _ _ hb (fun w2 h2 => (hu).grow h2) (fun h => absurd h (by decide))⟩
        refine AllOps.cons (Does.plain rfl fun lq aq wq hk hr K hK => ?_) ?_
        · obtain ⟨v0, E0, -, r0⟩ := hk.dep hr 0 18 (by kernel_rfl) (by kernel_rfl)
          have r0 : WV wq v0 x := r0 wq (Grows.refl wq)
          obtain ⟨v3, E3, -, r3⟩ := hk.dep hr 3 21 (by kernel_rfl) (by kernel_rfl)
          have r3 : ZV wq v3 ((y * (Int.fdiv x y))) := r3 wq (Grows.refl wq)
          refine wp_of_call (f := 40) (vs := #[v0, v3]) (by go_simp) (rsub_v wq r0 (r3).wv hsr) ?_
          rintro e w1 ⟨u, rfl, hu, hb⟩
          exact ⟨u, rfl, hK.out _ _ hb (fun w2 h2 => (hu).grow h2) (fun h => absurd h (by decide))⟩
        exact AllOps.nil
      case fin =>
        intro V x4 hG hV hap
        have r4 : ZV x4 (V 4) ((x - (y * (Int.fdiv x y)))) := hV 4 (by decide)
        clear hV hap
        simp only [List.take_succ_cons, List.take_zero, List.drop_succ_cons, List.drop_zero, putAll, Act.put, List.setIfInBounds_toArray, List.set_cons_zero, List.set_cons_succ]
        have hb := grows_of hG
        obtain ⟨nR, AR, kR, cR, eR, sR⟩ := r4
        simp only [eR]
        clear eR
        replace DR := Box2.below DR.out hb
        refine wpList_of_skip rfl (op_store 4 22 _ rfl rfl DR) ?_
        have sQ := sR.put DR (.bool nR) (.slice AR kR cR)
        have HQ := put2_below (u := .bool nR) (v := .slice AR kR cR) (HB.out.trans (Below.mono hb HB.out.size)) (show w.heap.size ≤ w.heap.size + 1 + 1 by omega)
        replace DR := put2_own (u := .bool nR) (v := .slice AR kR cR) DR
        clear hb hG sR HB
        generalize put2 x4 (w.heap.size + 1 + 1) (.bool nR) (.slice AR kR cR) = y9 at *
        have c0 := DR.c0
        have c1 := DR.c1
        clear DR
        go_wp2_with fail
        refine bodyPost_ret (v := .tuple #[.agg #[.bool nR, .slice AR kR cR], .int .i64 0]) (by simp [results, Tryd.results19, go_sem, c0, c1]) rfl ⟨_, rfl, ⟨_, rfl, ZV.to ⟨_, _, _, _, rfl, sQ⟩ (Int.fmod_def x y).symm⟩, HQ⟩
end Go.Proofs.YtmajcjdhhnhmmaaDoor
