import Derived.Test.YtmajcjdhhnhmmaaDoorRefZ4
/- litmusref02.Small: what it returns. -/
namespace Go.Proofs.YtmajcjdhhnhmmaaDoor
open Go.RowKit Go.Num Go.Kp
attribute [local go_sem] Oper.semAt_some u64_mask ev_const ev_func ev_global
theorem or_shift (q p : Nat) (hq : q < 4294967296) (hp : p < 4294967296) : bits .or .i64 (IntKind.i64.wrap ((q : Int) * 4294967296)) (p : Int) = IntKind.i64.wrap ((p + 4294967296 * q : Nat) : Int) := by
  have h1 : (BitVec.ofInt 64 (IntKind.i64.wrap ((q : Int) * 4294967296))).toNat = q <<< 32 := by
    rw [Nat.shiftLeft_eq]
    have e : IntKind.i64.wrap ((q : Int) * 4294967296) % 18446744073709551616 = ((q * 4294967296 : Nat) : Int) := by rw [IntKind.wrap_i64]; omega
    rw [BitVec.toNat_ofInt]
    show (IntKind.i64.wrap ((q : Int) * 4294967296) % 18446744073709551616).toNat = _
    rw [e]
    omega
  have h2 : (BitVec.ofInt 64 (p : Int)).toNat = p := by
    rw [BitVec.ofInt_natCast, BitVec.toNat_ofNat]; exact Nat.mod_eq_of_lt (by omega)
  show IntKind.i64.wrap ((BitVec.ofInt 64 (IntKind.i64.wrap ((q : Int) * 4294967296)) ||| BitVec.ofInt 64 (p : Int)).toNat : Int) = _
  rw [BitVec.toNat_or, h1, h2, ← Nat.shiftLeft_add_eq_or_of_lt (by omega), Nat.shiftLeft_eq]
  congr 1
  omega
set_option maxHeartbeats 4000000 in
set_option maxRecDepth 100000 in
theorem rsmall0_v (w : World) {u : Value} {x : Int} (h0 : WV w u x) (hkx : szz x ≤ 900) (hout : x < -9223372036854775808 ∨ 9223372036854775807 < x) : Calls Tryd.prog 42 #[u] w fun e w' => ∃ r, e = .returned r ∧ r = .tuple #[.int .i64 0, .bool false] ∧ Grows w w' := by
  obtain ⟨n0, A0, k0, c0, rfl, s0⟩ := h0
  have hk0 : szz x ≤ 1000 := s0.size
  obtain ⟨HB, D0⟩ := start1 w 24 (.bool n0) (.slice A0 k0 c0)
  replace HB := Lib.hid HB
  replace D0 := Lib.hid D0
  have S0 := Lib.hid (s0.below HB.out)
  clear s0
  go_enter Tryd.func42, Tryd.ntmps42
  go_upto_region 1 with fail
  generalize (w.alloc (.cells #[.bool n0, .slice A0 k0 c0] 24)) = x0 at *
  obtain ⟨i1, hi1⟩ : ∃ k, Int.sign (x - (-9223372036854775808)) = k := ⟨_, rfl⟩
  obtain ⟨i2, hi2⟩ : ∃ k, Int.sign (x - 9223372036854775807) = k := ⟨_, rfl⟩
  rcases hout with hlo | hhi
  · skip
    have hs1 : i1 < 0 := by rw [← hi1, Int.sign_eq_neg_one_of_neg (by omega)]; decide
    refine wp_region_going 10 [] ([fun vq wq => WV wq vq x,
        fun vq wq => ZV wq vq ((-9223372036854775808)),
        fun vq _ => vq = .int .i64 i1,
        fun vq _ => vq = .bool true,
        fun vq _ => vq = .bool true,
        fun vq _ => vq = undef,
        fun vq _ => vq = undef,
        fun vq _ => vq = undef,
        fun vq _ => vq = undef,
        fun vq _ => vq = .bool true]) (by kernel_rfl) (by kernel_rfl) (by decide) (by kernel_rfl) (by kernel_rfl) ?hF ?steps ?fin
    case hF =>
      intro j hj; cases hj
    case steps =>
      refine AllOps.cons (Does.plain rfl fun lq aq wq hk hr K hK => ?_) ?_
      · have B1 : ev aq (.tmp 1) = .pointer (some ⟨w.heap.size, 0, none⟩) := hk.base 1 (by kernel_rfl) rfl
        have hb := grows_of hk.ext
        exact wp_of_value (op_load 1 _ B1 (Box2.below D0.out hb)) (hK.out _ _ (Grows.refl _) (fun w2 h2 => ⟨_, _, _, _, rfl, (S0.out.below hb).below h2⟩) (fun h => absurd h (by decide)))
      refine AllOps.cons (Does.plain rfl fun lq aq wq hk hr K hK => ?_) ?_
      · refine wp_of_call (f := 14) (vs := #[.int .i64 (-9223372036854775808)]) (by go_simp) (rfrom_v wq ((-9223372036854775808)) (by decide) (by decide)) ?_
        rintro e w1 ⟨u, rfl, hu, hb⟩
        exact ⟨u, rfl, hK.out _ _ hb (fun w2 h2 => (hu).grow h2) (fun h => absurd h (by decide))⟩
      refine AllOps.cons (Does.plain rfl fun lq aq wq hk hr K hK => ?_) ?_
      · obtain ⟨v0, E0, -, r0⟩ := hk.dep hr 0 7 (by kernel_rfl) (by kernel_rfl)
        have r0 : WV wq v0 x := r0 wq (Grows.refl wq)
        obtain ⟨v1, E1, -, r1⟩ := hk.dep hr 1 8 (by kernel_rfl) (by kernel_rfl)
        have r1 : ZV wq v1 ((-9223372036854775808)) := r1 wq (Grows.refl wq)
        refine wp_of_call (f := 41) (vs := #[v0, v1]) (by go_simp) (rcmp_v wq r0 (r1).wv (k := i1) hi1 (Nat.le_trans (szz_sub hkx (szz_i64 (by decide) (by decide) : _ ≤ 2)) (by decide))) ?_
        rintro e w1 ⟨u, rfl, hu, hb⟩
        exact ⟨u, rfl, hK.out _ _ hb (fun w2 h2 => hu) (fun h => absurd h (by decide))⟩
      refine AllOps.cons (Does.plain rfl fun lq aq wq hk hr K hK => ?_) ?_
      · obtain ⟨v2, E2, -, r2⟩ := hk.dep hr 2 9 (by kernel_rfl) (by kernel_rfl)
        replace E2 : ev aq (.tmp 9) = .int .i64 i1 := E2.trans (r2 wq (Grows.refl wq))
        exact wp_of_value (by go_simp <;> omega) (hK.out _ _ (Grows.refl _) (fun w2 h2 => rfl) (fun h => absurd h (by decide)))
      refine AllOps.cons (Does.plain rfl fun lq aq wq hk hr K hK => ?_) ?_
      · obtain ⟨v3, E3, -, r3⟩ := hk.dep hr 3 10 (by kernel_rfl) (by kernel_rfl)
        replace E3 : ev aq (.tmp 10) = .bool true := E3.trans (r3 wq (Grows.refl wq))
        exact wp_of_value (by go_simp) (hK.out _ _ (Grows.refl _) (fun w2 h2 => rfl) (fun h => absurd h (by decide)))
      refine AllOps.cons (Does.bars (g := 4) (d := 11) (t := false) (u := true) rfl (by kernel_rfl) (by kernel_rfl) (fun vq wq h => h wq (Grows.refl wq)) (by decide) (fun _ _ _ => rfl) rfl) ?_
      refine AllOps.cons (Does.bars (g := 4) (d := 11) (t := false) (u := true) rfl (by kernel_rfl) (by kernel_rfl) (fun vq wq h => h wq (Grows.refl wq)) (by decide) (fun _ _ _ => rfl) rfl) ?_
      refine AllOps.cons (Does.bars (g := 4) (d := 11) (t := false) (u := true) rfl (by kernel_rfl) (by kernel_rfl) (fun vq wq h => h wq (Grows.refl wq)) (by decide) (fun _ _ _ => rfl) rfl) ?_
      refine AllOps.cons (Does.bars (g := 4) (d := 11) (t := false) (u := true) rfl (by kernel_rfl) (by kernel_rfl) (fun vq wq h => h wq (Grows.refl wq)) (by decide) (fun _ _ _ => rfl) rfl) ?_
      refine AllOps.cons (Does.plain rfl fun lq aq wq hk hr K hK => ?_) ?_
      · obtain ⟨v4, E4, -, r4⟩ := hk.dep hr 4 11 (by kernel_rfl) (by kernel_rfl)
        replace E4 : ev aq (.tmp 11) = .bool true := E4.trans (r4 wq (Grows.refl wq))
        exact wp_of_value (by go_simp) (hK.out _ _ (Grows.refl _) (fun w2 h2 => rfl) (fun h => absurd h (by decide)))
      exact AllOps.nil
    case fin =>
      intro V x1 hG hV hap
      have r2 : (V 2) = .int .i64 i1 := hV 2 (by decide)
      have r9 : (V 9) = .bool true := hV 9 (by decide)
      clear hV hap
      simp only [List.take_succ_cons, List.take_nil, List.drop_succ_cons, List.drop_nil, putAll, Act.put, List.setIfInBounds_toArray, List.set_cons_zero, List.set_cons_succ]
      have hb := grows_of hG
      replace D0 := Lib.hid (Box2.below D0.out hb)
      replace S0 := Lib.hid (S0.out.below hb)
      replace HB := Lib.hid (HB.out.trans (Below.mono hb HB.out.size))
      clear hb hG
      rw [r9]
      clear r9
      go_wp2_with fail
      go_ret2
      exact ⟨_, rfl, rfl, HB.out⟩
  · skip
    have hs1 : 0 ≤ i1 := by rw [← hi1]; exact Int.sign_nonneg_iff.2 (by omega)
    have hs2 : 0 < i2 := by rw [← hi2, Int.sign_eq_one_of_pos (by omega)]; decide
    refine wp_region_going 10 [] ([fun vq wq => WV wq vq x,
        fun vq wq => ZV wq vq ((-9223372036854775808)),
        fun vq _ => vq = .int .i64 i1,
        fun vq _ => vq = .bool false,
        fun vq _ => vq = .bool false,
        fun vq wq => WV wq vq x,
        fun vq wq => ZV wq vq 9223372036854775807,
        fun vq _ => vq = .int .i64 i2,
        fun vq _ => vq = .bool true,
        fun vq _ => vq = .bool true]) (by kernel_rfl) (by kernel_rfl) (by decide) (by kernel_rfl) (by kernel_rfl) ?hF ?steps ?fin
    case hF =>
      intro j hj; cases hj
    case steps =>
      refine AllOps.cons (Does.plain rfl fun lq aq wq hk hr K hK => ?_) ?_
      · have B1 : ev aq (.tmp 1) = .pointer (some ⟨w.heap.size, 0, none⟩) := hk.base 1 (by kernel_rfl) rfl
        have hb := grows_of hk.ext
        exact wp_of_value (op_load 1 _ B1 (Box2.below D0.out hb)) (hK.out _ _ (Grows.refl _) (fun w2 h2 => ⟨_, _, _, _, rfl, (S0.out.below hb).below h2⟩) (fun h => absurd h (by decide)))
      refine AllOps.cons (Does.plain rfl fun lq aq wq hk hr K hK => ?_) ?_
      · refine wp_of_call (f := 14) (vs := #[.int .i64 (-9223372036854775808)]) (by go_simp) (rfrom_v wq ((-9223372036854775808)) (by decide) (by decide)) ?_
        rintro e w1 ⟨u, rfl, hu, hb⟩
        exact ⟨u, rfl, hK.out _ _ hb (fun w2 h2 => (hu).grow h2) (fun h => absurd h (by decide))⟩
      refine AllOps.cons (Does.plain rfl fun lq aq wq hk hr K hK => ?_) ?_
      · obtain ⟨v0, E0, -, r0⟩ := hk.dep hr 0 7 (by kernel_rfl) (by kernel_rfl)
        have r0 : WV wq v0 x := r0 wq (Grows.refl wq)
        obtain ⟨v1, E1, -, r1⟩ := hk.dep hr 1 8 (by kernel_rfl) (by kernel_rfl)
        have r1 : ZV wq v1 ((-9223372036854775808)) := r1 wq (Grows.refl wq)
        refine wp_of_call (f := 41) (vs := #[v0, v1]) (by go_simp) (rcmp_v wq r0 (r1).wv (k := i1) hi1 (Nat.le_trans (szz_sub hkx (szz_i64 (by decide) (by decide) : _ ≤ 2)) (by decide))) ?_
        rintro e w1 ⟨u, rfl, hu, hb⟩
        exact ⟨u, rfl, hK.out _ _ hb (fun w2 h2 => hu) (fun h => absurd h (by decide))⟩
      refine AllOps.cons (Does.plain rfl fun lq aq wq hk hr K hK => ?_) ?_
      · obtain ⟨v2, E2, -, r2⟩ := hk.dep hr 2 9 (by kernel_rfl) (by kernel_rfl)
        replace E2 : ev aq (.tmp 9) = .int .i64 i1 := E2.trans (r2 wq (Grows.refl wq))
        exact wp_of_value (by go_simp <;> omega) (hK.out _ _ (Grows.refl _) (fun w2 h2 => rfl) (fun h => absurd h (by decide)))
      refine AllOps.cons (Does.plain rfl fun lq aq wq hk hr K hK => ?_) ?_
      · obtain ⟨v3, E3, -, r3⟩ := hk.dep hr 3 10 (by kernel_rfl) (by kernel_rfl)
        replace E3 : ev aq (.tmp 10) = .bool false := E3.trans (r3 wq (Grows.refl wq))
        exact wp_of_value (by go_simp) (hK.out _ _ (Grows.refl _) (fun w2 h2 => rfl) (fun h => absurd h (by decide)))
      refine AllOps.cons (Does.lets (g := 4) (d := 11) (t := false) rfl (by kernel_rfl) (by kernel_rfl) (fun vq wq h => h wq (Grows.refl wq)) fun lq aq wq hk hr K hK => ?_) ?_
      · have B1 : ev aq (.tmp 1) = .pointer (some ⟨w.heap.size, 0, none⟩) := hk.base 1 (by kernel_rfl) rfl
        have hb := grows_of hk.ext
        exact wp_of_value (op_load 1 _ B1 (Box2.below D0.out hb)) (hK.out _ _ (Grows.refl _) (fun w2 h2 => ⟨_, _, _, _, rfl, (S0.out.below hb).below h2⟩) (fun h => absurd h (by decide)))
      refine AllOps.cons (Does.lets (g := 4) (d := 11) (t := false) rfl (by kernel_rfl) (by kernel_rfl) (fun vq wq h => h wq (Grows.refl wq)) fun lq aq wq hk hr K hK => ?_) ?_
      · refine wp_of_call (f := 14) (vs := #[.int .i64 9223372036854775807]) (by go_simp) (rfrom_v wq 9223372036854775807 (by decide) (by decide)) ?_
        rintro e w1 ⟨u, rfl, hu, hb⟩
        exact ⟨u, rfl, hK.out _ _ hb (fun w2 h2 => (hu).grow h2) (fun h => absurd h (by decide))⟩
      refine AllOps.cons (Does.lets (g := 4) (d := 11) (t := false) rfl (by kernel_rfl) (by kernel_rfl) (fun vq wq h => h wq (Grows.refl wq)) fun lq aq wq hk hr K hK => ?_) ?_
      · obtain ⟨v5, E5, -, r5⟩ := hk.dep hr 5 12 (by kernel_rfl) (by kernel_rfl)
        have r5 : WV wq v5 x := r5 wq (Grows.refl wq)
        obtain ⟨v6, E6, -, r6⟩ := hk.dep hr 6 13 (by kernel_rfl) (by kernel_rfl)
        have r6 : ZV wq v6 9223372036854775807 := r6 wq (Grows.refl wq)
        refine wp_of_call (f := 41) (vs := #[v5, v6]) (by go_simp) (rcmp_v wq r5 (r6).wv (k := i2) hi2 (Nat.le_trans (szz_sub hkx (szz_i64 (by decide) (by decide) : _ ≤ 2)) (by decide))) ?_
        rintro e w1 ⟨u, rfl, hu, hb⟩
        exact ⟨u, rfl, hK.out _ _ hb (fun w2 h2 => hu) (fun h => absurd h (by decide))⟩
      refine AllOps.cons (Does.lets (g := 4) (d := 11) (t := false) rfl (by kernel_rfl) (by kernel_rfl) (fun vq wq h => h wq (Grows.refl wq)) fun lq aq wq hk hr K hK => ?_) ?_
      · obtain ⟨v7, E7, -, r7⟩ := hk.dep hr 7 14 (by kernel_rfl) (by kernel_rfl)
        replace E7 : ev aq (.tmp 14) = .int .i64 i2 := E7.trans (r7 wq (Grows.refl wq))
        exact wp_of_value (by go_simp <;> omega) (hK.out _ _ (Grows.refl _) (fun w2 h2 => rfl) (fun h => absurd h (by decide)))
      refine AllOps.cons (Does.plain rfl fun lq aq wq hk hr K hK => ?_) ?_
      · obtain ⟨v4, E4, -, r4⟩ := hk.dep hr 4 11 (by kernel_rfl) (by kernel_rfl)
        replace E4 : ev aq (.tmp 11) = .bool false := E4.trans (r4 wq (Grows.refl wq))
        obtain ⟨v8, E8, -, r8⟩ := hk.dep hr 8 15 (by kernel_rfl) (by kernel_rfl)
        replace E8 : ev aq (.tmp 15) = .bool true := E8.trans (r8 wq (Grows.refl wq))
        exact wp_of_value (by go_simp) (hK.out _ _ (Grows.refl _) (fun w2 h2 => rfl) (fun h => absurd h (by decide)))
      exact AllOps.nil
    case fin =>
      intro V x1 hG hV hap
      have r2 : (V 2) = .int .i64 i1 := hV 2 (by decide)
      have r9 : (V 9) = .bool true := hV 9 (by decide)
      clear hV hap
      simp only [List.take_succ_cons, List.take_nil, List.drop_succ_cons, List.drop_nil, putAll, Act.put, List.setIfInBounds_toArray, List.set_cons_zero, List.set_cons_succ]
      have hb := grows_of hG
      replace D0 := Lib.hid (Box2.below D0.out hb)
      replace S0 := Lib.hid (S0.out.below hb)
      replace HB := Lib.hid (HB.out.trans (Below.mono hb HB.out.size))
      clear hb hG
      rw [r9]
      clear r9
      go_wp2_with fail
      go_ret2
      exact ⟨_, rfl, rfl, HB.out⟩
set_option maxHeartbeats 16000000 in
set_option maxRecDepth 100000 in
theorem rsmall_v (w : World) {u : Value} {x : Int} (h0 : WV w u x) (h1 : -9223372036854775808 ≤ x) (h2 : x ≤ 9223372036854775807) : Calls Tryd.prog 42 #[u] w fun e w' => ∃ r, e = .returned r ∧ r = .tuple #[.int .i64 x, .bool true] ∧ Grows w w' := by
  obtain ⟨n0, A0, k0, c0, rfl, s0⟩ := h0
  have hk0 : szz x ≤ 1000 := s0.size
  have hkx : szz x ≤ 900 := Nat.le_trans (szz_i64 h1 h2) (by decide)
  obtain ⟨HB, D0⟩ := start1 w 24 (.bool n0) (.slice A0 k0 c0)
  replace HB := Lib.hid HB
  replace D0 := Lib.hid D0
  have S0 := Lib.hid (s0.below HB.out)
  clear s0
  go_enter Tryd.func42, Tryd.ntmps42
  go_upto_region 1 with fail
  generalize (w.alloc (.cells #[.bool n0, .slice A0 k0 c0] 24)) = x0 at *
  obtain ⟨i1, hi1⟩ : ∃ k, Int.sign (x - (-9223372036854775808)) = k := ⟨_, rfl⟩
  obtain ⟨i2, hi2⟩ : ∃ k, Int.sign (x - 9223372036854775807) = k := ⟨_, rfl⟩
  have hs1 : 0 ≤ i1 := by rw [← hi1]; exact Int.sign_nonneg_iff.2 (by omega)
  have hs2 : i2 ≤ 0 := by
    rw [← hi2]
    rcases Int.lt_or_eq_of_le h2 with h | h
    · rw [Int.sign_eq_neg_one_of_neg (by omega)]; decide
    · rw [h]; decide
  refine wp_region_going 10 [] ([fun vq wq => WV wq vq x,
      fun vq wq => ZV wq vq ((-9223372036854775808)),
      fun vq _ => vq = .int .i64 i1,
      fun vq _ => vq = .bool false,
      fun vq _ => vq = .bool false,
      fun vq wq => WV wq vq x,
      fun vq wq => ZV wq vq 9223372036854775807,
      fun vq _ => vq = .int .i64 i2,
      fun vq _ => vq = .bool false,
      fun vq _ => vq = .bool false]) (by kernel_rfl) (by kernel_rfl) (by decide) (by kernel_rfl) (by kernel_rfl) ?hF ?steps ?fin
  case hF =>
    intro j hj; cases hj
  case steps =>
    refine AllOps.cons (Does.plain rfl fun lq aq wq hk hr K hK => ?_) ?_
    · have B1 : ev aq (.tmp 1) = .pointer (some ⟨w.heap.size, 0, none⟩) := hk.base 1 (by kernel_rfl) rfl
      have hb := grows_of hk.ext
      exact wp_of_value (op_load 1 _ B1 (Box2.below D0.out hb)) (hK.out _ _ (Grows.refl _) (fun w2 h2 => ⟨_, _, _, _, rfl, (S0.out.below hb).below h2⟩) (fun h => absurd h (by decide)))
    refine AllOps.cons (Does.plain rfl fun lq aq wq hk hr K hK => ?_) ?_
    · refine wp_of_call (f := 14) (vs := #[.int .i64 (-9223372036854775808)]) (by go_simp) (rfrom_v wq ((-9223372036854775808)) (by decide) (by decide)) ?_
      rintro e w1 ⟨u, rfl, hu, hb⟩
      exact ⟨u, rfl, hK.out _ _ hb (fun w2 h2 => (hu).grow h2) (fun h => absurd h (by decide))⟩
    refine AllOps.cons (Does.plain rfl fun lq aq wq hk hr K hK => ?_) ?_
    · obtain ⟨v0, E0, -, r0⟩ := hk.dep hr 0 7 (by kernel_rfl) (by kernel_rfl)
      have r0 : WV wq v0 x := r0 wq (Grows.refl wq)
      obtain ⟨v1, E1, -, r1⟩ := hk.dep hr 1 8 (by kernel_rfl) (by kernel_rfl)
      have r1 : ZV wq v1 ((-9223372036854775808)) := r1 wq (Grows.refl wq)
      refine wp_of_call (f := 41) (vs := #[v0, v1]) (by go_simp) (rcmp_v wq r0 (r1).wv (k := i1) hi1 (Nat.le_trans (szz_sub hkx (szz_i64 (by decide) (by decide) : _ ≤ 2)) (by decide))) ?_
      rintro e w1 ⟨u, rfl, hu, hb⟩
      exact ⟨u, rfl, hK.out _ _ hb (fun w2 h2 => hu) (fun h => absurd h (by decide))⟩
    refine AllOps.cons (Does.plain rfl fun lq aq wq hk hr K hK => ?_) ?_
    · obtain ⟨v2, E2, -, r2⟩ := hk.dep hr 2 9 (by kernel_rfl) (by kernel_rfl)
      replace E2 : ev aq (.tmp 9) = .int .i64 i1 := E2.trans (r2 wq (Grows.refl wq))
      exact wp_of_value (by go_simp <;> omega) (hK.out _ _ (Grows.refl _) (fun w2 h2 => rfl) (fun h => absurd h (by decide)))
    refine AllOps.cons (Does.plain rfl fun lq aq wq hk hr K hK => ?_) ?_
    · obtain ⟨v3, E3, -, r3⟩ := hk.dep hr 3 10 (by kernel_rfl) (by kernel_rfl)
      replace E3 : ev aq (.tmp 10) = .bool false := E3.trans (r3 wq (Grows.refl wq))
      exact wp_of_value (by go_simp) (hK.out _ _ (Grows.refl _) (fun w2 h2 => rfl) (fun h => absurd h (by decide)))
    refine AllOps.cons (Does.lets (g := 4) (d := 11) (t := false) rfl (by kernel_rfl) (by kernel_rfl) (fun vq wq h => h wq (Grows.refl wq)) fun lq aq wq hk hr K hK => ?_) ?_
    · have B1 : ev aq (.tmp 1) = .pointer (some ⟨w.heap.size, 0, none⟩) := hk.base 1 (by kernel_rfl) rfl
      have hb := grows_of hk.ext
      exact wp_of_value (op_load 1 _ B1 (Box2.below D0.out hb)) (hK.out _ _ (Grows.refl _) (fun w2 h2 => ⟨_, _, _, _, rfl, (S0.out.below hb).below h2⟩) (fun h => absurd h (by decide)))
    refine AllOps.cons (Does.lets (g := 4) (d := 11) (t := false) rfl (by kernel_rfl) (by kernel_rfl) (fun vq wq h => h wq (Grows.refl wq)) fun lq aq wq hk hr K hK => ?_) ?_
    · refine wp_of_call (f := 14) (vs := #[.int .i64 9223372036854775807]) (by go_simp) (rfrom_v wq 9223372036854775807 (by decide) (by decide)) ?_
      rintro e w1 ⟨u, rfl, hu, hb⟩
      exact ⟨u, rfl, hK.out _ _ hb (fun w2 h2 => (hu).grow h2) (fun h => absurd h (by decide))⟩
    refine AllOps.cons (Does.lets (g := 4) (d := 11) (t := false) rfl (by kernel_rfl) (by kernel_rfl) (fun vq wq h => h wq (Grows.refl wq)) fun lq aq wq hk hr K hK => ?_) ?_
    · obtain ⟨v5, E5, -, r5⟩ := hk.dep hr 5 12 (by kernel_rfl) (by kernel_rfl)
      have r5 : WV wq v5 x := r5 wq (Grows.refl wq)
      obtain ⟨v6, E6, -, r6⟩ := hk.dep hr 6 13 (by kernel_rfl) (by kernel_rfl)
      have r6 : ZV wq v6 9223372036854775807 := r6 wq (Grows.refl wq)
      refine wp_of_call (f := 41) (vs := #[v5, v6]) (by go_simp) (rcmp_v wq r5 (r6).wv (k := i2) hi2 (Nat.le_trans (szz_sub hkx (szz_i64 (by decide) (by decide) : _ ≤ 2)) (by decide))) ?_
      rintro e w1 ⟨u, rfl, hu, hb⟩
      exact ⟨u, rfl, hK.out _ _ hb (fun w2 h2 => hu) (fun h => absurd h (by decide))⟩
    refine AllOps.cons (Does.lets (g := 4) (d := 11) (t := false) rfl (by kernel_rfl) (by kernel_rfl) (fun vq wq h => h wq (Grows.refl wq)) fun lq aq wq hk hr K hK => ?_) ?_
    · obtain ⟨v7, E7, -, r7⟩ := hk.dep hr 7 14 (by kernel_rfl) (by kernel_rfl)
      replace E7 : ev aq (.tmp 14) = .int .i64 i2 := E7.trans (r7 wq (Grows.refl wq))
      exact wp_of_value (by go_simp <;> omega) (hK.out _ _ (Grows.refl _) (fun w2 h2 => rfl) (fun h => absurd h (by decide)))
    refine AllOps.cons (Does.plain rfl fun lq aq wq hk hr K hK => ?_) ?_
    · obtain ⟨v4, E4, -, r4⟩ := hk.dep hr 4 11 (by kernel_rfl) (by kernel_rfl)
      replace E4 : ev aq (.tmp 11) = .bool false := E4.trans (r4 wq (Grows.refl wq))
      obtain ⟨v8, E8, -, r8⟩ := hk.dep hr 8 15 (by kernel_rfl) (by kernel_rfl)
      replace E8 : ev aq (.tmp 15) = .bool false := E8.trans (r8 wq (Grows.refl wq))
      exact wp_of_value (by go_simp) (hK.out _ _ (Grows.refl _) (fun w2 h2 => rfl) (fun h => absurd h (by decide)))
    exact AllOps.nil
  case fin =>
    intro V x1 hG hV hap
    have r2 : (V 2) = .int .i64 i1 := hV 2 (by decide)
    have r9 : (V 9) = .bool false := hV 9 (by decide)
    clear hV hap
    simp only [List.take_succ_cons, List.take_nil, List.drop_succ_cons, List.drop_nil, putAll, Act.put, List.setIfInBounds_toArray, List.set_cons_zero, List.set_cons_succ]
    have hb := grows_of hG
    replace D0 := Lib.hid (Box2.below D0.out hb)
    replace S0 := Lib.hid (S0.out.below hb)
    replace HB := Lib.hid (HB.out.trans (Below.mono hb HB.out.size))
    clear hb hG
    rw [r9]
    clear r9
    replace h1 := Lib.hid h1
    replace h2 := Lib.hid h2
    replace hi1 := Lib.hid hi1
    replace hi2 := Lib.hid hi2
    clear hs1 hs2
    go_upto_region 4 with fail
    refine wp_region_calm 3 [] ([fun vq wq => WV wq vq x,
        fun vq wq => ZV wq vq x,
        fun vq wq => LV wq vq (limbs x.natAbs) x.natAbs]) (by kernel_rfl) (by decide) ?hF ?steps ?fin
    case hF =>
      intro j hj; cases hj
    case steps =>
      refine AllOps.cons (Does.plain rfl fun lq aq wq hk hr K hK => ?_) ?_
      · have B1 : ev aq (.tmp 1) = .pointer (some ⟨w.heap.size, 0, none⟩) := hk.base 1 (by kernel_rfl) rfl
        have hb : Below _ _ _ := hk.ext
        exact wp_of_value (op_load 1 _ B1 (Box2.below D0.out hb)) (hK.out _ _ (Grows.refl _) (fun w2 h2 => ⟨_, _, _, _, rfl, (S0.out.below hb).below h2⟩) (fun h => absurd h (by decide)))
      refine AllOps.cons (Does.plain rfl fun lq aq wq hk hr K hK => ?_) ?_
      · obtain ⟨v0, E0, -, r0⟩ := hk.dep hr 0 17 (by kernel_rfl) (by kernel_rfl)
        have r0 : WV wq v0 x := r0 wq (Grows.refl wq)
        refine wp_of_call (f := 46) (vs := #[v0]) (by go_simp) (rmade_v wq r0) ?_
        rintro e w1 ⟨u, rfl, hu, hb⟩
        exact ⟨u, rfl, hK.out _ _ hb (fun w2 h2 => (hu).grow h2) (fun h => absurd h (by decide))⟩
      refine AllOps.cons (Does.plain rfl fun lq aq wq hk hr K hK => ?_) ?_
      · obtain ⟨v1, E1, -, r1⟩ := hk.dep hr 1 18 (by kernel_rfl) (by kernel_rfl)
        have r1 : ZV wq v1 x := r1 wq (Grows.refl wq)
        obtain ⟨n1, A1, k1, c1, rfl, s1⟩ := r1
        exact wp_of_value (by have hfd := field1; go_simp) (hK.out _ _ (Grows.refl _) (fun w2 h2 => (s1.num.lv).grow h2) (fun h => absurd h (by decide)))
      exact AllOps.nil
    case fin =>
      intro V x2 hG hV hap
      have r2 : LV x2 (V 2) (limbs x.natAbs) x.natAbs := hV 2 (by decide)
      clear hV hap
      simp only [List.take_succ_cons, List.take_zero, List.drop_succ_cons, List.drop_zero, putAll, Act.put, List.setIfInBounds_toArray, List.set_cons_zero, List.set_cons_succ]
      have hb := (show Below _ _ _ from hG)
      replace D0 := Lib.hid (Box2.below D0.out hb)
      replace S0 := Lib.hid (S0.out.below hb)
      replace HB := Lib.hid (HB.out.trans (Below.mono hb HB.out.size))
      clear hb hG
      obtain ⟨A5, c5, e5, q5⟩ := r2
      simp only [e5]
      rw [e5] at q5
      have Q5 := Lib.hid q5
      clear e5 q5
      obtain ⟨p, hp⟩ : ∃ p, decide (x < 0) = p := ⟨_, rfl⟩
      obtain ⟨a, ha⟩ : ∃ a, x.natAbs = a := ⟨_, rfl⟩
      have q5 := Q5.out
      have harg := q5.arg.open_
      rw [ha] at q5 harg ⊢
      have hle : a ≤ 9223372036854775808 := by have := h1.out; have := h2.out; omega
      have hl2 : (limbs a).length ≤ 2 := (limbs_length_le a 2).2 (by omega)
      have hvl : val (limbs a) = a := val_limbs a
      have hll := limbs_lim a
      generalize limbs a = r at *
      obtain ⟨B5, e5, eq5, _, hcl⟩ := harg
      obtain ⟨rfl, _⟩ : A5 = B5 ∧ c5 = e5 := by injection eq5 with g1 g2 g3; exact ⟨g1, g3⟩
      replace hvl := Lib.hid hvl
      replace hll := Lib.hid hll
      replace ha := Lib.hid ha
      replace hp := Lib.hid hp
      replace hcl := Lib.hid hcl
      clear q5 Q5 eq5 hle
      obtain ⟨len, hlen⟩ : ∃ n, r.length = n := ⟨_, rfl⟩
      rw [hlen] at hl2 ⊢
      replace hlen := Lib.hid hlen
      go_wp2_with fail
      go_loop [4, 6] (fun s i => ∃ k : Nat, k ≤ len ∧ i = .int .i64 ((k : Int) - 1) ∧ s = .int .i64 (IntKind.i64.wrap ((val (r.drop k) : Nat) : Int))) (fun _ i => (intOf i + 1).toNat)
      case atStart => exact ⟨len, Nat.le_refl _, rfl, by rw [List.drop_eq_nil_of_le (by rw [hlen.out]; exact Nat.le_refl _)]; rfl⟩
      case round =>
        obtain ⟨k, hk, rfl, rfl⟩ := hrel
        rcases Nat.eq_zero_or_pos k with hk0 | hk0
        · obtain rfl := hk0
          skip
          rw [List.drop_zero, hvl.out]
          obtain ⟨s, hs⟩ : ∃ s, IntKind.i64.wrap ((a : Nat) : Int) = s := ⟨_, rfl⟩
          rw [hs]
          replace hs := Lib.hid hs
          go_upto_region 9 with fail
          refine wp_region_calm 3 [] ([fun vq wq => WV wq vq x,
              fun vq wq => ZV wq vq x,
              fun vq _ => vq = .bool p]) (by kernel_rfl) (by decide) ?hF ?steps ?fin
          case hF =>
            intro j hj; cases hj
          case steps =>
            refine AllOps.cons (Does.plain rfl fun lq aq wq hk hr K hK => ?_) ?_
            · have B1 : ev aq (.tmp 1) = .pointer (some ⟨w.heap.size, 0, none⟩) := hk.base 1 (by kernel_rfl) rfl
              have hb : Below _ _ _ := hk.ext
              exact wp_of_value (op_load 1 _ B1 (Box2.below D0.out hb)) (hK.out _ _ (Grows.refl _) (fun w2 h2 => ⟨_, _, _, _, rfl, (S0.out.below hb).below h2⟩) (fun h => absurd h (by decide)))
            refine AllOps.cons (Does.plain rfl fun lq aq wq hk hr K hK => ?_) ?_
            · obtain ⟨v0, E0, -, r0⟩ := hk.dep hr 0 35 (by kernel_rfl) (by kernel_rfl)
              have r0 : WV wq v0 x := r0 wq (Grows.refl wq)
              refine wp_of_call (f := 46) (vs := #[v0]) (by go_simp) (rmade_v wq r0) ?_
              rintro e w1 ⟨u, rfl, hu, hb⟩
              exact ⟨u, rfl, hK.out _ _ hb (fun w2 h2 => (hu).grow h2) (fun h => absurd h (by decide))⟩
            refine AllOps.cons (Does.plain rfl fun lq aq wq hk hr K hK => ?_) ?_
            · obtain ⟨v1, E1, -, r1⟩ := hk.dep hr 1 36 (by kernel_rfl) (by kernel_rfl)
              have r1 : ZV wq v1 x := r1 wq (Grows.refl wq)
              obtain ⟨n1, A1, k1, c1, rfl, s1⟩ := r1
              have sk := s1.sign
              rw [hp.out] at sk
              subst sk
              exact wp_of_value (by have hfd := field0; go_simp) (hK.out _ _ (Grows.refl _) (fun w2 h2 => rfl) (fun h => absurd h (by decide)))
            exact AllOps.nil
          case fin =>
            intro V x3 hG hV hap
            have r2 : (V 2) = .bool p := hV 2 (by decide)
            clear hV hap
            simp only [List.take_succ_cons, List.take_nil, List.drop_succ_cons, List.drop_nil, putAll, Act.put, List.setIfInBounds_toArray, List.set_cons_zero, List.set_cons_succ]
            have hb := (show Below _ _ _ from hG)
            replace D0 := Lib.hid (Box2.below D0.out hb)
            replace S0 := Lib.hid (S0.out.below hb)
            replace HB := Lib.hid (HB.out.trans (Below.mono hb HB.out.size))
            clear hb hG
            rw [r2]
            clear r2
            rcases p with _ | _
            · have hsx : s = x := by
                rw [← hs.out, IntKind.wrap_i64]
                have := h2.out
                have := ha.out
                have := hp.out
                simp at this
                omega
              subst hsx
              go_wp2_with fail
              go_ret2
              exact ⟨_, rfl, rfl, HB.out⟩
            · have hsx : IntKind.i64.wrap (-s) = x := by
                rw [← hs.out, IntKind.wrap_i64, IntKind.wrap_i64]
                have := h1.out
                have := ha.out
                have := hp.out
                simp at this
                omega
              go_wp2_with fail
              go_ret2
              exact ⟨_, rfl, rfl, HB.out⟩
        · obtain ⟨j, rfl⟩ : ∃ j, k = j + 1 := ⟨k - 1, by omega⟩
          have hjl : j < r.length := by rw [hlen.out]; omega
          obtain ⟨y, hy⟩ := get_some hjl
          obtain ⟨b, o, rfl, hc1⟩ := hcl.out.at_ hy
          have hy32 := hll.out.get hy
          have hd : r.drop j = y :: r.drop (j + 1) := by
            rw [List.drop_eq_getElem_cons hjl]
            congr 1
            exact (List.getElem?_eq_some_iff.1 hy).2
          obtain ⟨q, hq⟩ : ∃ q, val (r.drop (j + 1)) = q := ⟨_, rfl⟩
          have hq32 : q < 4294967296 := by
            have h := val_lt (hll.out.drop (j + 1))
            rw [hq, List.length_drop, hlen.out] at h
            have h3 : len - (j + 1) ≤ 1 := by omega
            have h4 : 4294967296 ^ (len - (j + 1)) ≤ 4294967296 ^ 1 := Nat.pow_le_pow_right (by decide) h3
            omega
          have hor := or_shift q y hq32 hy32
          have hwq : IntKind.i64.wrap ((q : Nat) : Int) = (q : Int) := by rw [IntKind.wrap_i64]; omega
          have hvd : val (r.drop j) = y + 4294967296 * q := by rw [hd, val_cons, hq]
          rw [hq, hwq]
          replace hvd := Lib.hid hvd
          replace hq := Lib.hid hq
          clear hy hd hwq
          go_wp2_with fail
          go_round
          case rel => exact ⟨j, by omega, by go_num, by rw [hvd.out, ← hor]; simp only [wrap64, IntKind.wrap_i64]⟩
          case measure => simp [intOf]
end Go.Proofs.YtmajcjdhhnhmmaaDoor
