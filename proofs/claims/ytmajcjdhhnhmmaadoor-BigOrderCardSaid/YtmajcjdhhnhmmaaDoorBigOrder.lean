import Derived.Test.YtmajcjdhhnhmmaaDoorVal2
import Derived.Test.YtmajcjdhhnhmmaaDoorBigWorks
/- litmuslaw02.BigOrder returns true. -/
namespace Go.Proofs.YtmajcjdhhnhmmaaDoor
open Go.RowKit Go.Num Go.Kp
attribute [local go_sem] Oper.semAt_some u64_mask ev_const ev_func ev_global
set_option maxHeartbeats 16000000 in
set_option maxRecDepth 100000 in
theorem bigOrder_any (w : World) (n0 : Bool) (m0 : Value) (l0 : List Nat) (n1 : Bool) (m1 : Value) (l1 : List Nat) (n2 : Bool) (m2 : Value) (l2 : List Nat) (x y : Int) (h0 : Arg encU w m0 l0) (hl0 : Lim l0) (hn0 : l0.length ≤ 9223372036854775807) (h1 : Arg encU w m1 l1) (hl1 : Lim l1) (hn1 : l1.length ≤ 9223372036854775807) (h2 : Arg encU w m2 l2) (hl2 : Lim l2) (hn2 : l2.length ≤ 9223372036854775807) (hx1 : -9223372036854775808 ≤ x) (hx2 : x ≤ 9223372036854775807) (hy1 : -9223372036854775808 ≤ y) (hy2 : y ≤ 9223372036854775807) :
    Calls Tryd.prog 9 #[.agg #[.bool n0, m0, .bool n1, m1, .bool n2, m2], .int .i64 x, .int .i64 y] w fun e w' => e = .returned (.bool true) ∧ Below w.heap.size w w' := by
  go_enter Tryd.func9, Tryd.ntmps9
  obtain ⟨a, ha⟩ : ∃ z, sg n0 (val (l0.take 10)) = z := ⟨_, rfl⟩
  have hka : szz a ≤ 10 := ha ▸ few_szz n0 10 hl0
  obtain ⟨b, hb⟩ : ∃ z, sg n1 (val (l1.take 10)) = z := ⟨_, rfl⟩
  have hkb : szz b ≤ 10 := hb ▸ few_szz n1 10 hl1
  obtain ⟨c, hc⟩ : ∃ z, sg n2 (val (l2.take 10)) = z := ⟨_, rfl⟩
  have hkc : szz c ≤ 10 := hc ▸ few_szz n2 10 hl2
  have HB0 : Hid (Below w.heap.size w (w.alloc (.cells #[.bool n0, m0, .bool n1, m1, .bool n2, m2] 44))) := Lib.hid ((Below.refl _ w).alloc (Nat.le_refl _) _)
  have X0 := Lib.hid (BoxN.new w 44 #[.bool n0, m0, .bool n1, m1, .bool n2, m2])
  go_wp2_with fail
  refine (works_any _).mono ?_
  rintro e x0 ⟨rfl, q0⟩
  have HB := Lib.hid (HB0.out.trans (Below.mono q0 HB0.out.size))
  have X := Lib.hid (BoxN.below X0.out q0)
  replace h0 := h0.below HB.out
  replace h1 := h1.below HB.out
  replace h2 := h2.below HB.out
  clear HB0 X0 q0
  go_upto_region 3 with fail
  refine wp_region_going 12 [9, 10, 11] ([fun vq _ => vq = .pointer (some ⟨w.heap.size, 0, none⟩),
      fun vq _ => vq = .agg #[.bool n0, m0],
      fun vq wq => WV x0 vq a,
      fun vq _ => vq = .pointer (some ⟨w.heap.size, 2, none⟩),
      fun vq _ => vq = .agg #[.bool n1, m1],
      fun vq wq => WV x0 vq b,
      fun vq _ => vq = .pointer (some ⟨w.heap.size, 4, none⟩),
      fun vq _ => vq = .agg #[.bool n2, m2],
      fun vq wq => WV x0 vq c,
      fun vq wq => ∃ bq, vq = .pointer (some ⟨bq, 0, none⟩) ∧ Box2 wq bq 24 (.bool false) (.slice none 0 0) ∧ (x0).heap.size ≤ bq,
      fun vq wq => ∃ bq, vq = .pointer (some ⟨bq, 0, none⟩) ∧ Box2 wq bq 24 (.bool false) (.slice none 0 0) ∧ (x0).heap.size ≤ bq,
      fun vq wq => ∃ bq, vq = .pointer (some ⟨bq, 0, none⟩) ∧ Box2 wq bq 24 (.bool false) (.slice none 0 0) ∧ (x0).heap.size ≤ bq]) (by kernel_rfl) (by kernel_rfl) (by decide) (by kernel_rfl) (by kernel_rfl) ?hF ?steps ?fin
  case hF =>
    intro j hj v w h
    simp only [List.mem_cons, List.not_mem_nil, or_false] at hj
    rcases hj with rfl | rfl | rfl
    all_goals (obtain ⟨b, rfl, hB, _⟩ := h; exact hB.lt)
  case steps =>
    refine AllOps.cons (Does.plain rfl fun lq aq wq hk hr K hK => ?_) ?_
    · have B3 : ev aq (.tmp 3) = .pointer (some ⟨w.heap.size, 0, none⟩) := hk.base 3 (by kernel_rfl) rfl
      exact wp_of_value (by go_simp) (hK.out _ _ (Grows.refl _) (fun w2 h2 => rfl) (fun h => absurd h (by decide)))
    refine AllOps.cons (Does.plain rfl fun lq aq wq hk hr K hK => ?_) ?_
    · obtain ⟨v0, E0, -, r0⟩ := hk.dep hr 0 14 (by kernel_rfl) (by kernel_rfl)
      replace E0 : ev aq (.tmp 14) = .pointer (some ⟨w.heap.size, 0, none⟩) := E0.trans (r0 wq (Grows.refl wq))
      have hb := grows_of hk.ext
      have hb := grows_of hk.ext
      have c0 := (BoxN.below X.out hb).cell 0 rfl
      have c1 := (BoxN.below X.out hb).cell 1 rfl
      exact wp_of_value (by go_simp) (hK.out _ _ (Grows.refl _) (fun w2 h2 => rfl) (fun h => absurd h (by decide)))
    refine AllOps.cons (Does.plain rfl fun lq aq wq hk hr K hK => ?_) ?_
    · obtain ⟨v1, E1, -, r1⟩ := hk.dep hr 1 15 (by kernel_rfl) (by kernel_rfl)
      replace E1 : ev aq (.tmp 15) = .agg #[.bool n0, m0] := E1.trans (r1 wq (Grows.refl wq))
      refine wp_of_call (f := 13) (vs := #[.agg #[.bool n0, m0], .int .i64 10]) (by go_simp) (few_v x0 wq 10 (h0) hl0 hn0 (by decide) ha) ?_
      rintro e w1 ⟨u, rfl, hu, hb⟩
      exact ⟨u, rfl, hK.out _ _ hb (fun w2 h2 => hu) (fun h => absurd h (by decide))⟩
    refine AllOps.cons (Does.plain rfl fun lq aq wq hk hr K hK => ?_) ?_
    · have B3 : ev aq (.tmp 3) = .pointer (some ⟨w.heap.size, 0, none⟩) := hk.base 3 (by kernel_rfl) rfl
      exact wp_of_value (by go_simp) (hK.out _ _ (Grows.refl _) (fun w2 h2 => rfl) (fun h => absurd h (by decide)))
    refine AllOps.cons (Does.plain rfl fun lq aq wq hk hr K hK => ?_) ?_
    · obtain ⟨v3, E3, -, r3⟩ := hk.dep hr 3 17 (by kernel_rfl) (by kernel_rfl)
      replace E3 : ev aq (.tmp 17) = .pointer (some ⟨w.heap.size, 2, none⟩) := E3.trans (r3 wq (Grows.refl wq))
      have hb := grows_of hk.ext
      have hb := grows_of hk.ext
      have c0 := (BoxN.below X.out hb).cell 2 rfl
      have c1 := (BoxN.below X.out hb).cell 3 rfl
      exact wp_of_value (by go_simp) (hK.out _ _ (Grows.refl _) (fun w2 h2 => rfl) (fun h => absurd h (by decide)))
    refine AllOps.cons (Does.plain rfl fun lq aq wq hk hr K hK => ?_) ?_
    · obtain ⟨v4, E4, -, r4⟩ := hk.dep hr 4 18 (by kernel_rfl) (by kernel_rfl)
      replace E4 : ev aq (.tmp 18) = .agg #[.bool n1, m1] := E4.trans (r4 wq (Grows.refl wq))
      refine wp_of_call (f := 13) (vs := #[.agg #[.bool n1, m1], .int .i64 10]) (by go_simp) (few_v x0 wq 10 (h1) hl1 hn1 (by decide) hb) ?_
      rintro e w1 ⟨u, rfl, hu, hb⟩
      exact ⟨u, rfl, hK.out _ _ hb (fun w2 h2 => hu) (fun h => absurd h (by decide))⟩
    refine AllOps.cons (Does.plain rfl fun lq aq wq hk hr K hK => ?_) ?_
    · have B3 : ev aq (.tmp 3) = .pointer (some ⟨w.heap.size, 0, none⟩) := hk.base 3 (by kernel_rfl) rfl
      exact wp_of_value (by go_simp) (hK.out _ _ (Grows.refl _) (fun w2 h2 => rfl) (fun h => absurd h (by decide)))
    refine AllOps.cons (Does.plain rfl fun lq aq wq hk hr K hK => ?_) ?_
    · obtain ⟨v6, E6, -, r6⟩ := hk.dep hr 6 20 (by kernel_rfl) (by kernel_rfl)
      replace E6 : ev aq (.tmp 20) = .pointer (some ⟨w.heap.size, 4, none⟩) := E6.trans (r6 wq (Grows.refl wq))
      have hb := grows_of hk.ext
      have hb := grows_of hk.ext
      have c0 := (BoxN.below X.out hb).cell 4 rfl
      have c1 := (BoxN.below X.out hb).cell 5 rfl
      exact wp_of_value (by go_simp) (hK.out _ _ (Grows.refl _) (fun w2 h2 => rfl) (fun h => absurd h (by decide)))
    refine AllOps.cons (Does.plain rfl fun lq aq wq hk hr K hK => ?_) ?_
    · obtain ⟨v7, E7, -, r7⟩ := hk.dep hr 7 21 (by kernel_rfl) (by kernel_rfl)
      replace E7 : ev aq (.tmp 21) = .agg #[.bool n2, m2] := E7.trans (r7 wq (Grows.refl wq))
      refine wp_of_call (f := 13) (vs := #[.agg #[.bool n2, m2], .int .i64 10]) (by go_simp) (few_v x0 wq 10 (h2) hl2 hn2 (by decide) hc) ?_
      rintro e w1 ⟨u, rfl, hu, hb⟩
      exact ⟨u, rfl, hK.out _ _ hb (fun w2 h2 => hu) (fun h => absurd h (by decide))⟩
    refine AllOps.cons (Does.plain rfl fun lq aq wq hk hr K hK => ?_) ?_
    · exact wp_of_value (by go_simp) (hK.out _ _ ((Grows.refl _).alloc _) (fun w2 h2 => ⟨_, rfl, (Box2.new wq 24 _ _).below h2, (grows_of hk.ext).size⟩) (fun _ => Nat.le_refl _))
    refine AllOps.cons (Does.plain rfl fun lq aq wq hk hr K hK => ?_) ?_
    · exact wp_of_value (by go_simp) (hK.out _ _ ((Grows.refl _).alloc _) (fun w2 h2 => ⟨_, rfl, (Box2.new wq 24 _ _).below h2, (grows_of hk.ext).size⟩) (fun _ => Nat.le_refl _))
    refine AllOps.cons (Does.plain rfl fun lq aq wq hk hr K hK => ?_) ?_
    · exact wp_of_value (by go_simp) (hK.out _ _ ((Grows.refl _).alloc _) (fun w2 h2 => ⟨_, rfl, (Box2.new wq 24 _ _).below h2, (grows_of hk.ext).size⟩) (fun _ => Nat.le_refl _))
    exact AllOps.nil
  case fin =>
    intro V x1 hG hV hap
    have r2 : WV x0 (V 2) a := hV 2 (by decide)
    have r5 : WV x0 (V 5) b := hV 5 (by decide)
    have r8 : WV x0 (V 8) c := hV 8 (by decide)
    have r9 : ∃ bq, (V 9) = .pointer (some ⟨bq, 0, none⟩) ∧ Box2 x1 bq 24 (.bool false) (.slice none 0 0) ∧ (x0).heap.size ≤ bq := hV 9 (by decide)
    have r10 : ∃ bq, (V 10) = .pointer (some ⟨bq, 0, none⟩) ∧ Box2 x1 bq 24 (.bool false) (.slice none 0 0) ∧ (x0).heap.size ≤ bq := hV 10 (by decide)
    have r11 : ∃ bq, (V 11) = .pointer (some ⟨bq, 0, none⟩) ∧ Box2 x1 bq 24 (.bool false) (.slice none 0 0) ∧ (x0).heap.size ≤ bq := hV 11 (by decide)
    clear hV
    simp only [List.take_succ_cons, List.take_zero, List.drop_succ_cons, List.drop_zero, putAll, Act.put, List.setIfInBounds_toArray, List.set_cons_zero, List.set_cons_succ]
    have hb := grows_of hG
    obtain ⟨ba, ea, Da, ga⟩ := r9
    obtain ⟨na, Aa, ka, ca, ea', sa⟩ := r2
    obtain ⟨bb, eb, Db, gb⟩ := r10
    obtain ⟨nb, Ab, kb, cb, eb', sb⟩ := r5
    obtain ⟨bc, ec, Dc, gc⟩ := r11
    obtain ⟨nc, Ac, kc, cc, ec', sc⟩ := r8
    have nab : ba ≠ bb := by
      have h := hap 9 10 (by decide) (by decide) (by decide) (by decide) (by decide) rfl rfl
      rw [ea, eb] at h
      exact h
    have nac : ba ≠ bc := by
      have h := hap 9 11 (by decide) (by decide) (by decide) (by decide) (by decide) rfl rfl
      rw [ea, ec] at h
      exact h
    have nbc : bb ≠ bc := by
      have h := hap 10 11 (by decide) (by decide) (by decide) (by decide) (by decide) rfl rfl
      rw [eb, ec] at h
      exact h
    simp only [ea, ea', eb, eb', ec, ec']
    clear hap ea ea' eb eb' ec ec'
    refine wpList_of_skip rfl (op_store 7 16 _ rfl rfl Da) ?_
    refine wpList_of_skip rfl (op_store 8 19 _ rfl rfl (put2_far Db (Ne.symm nab))) ?_
    refine wpList_of_skip rfl (op_store 9 22 _ rfl rfl (put2_far (put2_far Dc (Ne.symm nac)) (Ne.symm nbc))) ?_
    obtain ⟨hB, Pa, Pb, Pc⟩ := put2_three (na := na) (nb := nb) (nc := nc) (ma := .slice Aa ka ca) (mb := .slice Ab kb cb) (mc := .slice Ac kc cc) hb Da Db Dc ga gb gc nab nac nbc
    generalize put2 (put2 (put2 x1 ba (.bool na) (.slice Aa ka ca)) bb (.bool nb) (.slice Ab kb cb)) bc (.bool nc) (.slice Ac kc cc) = y1 at *
    replace HB := Lib.hid (HB.out.trans (Below.mono hB HB.out.size))
    have Sa := Lib.hid (sa.below hB)
    replace Da := Lib.hid Pa
    have Sb := Lib.hid (sb.below hB)
    replace Db := Lib.hid Pb
    have Sc := Lib.hid (sc.below hB)
    replace Dc := Lib.hid Pc
    clear hb hG hB h0 h1 h2 hl0 hl1 hl2 hn0 hn1 hn2 X sa sb sc Pa Pb Pc ga gb gc nab nac nbc
    go_upto_region 4 with fail
    obtain ⟨k, hsg⟩ : ∃ k, Int.sign (a - b) = k := ⟨_, rfl⟩
    refine wp_region_calm 4 [] ([fun vq wq => WV wq vq a,
        fun vq wq => WV wq vq b,
        fun vq _ => vq = .int .i64 k,
        fun vq _ => vq = .int .i64 k]) (by kernel_rfl) (by decide) ?hF ?steps ?fin
    case hF =>
      intro j hj; cases hj
    case steps =>
      refine AllOps.cons (Does.plain rfl fun lq aq wq hk hr K hK => ?_) ?_
      · have B7 : ev aq (.tmp 7) = .pointer (some ⟨ba, 0, none⟩) := hk.base 7 (by kernel_rfl) rfl
        have hb : Below _ _ _ := hk.ext
        exact wp_of_value (op_load 7 _ B7 (Box2.below Da.out hb)) (hK.out _ _ (Grows.refl _) (fun w2 h2 => ⟨_, _, _, _, rfl, (Sa.out.below hb).below h2⟩) (fun h => absurd h (by decide)))
      refine AllOps.cons (Does.plain rfl fun lq aq wq hk hr K hK => ?_) ?_
      · have B8 : ev aq (.tmp 8) = .pointer (some ⟨bb, 0, none⟩) := hk.base 8 (by kernel_rfl) rfl
        have hb : Below _ _ _ := hk.ext
        exact wp_of_value (op_load 8 _ B8 (Box2.below Db.out hb)) (hK.out _ _ (Grows.refl _) (fun w2 h2 => ⟨_, _, _, _, rfl, (Sb.out.below hb).below h2⟩) (fun h => absurd h (by decide)))
      refine AllOps.cons (Does.plain rfl fun lq aq wq hk hr K hK => ?_) ?_
      · obtain ⟨v0, E0, -, r0⟩ := hk.dep hr 0 23 (by kernel_rfl) (by kernel_rfl)
        have r0 : WV wq v0 a := r0 wq (Grows.refl wq)
        obtain ⟨v1, E1, -, r1⟩ := hk.dep hr 1 24 (by kernel_rfl) (by kernel_rfl)
        have r1 : WV wq v1 b := r1 wq (Grows.refl wq)
        refine wp_of_call (f := 37) (vs := #[v0, v1]) (by go_simp) (cmp_v wq r0 r1 (k := k) hsg) ?_
        rintro e w1 ⟨u, rfl, hu, hb⟩
        exact ⟨u, rfl, hK.out _ _ hb (fun w2 h2 => hu) (fun h => absurd h (by decide))⟩
      refine AllOps.cons (Does.plain rfl fun lq aq wq hk hr K hK => ?_) ?_
      · obtain ⟨v2, E2, -, r2⟩ := hk.dep hr 2 25 (by kernel_rfl) (by kernel_rfl)
        replace E2 : ev aq (.tmp 25) = .int .i64 k := E2.trans (r2 wq (Grows.refl wq))
        exact wp_of_value (by go_simp) (hK.out _ _ (Grows.refl _) (fun w2 h2 => rfl) (fun h => absurd h (by decide)))
      exact AllOps.nil
    case fin =>
      intro V x2 hG hV hap
      have r3 : (V 3) = .int .i64 k := hV 3 (by decide)
      clear hV hap
      simp only [List.take_succ_cons, List.take_nil, List.drop_succ_cons, List.drop_nil, putAll, Act.put, List.setIfInBounds_toArray, List.set_cons_zero, List.set_cons_succ]
      have hb := (show Below _ _ _ from hG)
      replace Da := Lib.hid (Box2.below Da.out hb)
      replace Sa := Lib.hid (Sa.out.below hb)
      replace Db := Lib.hid (Box2.below Db.out hb)
      replace Sb := Lib.hid (Sb.out.below hb)
      replace Dc := Lib.hid (Box2.below Dc.out hb)
      replace Sc := Lib.hid (Sc.out.below hb)
      replace HB := Lib.hid (HB.out.trans (Below.mono hb HB.out.size))
      clear hb hG
      rw [r3]
      clear r3
      obtain ⟨hk1, hk2⟩ := hsg ▸ sign_in (a - b)
      obtain ⟨k1, hm⟩ : ∃ k1, -k = k1 := ⟨_, rfl⟩
      have hw : IntKind.i64.wrap k1 = k1 := IntWalk.i64_in k1 (by omega)
      have hba : Int.sign (b - a) = k1 := by rw [← hm, ← hsg, ← Int.sign_neg, Int.neg_sub]
      obtain ⟨t, ht⟩ : ∃ t, (k == 0) = t := ⟨_, rfl⟩
      have hab : decide (a = b) = t := by rw [← ht, ← hsg]; exact sign_alike a b
      have hac : Int.sign (a + c - (b + c)) = k := by rw [← hsg, Int.add_sub_add_right]
      have hne : Int.sign (-a - -b) = k1 := by rw [show -a - -b = b - a by omega]; exact hba
      go_upto_region 5 with fail
      refine wp_region_going 57 [] ([fun vq _ => vq = .int .i64 k,
          fun vq _ => vq = .bool false,
          fun vq _ => vq = .bool false,
          fun vq _ => vq = .int .i64 k,
          fun vq _ => vq = .bool false,
          fun vq _ => vq = .bool false,
          fun vq _ => vq = .bool false,
          fun vq wq => WV wq vq b,
          fun vq wq => WV wq vq a,
          fun vq _ => vq = .int .i64 k1,
          fun vq _ => vq = .int .i64 k,
          fun vq _ => vq = .int .i64 k1,
          fun vq _ => vq = .bool false,
          fun vq _ => vq = .bool false,
          fun vq _ => vq = .bool false,
          fun vq wq => WV wq vq a,
          fun vq wq => WV wq vq b,
          fun vq wq => ZV wq vq ((a - b)),
          fun vq _ => vq = .int .i64 k,
          fun vq _ => vq = .int .i64 k,
          fun vq _ => vq = .bool false,
          fun vq _ => vq = .bool false,
          fun vq _ => vq = .bool false,
          fun vq _ => vq = .int .i64 k,
          fun vq _ => vq = .bool t,
          fun vq wq => WV wq vq a,
          fun vq wq => RowV wq vq [a],
          fun vq wq => ZV wq vq a,
          fun vq wq => WV wq vq b,
          fun vq wq => RowV wq vq [b],
          fun vq wq => ZV wq vq b,
          fun vq _ => vq = .bool t,
          fun vq _ => vq = .bool false,
          fun vq _ => vq = .bool false,
          fun vq _ => vq = .bool false,
          fun vq wq => WV wq vq a,
          fun vq wq => WV wq vq c,
          fun vq wq => RowV wq vq [a, c],
          fun vq wq => ZV wq vq ((a + c)),
          fun vq wq => WV wq vq b,
          fun vq wq => WV wq vq c,
          fun vq wq => RowV wq vq [b, c],
          fun vq wq => ZV wq vq ((b + c)),
          fun vq _ => vq = .int .i64 k,
          fun vq _ => vq = .int .i64 k,
          fun vq _ => vq = .bool false,
          fun vq _ => vq = .bool false,
          fun vq _ => vq = .bool false,
          fun vq wq => WV wq vq a,
          fun vq wq => ZV wq vq ((-a)),
          fun vq wq => WV wq vq b,
          fun vq wq => ZV wq vq ((-b)),
          fun vq _ => vq = .int .i64 k1,
          fun vq _ => vq = .int .i64 k,
          fun vq _ => vq = .int .i64 k1,
          fun vq _ => vq = .bool false,
          fun vq _ => vq = .bool false]) (by kernel_rfl) (by kernel_rfl) (by decide) (by kernel_rfl) (by kernel_rfl) ?hF ?steps ?fin
      case hF =>
        intro j hj; cases hj
      case steps =>
        refine AllOps.cons (Does.plain rfl fun lq aq wq hk hr K hK => ?_) ?_
        · have B10 : ev aq (.tmp 10) = .int .i64 k := hk.base 10 (by kernel_rfl) rfl
          exact wp_of_value (by go_simp) (hK.out _ _ (Grows.refl _) (fun w2 h2 => rfl) (fun h => absurd h (by decide)))
        refine AllOps.cons (Does.plain rfl fun lq aq wq hk hr K hK => ?_) ?_
        · obtain ⟨v0, E0, -, r0⟩ := hk.dep hr 0 26 (by kernel_rfl) (by kernel_rfl)
          replace E0 : ev aq (.tmp 26) = .int .i64 k := E0.trans (r0 wq (Grows.refl wq))
          exact wp_of_value (by go_simp) (hK.out _ _ (Grows.refl _) (fun w2 h2 => rfl) (fun h => absurd h (by decide)))
        refine AllOps.cons (Does.plain rfl fun lq aq wq hk hr K hK => ?_) ?_
        · obtain ⟨v1, E1, -, r1⟩ := hk.dep hr 1 27 (by kernel_rfl) (by kernel_rfl)
          replace E1 : ev aq (.tmp 27) = .bool false := E1.trans (r1 wq (Grows.refl wq))
          exact wp_of_value (by go_simp) (hK.out _ _ (Grows.refl _) (fun w2 h2 => rfl) (fun h => absurd h (by decide)))
        refine AllOps.cons (Does.lets (g := 2) (d := 28) (t := false) rfl (by kernel_rfl) (by kernel_rfl) (fun vq wq h => h wq (Grows.refl wq)) fun lq aq wq hk hr K hK => ?_) ?_
        · have B10 : ev aq (.tmp 10) = .int .i64 k := hk.base 10 (by kernel_rfl) rfl
          exact wp_of_value (by go_simp) (hK.out _ _ (Grows.refl _) (fun w2 h2 => rfl) (fun h => absurd h (by decide)))
        refine AllOps.cons (Does.lets (g := 2) (d := 28) (t := false) rfl (by kernel_rfl) (by kernel_rfl) (fun vq wq h => h wq (Grows.refl wq)) fun lq aq wq hk hr K hK => ?_) ?_
        · obtain ⟨v3, E3, -, r3⟩ := hk.dep hr 3 29 (by kernel_rfl) (by kernel_rfl)
          replace E3 : ev aq (.tmp 29) = .int .i64 k := E3.trans (r3 wq (Grows.refl wq))
          exact wp_of_value (by go_simp) (hK.out _ _ (Grows.refl _) (fun w2 h2 => rfl) (fun h => absurd h (by decide)))
        refine AllOps.cons (Does.plain rfl fun lq aq wq hk hr K hK => ?_) ?_
        · obtain ⟨v2, E2, -, r2⟩ := hk.dep hr 2 28 (by kernel_rfl) (by kernel_rfl)
          replace E2 : ev aq (.tmp 28) = .bool false := E2.trans (r2 wq (Grows.refl wq))
          obtain ⟨v4, E4, -, r4⟩ := hk.dep hr 4 30 (by kernel_rfl) (by kernel_rfl)
          replace E4 : ev aq (.tmp 30) = .bool false := E4.trans (r4 wq (Grows.refl wq))
          exact wp_of_value (by go_simp) (hK.out _ _ (Grows.refl _) (fun w2 h2 => rfl) (fun h => absurd h (by decide)))
        refine AllOps.cons (Does.plain rfl fun lq aq wq hk hr K hK => ?_) ?_
        · obtain ⟨v5, E5, -, r5⟩ := hk.dep hr 5 31 (by kernel_rfl) (by kernel_rfl)
          replace E5 : ev aq (.tmp 31) = .bool false := E5.trans (r5 wq (Grows.refl wq))
          exact wp_of_value (by go_simp) (hK.out _ _ (Grows.refl _) (fun w2 h2 => rfl) (fun h => absurd h (by decide)))
        refine AllOps.cons (Does.lets (g := 6) (d := 32) (t := false) rfl (by kernel_rfl) (by kernel_rfl) (fun vq wq h => h wq (Grows.refl wq)) fun lq aq wq hk hr K hK => ?_) ?_
        · have B8 : ev aq (.tmp 8) = .pointer (some ⟨bb, 0, none⟩) := hk.base 8 (by kernel_rfl) rfl
          have hb := grows_of hk.ext
          exact wp_of_value (op_load 8 _ B8 (Box2.below Db.out hb)) (hK.out _ _ (Grows.refl _) (fun w2 h2 => ⟨_, _, _, _, rfl, (Sb.out.below hb).below h2⟩) (fun h => absurd h (by decide)))
        refine AllOps.cons (Does.lets (g := 6) (d := 32) (t := false) rfl (by kernel_rfl) (by kernel_rfl) (fun vq wq h => h wq (Grows.refl wq)) fun lq aq wq hk hr K hK => ?_) ?_
        · have B7 : ev aq (.tmp 7) = .pointer (some ⟨ba, 0, none⟩) := hk.base 7 (by kernel_rfl) rfl
          have hb := grows_of hk.ext
          exact wp_of_value (op_load 7 _ B7 (Box2.below Da.out hb)) (hK.out _ _ (Grows.refl _) (fun w2 h2 => ⟨_, _, _, _, rfl, (Sa.out.below hb).below h2⟩) (fun h => absurd h (by decide)))
        refine AllOps.cons (Does.lets (g := 6) (d := 32) (t := false) rfl (by kernel_rfl) (by kernel_rfl) (fun vq wq h => h wq (Grows.refl wq)) fun lq aq wq hk hr K hK => ?_) ?_
        · obtain ⟨v7, E7, -, r7⟩ := hk.dep hr 7 33 (by kernel_rfl) (by kernel_rfl)
          have r7 : WV wq v7 b := r7 wq (Grows.refl wq)
          obtain ⟨v8, E8, -, r8⟩ := hk.dep hr 8 34 (by kernel_rfl) (by kernel_rfl)
          have r8 : WV wq v8 a := r8 wq (Grows.refl wq)
          refine wp_of_call (f := 37) (vs := #[v7, v8]) (by go_simp) (cmp_v wq r7 r8 (k := k1) hba) ?_
          rintro e w1 ⟨u, rfl, hu, hb⟩
          exact ⟨u, rfl, hK.out _ _ hb (fun w2 h2 => hu) (fun h => absurd h (by decide))⟩
        refine AllOps.cons (Does.lets (g := 6) (d := 32) (t := false) rfl (by kernel_rfl) (by kernel_rfl) (fun vq wq h => h wq (Grows.refl wq)) fun lq aq wq hk hr K hK => ?_) ?_
        · have B10 : ev aq (.tmp 10) = .int .i64 k := hk.base 10 (by kernel_rfl) rfl
          exact wp_of_value (by go_simp) (hK.out _ _ (Grows.refl _) (fun w2 h2 => rfl) (fun h => absurd h (by decide)))
        refine AllOps.cons (Does.lets (g := 6) (d := 32) (t := false) rfl (by kernel_rfl) (by kernel_rfl) (fun vq wq h => h wq (Grows.refl wq)) fun lq aq wq hk hr K hK => ?_) ?_
        · obtain ⟨v10, E10, -, r10⟩ := hk.dep hr 10 36 (by kernel_rfl) (by kernel_rfl)
          replace E10 : ev aq (.tmp 36) = .int .i64 k := E10.trans (r10 wq (Grows.refl wq))
          exact wp_of_value (by go_simp) (hK.out _ _ (Grows.refl _) (fun w2 h2 => rfl) (fun h => absurd h (by decide)))
        refine AllOps.cons (Does.lets (g := 6) (d := 32) (t := false) rfl (by kernel_rfl) (by kernel_rfl) (fun vq wq h => h wq (Grows.refl wq)) fun lq aq wq hk hr K hK => ?_) ?_
        · obtain ⟨v9, E9, -, r9⟩ := hk.dep hr 9 35 (by kernel_rfl) (by kernel_rfl)
          replace E9 : ev aq (.tmp 35) = .int .i64 k1 := E9.trans (r9 wq (Grows.refl wq))
          obtain ⟨v11, E11, -, r11⟩ := hk.dep hr 11 37 (by kernel_rfl) (by kernel_rfl)
          replace E11 : ev aq (.tmp 37) = .int .i64 k1 := E11.trans (r11 wq (Grows.refl wq))
          exact wp_of_value (by go_simp) (hK.out _ _ (Grows.refl _) (fun w2 h2 => rfl) (fun h => absurd h (by decide)))
        refine AllOps.cons (Does.plain rfl fun lq aq wq hk hr K hK => ?_) ?_
        · obtain ⟨v6, E6, -, r6⟩ := hk.dep hr 6 32 (by kernel_rfl) (by kernel_rfl)
          replace E6 : ev aq (.tmp 32) = .bool false := E6.trans (r6 wq (Grows.refl wq))
          obtain ⟨v12, E12, -, r12⟩ := hk.dep hr 12 38 (by kernel_rfl) (by kernel_rfl)
          replace E12 : ev aq (.tmp 38) = .bool false := E12.trans (r12 wq (Grows.refl wq))
          exact wp_of_value (by go_simp) (hK.out _ _ (Grows.refl _) (fun w2 h2 => rfl) (fun h => absurd h (by decide)))
        refine AllOps.cons (Does.plain rfl fun lq aq wq hk hr K hK => ?_) ?_
        · obtain ⟨v13, E13, -, r13⟩ := hk.dep hr 13 39 (by kernel_rfl) (by kernel_rfl)
          replace E13 : ev aq (.tmp 39) = .bool false := E13.trans (r13 wq (Grows.refl wq))
          exact wp_of_value (by go_simp) (hK.out _ _ (Grows.refl _) (fun w2 h2 => rfl) (fun h => absurd h (by decide)))
        refine AllOps.cons (Does.lets (g := 14) (d := 40) (t := false) rfl (by kernel_rfl) (by kernel_rfl) (fun vq wq h => h wq (Grows.refl wq)) fun lq aq wq hk hr K hK => ?_) ?_
        · have B7 : ev aq (.tmp 7) = .pointer (some ⟨ba, 0, none⟩) := hk.base 7 (by kernel_rfl) rfl
          have hb := grows_of hk.ext
          exact wp_of_value (op_load 7 _ B7 (Box2.below Da.out hb)) (hK.out _ _ (Grows.refl _) (fun w2 h2 => ⟨_, _, _, _, rfl, (Sa.out.below hb).below h2⟩) (fun h => absurd h (by decide)))
        refine AllOps.cons (Does.lets (g := 14) (d := 40) (t := false) rfl (by kernel_rfl) (by kernel_rfl) (fun vq wq h => h wq (Grows.refl wq)) fun lq aq wq hk hr K hK => ?_) ?_
        · have B8 : ev aq (.tmp 8) = .pointer (some ⟨bb, 0, none⟩) := hk.base 8 (by kernel_rfl) rfl
          have hb := grows_of hk.ext
          exact wp_of_value (op_load 8 _ B8 (Box2.below Db.out hb)) (hK.out _ _ (Grows.refl _) (fun w2 h2 => ⟨_, _, _, _, rfl, (Sb.out.below hb).below h2⟩) (fun h => absurd h (by decide)))
        refine AllOps.cons (Does.lets (g := 14) (d := 40) (t := false) rfl (by kernel_rfl) (by kernel_rfl) (fun vq wq h => h wq (Grows.refl wq)) fun lq aq wq hk hr K hK => ?_) ?_
        · obtain ⟨v15, E15, -, r15⟩ := hk.dep hr 15 41 (by kernel_rfl) (by kernel_rfl)
          have r15 : WV wq v15 a := r15 wq (Grows.refl wq)
          obtain ⟨v16, E16, -, r16⟩ := hk.dep hr 16 42 (by kernel_rfl) (by kernel_rfl)
          have r16 : WV wq v16 b := r16 wq (Grows.refl wq)
          refine wp_of_call (f := 29) (vs := #[v15, v16]) (by go_simp) (sub_v wq r15 r16 (Nat.le_trans (szz_sub hka hkb) (by decide))) ?_
          rintro e w1 ⟨u, rfl, hu, hb⟩
          exact ⟨u, rfl, hK.out _ _ hb (fun w2 h2 => (hu).grow h2) (fun h => absurd h (by decide))⟩
        refine AllOps.cons (Does.lets (g := 14) (d := 40) (t := false) rfl (by kernel_rfl) (by kernel_rfl) (fun vq wq h => h wq (Grows.refl wq)) fun lq aq wq hk hr K hK => ?_) ?_
        · obtain ⟨v17, E17, -, r17⟩ := hk.dep hr 17 43 (by kernel_rfl) (by kernel_rfl)
          have r17 : ZV wq v17 ((a - b)) := r17 wq (Grows.refl wq)
          refine wp_of_call (f := 36) (vs := #[v17]) (by go_simp) (sign_v wq (r17).wv (k := k) hsg) ?_
          rintro e w1 ⟨u, rfl, hu, hb⟩
          exact ⟨u, rfl, hK.out _ _ hb (fun w2 h2 => hu) (fun h => absurd h (by decide))⟩
        refine AllOps.cons (Does.lets (g := 14) (d := 40) (t := false) rfl (by kernel_rfl) (by kernel_rfl) (fun vq wq h => h wq (Grows.refl wq)) fun lq aq wq hk hr K hK => ?_) ?_
        · have B10 : ev aq (.tmp 10) = .int .i64 k := hk.base 10 (by kernel_rfl) rfl
          exact wp_of_value (by go_simp) (hK.out _ _ (Grows.refl _) (fun w2 h2 => rfl) (fun h => absurd h (by decide)))
        refine AllOps.cons (Does.lets (g := 14) (d := 40) (t := false) rfl (by kernel_rfl) (by kernel_rfl) (fun vq wq h => h wq (Grows.refl wq)) fun lq aq wq hk hr K hK => ?_) ?_
        · obtain ⟨v18, E18, -, r18⟩ := hk.dep hr 18 44 (by kernel_rfl) (by kernel_rfl)
          replace E18 : ev aq (.tmp 44) = .int .i64 k := E18.trans (r18 wq (Grows.refl wq))
          obtain ⟨v19, E19, -, r19⟩ := hk.dep hr 19 45 (by kernel_rfl) (by kernel_rfl)
          replace E19 : ev aq (.tmp 45) = .int .i64 k := E19.trans (r19 wq (Grows.refl wq))
          exact wp_of_value (by go_simp) (hK.out _ _ (Grows.refl _) (fun w2 h2 => rfl) (fun h => absurd h (by decide)))
        refine AllOps.cons (Does.plain rfl fun lq aq wq hk hr K hK => ?_) ?_
        · obtain ⟨v14, E14, -, r14⟩ := hk.dep hr 14 40 (by kernel_rfl) (by kernel_rfl)
          replace E14 : ev aq (.tmp 40) = .bool false := E14.trans (r14 wq (Grows.refl wq))
          obtain ⟨v20, E20, -, r20⟩ := hk.dep hr 20 46 (by kernel_rfl) (by kernel_rfl)
          replace E20 : ev aq (.tmp 46) = .bool false := E20.trans (r20 wq (Grows.refl wq))
          exact wp_of_value (by go_simp) (hK.out _ _ (Grows.refl _) (fun w2 h2 => rfl) (fun h => absurd h (by decide)))
        refine AllOps.cons (Does.plain rfl fun lq aq wq hk hr K hK => ?_) ?_
        · obtain ⟨v21, E21, -, r21⟩ := hk.dep hr 21 47 (by kernel_rfl) (by kernel_rfl)
          replace E21 : ev aq (.tmp 47) = .bool false := E21.trans (r21 wq (Grows.refl wq))
          exact wp_of_value (by go_simp) (hK.out _ _ (Grows.refl _) (fun w2 h2 => rfl) (fun h => absurd h (by decide)))
        refine AllOps.cons (Does.lets (g := 22) (d := 48) (t := false) rfl (by kernel_rfl) (by kernel_rfl) (fun vq wq h => h wq (Grows.refl wq)) fun lq aq wq hk hr K hK => ?_) ?_
        · have B10 : ev aq (.tmp 10) = .int .i64 k := hk.base 10 (by kernel_rfl) rfl
          exact wp_of_value (by go_simp) (hK.out _ _ (Grows.refl _) (fun w2 h2 => rfl) (fun h => absurd h (by decide)))
        refine AllOps.cons (Does.lets (g := 22) (d := 48) (t := false) rfl (by kernel_rfl) (by kernel_rfl) (fun vq wq h => h wq (Grows.refl wq)) fun lq aq wq hk hr K hK => ?_) ?_
        · obtain ⟨v23, E23, -, r23⟩ := hk.dep hr 23 49 (by kernel_rfl) (by kernel_rfl)
          replace E23 : ev aq (.tmp 49) = .int .i64 k := E23.trans (r23 wq (Grows.refl wq))
          exact wp_of_value (by go_simp) (hK.out _ _ (Grows.refl _) (fun w2 h2 => rfl) (fun h => absurd h (by decide)))
        refine AllOps.cons (Does.lets (g := 22) (d := 48) (t := false) rfl (by kernel_rfl) (by kernel_rfl) (fun vq wq h => h wq (Grows.refl wq)) fun lq aq wq hk hr K hK => ?_) ?_
        · have B7 : ev aq (.tmp 7) = .pointer (some ⟨ba, 0, none⟩) := hk.base 7 (by kernel_rfl) rfl
          have hb := grows_of hk.ext
          exact wp_of_value (op_load 7 _ B7 (Box2.below Da.out hb)) (hK.out _ _ (Grows.refl _) (fun w2 h2 => ⟨_, _, _, _, rfl, (Sa.out.below hb).below h2⟩) (fun h => absurd h (by decide)))
        refine AllOps.cons (Does.lets (g := 22) (d := 48) (t := false) rfl (by kernel_rfl) (by kernel_rfl) (fun vq wq h => h wq (Grows.refl wq)) fun lq aq wq hk hr K hK => ?_) ?_
        · obtain ⟨v25, E25, -, r25⟩ := hk.dep hr 25 51 (by kernel_rfl) (by kernel_rfl)
          have r25 : WV wq v25 a := r25 wq (Grows.refl wq)
          obtain ⟨n25, A25, k25, c25, rfl, s25⟩ := r25
          exact wp_of_value (op_row1 51 E25) (hK.out _ _ ((Grows.refl _).alloc _) (fun w2 h2 => (RowV.one s25).grow h2) (fun h => absurd h (by decide)))
        refine AllOps.cons (Does.lets (g := 22) (d := 48) (t := false) rfl (by kernel_rfl) (by kernel_rfl) (fun vq wq h => h wq (Grows.refl wq)) fun lq aq wq hk hr K hK => ?_) ?_
        · obtain ⟨v26, E26, -, r26⟩ := hk.dep hr 26 52 (by kernel_rfl) (by kernel_rfl)
          have r26 : RowV wq v26 [a] := r26 wq (Grows.refl wq)
          refine wp_of_call (f := 27) (vs := #[v26]) (by go_simp) (add1_v wq r26 (Nat.le_trans hka (by decide))) ?_
          rintro e w1 ⟨u, rfl, hu, hb⟩
          exact ⟨u, rfl, hK.out _ _ hb (fun w2 h2 => (hu).grow h2) (fun h => absurd h (by decide))⟩
        refine AllOps.cons (Does.lets (g := 22) (d := 48) (t := false) rfl (by kernel_rfl) (by kernel_rfl) (fun vq wq h => h wq (Grows.refl wq)) fun lq aq wq hk hr K hK => ?_) ?_
        · have B8 : ev aq (.tmp 8) = .pointer (some ⟨bb, 0, none⟩) := hk.base 8 (by kernel_rfl) rfl
          have hb := grows_of hk.ext
          exact wp_of_value (op_load 8 _ B8 (Box2.below Db.out hb)) (hK.out _ _ (Grows.refl _) (fun w2 h2 => ⟨_, _, _, _, rfl, (Sb.out.below hb).below h2⟩) (fun h => absurd h (by decide)))
        refine AllOps.cons (Does.lets (g := 22) (d := 48) (t := false) rfl (by kernel_rfl) (by kernel_rfl) (fun vq wq h => h wq (Grows.refl wq)) fun lq aq wq hk hr K hK => ?_) ?_
        · obtain ⟨v28, E28, -, r28⟩ := hk.dep hr 28 54 (by kernel_rfl) (by kernel_rfl)
          have r28 : WV wq v28 b := r28 wq (Grows.refl wq)
          obtain ⟨n28, A28, k28, c28, rfl, s28⟩ := r28
          exact wp_of_value (op_row1 54 E28) (hK.out _ _ ((Grows.refl _).alloc _) (fun w2 h2 => (RowV.one s28).grow h2) (fun h => absurd h (by decide)))
        refine AllOps.cons (Does.lets (g := 22) (d := 48) (t := false) rfl (by kernel_rfl) (by kernel_rfl) (fun vq wq h => h wq (Grows.refl wq)) fun lq aq wq hk hr K hK => ?_) ?_
        · obtain ⟨v29, E29, -, r29⟩ := hk.dep hr 29 55 (by kernel_rfl) (by kernel_rfl)
          have r29 : RowV wq v29 [b] := r29 wq (Grows.refl wq)
          refine wp_of_call (f := 27) (vs := #[v29]) (by go_simp) (add1_v wq r29 (Nat.le_trans hkb (by decide))) ?_
          rintro e w1 ⟨u, rfl, hu, hb⟩
          exact ⟨u, rfl, hK.out _ _ hb (fun w2 h2 => (hu).grow h2) (fun h => absurd h (by decide))⟩
        refine AllOps.cons (Does.lets (g := 22) (d := 48) (t := false) rfl (by kernel_rfl) (by kernel_rfl) (fun vq wq h => h wq (Grows.refl wq)) fun lq aq wq hk hr K hK => ?_) ?_
        · obtain ⟨v27, E27, -, r27⟩ := hk.dep hr 27 53 (by kernel_rfl) (by kernel_rfl)
          have r27 : ZV wq v27 a := r27 wq (Grows.refl wq)
          obtain ⟨v30, E30, -, r30⟩ := hk.dep hr 30 56 (by kernel_rfl) (by kernel_rfl)
          have r30 : ZV wq v30 b := r30 wq (Grows.refl wq)
          refine wp_of_call (f := 26) (vs := #[v27, v30]) (by go_simp) (same_v wq r27 r30 (t := t) hab) ?_
          rintro e w1 ⟨u, rfl, hu, hb⟩
          exact ⟨u, rfl, hK.out _ _ hb (fun w2 h2 => hu) (fun h => absurd h (by decide))⟩
        refine AllOps.cons (Does.lets (g := 22) (d := 48) (t := false) rfl (by kernel_rfl) (by kernel_rfl) (fun vq wq h => h wq (Grows.refl wq)) fun lq aq wq hk hr K hK => ?_) ?_
        · obtain ⟨v24, E24, -, r24⟩ := hk.dep hr 24 50 (by kernel_rfl) (by kernel_rfl)
          replace E24 : ev aq (.tmp 50) = .bool t := E24.trans (r24 wq (Grows.refl wq))
          obtain ⟨v31, E31, -, r31⟩ := hk.dep hr 31 57 (by kernel_rfl) (by kernel_rfl)
          replace E31 : ev aq (.tmp 57) = .bool t := E31.trans (r31 wq (Grows.refl wq))
          exact wp_of_value (by go_simp) (hK.out _ _ (Grows.refl _) (fun w2 h2 => rfl) (fun h => absurd h (by decide)))
        refine AllOps.cons (Does.plain rfl fun lq aq wq hk hr K hK => ?_) ?_
        · obtain ⟨v22, E22, -, r22⟩ := hk.dep hr 22 48 (by kernel_rfl) (by kernel_rfl)
          replace E22 : ev aq (.tmp 48) = .bool false := E22.trans (r22 wq (Grows.refl wq))
          obtain ⟨v32, E32, -, r32⟩ := hk.dep hr 32 58 (by kernel_rfl) (by kernel_rfl)
          replace E32 : ev aq (.tmp 58) = .bool false := E32.trans (r32 wq (Grows.refl wq))
          exact wp_of_value (by go_simp) (hK.out _ _ (Grows.refl _) (fun w2 h2 => rfl) (fun h => absurd h (by decide)))
        refine AllOps.cons (Does.plain rfl fun lq aq wq hk hr K hK => ?_) ?_
        · obtain ⟨v33, E33, -, r33⟩ := hk.dep hr 33 59 (by kernel_rfl) (by kernel_rfl)
          replace E33 : ev aq (.tmp 59) = .bool false := E33.trans (r33 wq (Grows.refl wq))
          exact wp_of_value (by go_simp) (hK.out _ _ (Grows.refl _) (fun w2 h2 => rfl) (fun h => absurd h (by decide)))
        refine AllOps.cons (Does.lets (g := 34) (d := 60) (t := false) rfl (by kernel_rfl) (by kernel_rfl) (fun vq wq h => h wq (Grows.refl wq)) fun lq aq wq hk hr K hK => ?_) ?_
        · have B7 : ev aq (.tmp 7) = .pointer (some ⟨ba, 0, none⟩) := hk.base 7 (by kernel_rfl) rfl
          have hb := grows_of hk.ext
          exact wp_of_value (op_load 7 _ B7 (Box2.below Da.out hb)) (hK.out _ _ (Grows.refl _) (fun w2 h2 => ⟨_, _, _, _, rfl, (Sa.out.below hb).below h2⟩) (fun h => absurd h (by decide)))
        refine AllOps.cons (Does.lets (g := 34) (d := 60) (t := false) rfl (by kernel_rfl) (by kernel_rfl) (fun vq wq h => h wq (Grows.refl wq)) fun lq aq wq hk hr K hK => ?_) ?_
        · have B9 : ev aq (.tmp 9) = .pointer (some ⟨bc, 0, none⟩) := hk.base 9 (by kernel_rfl) rfl
          have hb := grows_of hk.ext
          exact wp_of_value (op_load 9 _ B9 (Box2.below Dc.out hb)) (hK.out _ _ (Grows.refl _) (fun w2 h2 => ⟨_, _, _, _, rfl, (Sc.out.below hb).below h2⟩) (fun h => absurd h (by decide)))
        refine AllOps.cons (Does.lets (g := 34) (d := 60) (t := false) rfl (by kernel_rfl) (by kernel_rfl) (fun vq wq h => h wq (Grows.refl wq)) fun lq aq wq hk hr K hK => ?_) ?_
        · obtain ⟨v35, E35, -, r35⟩ := hk.dep hr 35 61 (by kernel_rfl) (by kernel_rfl)
          have r35 : WV wq v35 a := r35 wq (Grows.refl wq)
          obtain ⟨n35, A35, k35, c35, rfl, s35⟩ := r35
          obtain ⟨v36, E36, -, r36⟩ := hk.dep hr 36 62 (by kernel_rfl) (by kernel_rfl)
          have r36 : WV wq v36 c := r36 wq (Grows.refl wq)
          obtain ⟨n36, A36, k36, c36, rfl, s36⟩ := r36
          exact wp_of_value (op_row2 61 62 E35 E36) (hK.out _ _ ((Grows.refl _).alloc _) (fun w2 h2 => (RowV.two s35 s36).grow h2) (fun h => absurd h (by decide)))
        refine AllOps.cons (Does.lets (g := 34) (d := 60) (t := false) rfl (by kernel_rfl) (by kernel_rfl) (fun vq wq h => h wq (Grows.refl wq)) fun lq aq wq hk hr K hK => ?_) ?_
        · obtain ⟨v37, E37, -, r37⟩ := hk.dep hr 37 63 (by kernel_rfl) (by kernel_rfl)
          have r37 : RowV wq v37 [a, c] := r37 wq (Grows.refl wq)
          refine wp_of_call (f := 27) (vs := #[v37]) (by go_simp) (add2_v wq r37 (Nat.le_trans hka (by decide)) (Nat.le_trans (szz_add hka hkc) (by decide))) ?_
          rintro e w1 ⟨u, rfl, hu, hb⟩
          exact ⟨u, rfl, hK.out _ _ hb (fun w2 h2 => (hu).grow h2) (fun h => absurd h (by decide))⟩
        refine AllOps.cons (Does.lets (g := 34) (d := 60) (t := false) rfl (by kernel_rfl) (by kernel_rfl) (fun vq wq h => h wq (Grows.refl wq)) fun lq aq wq hk hr K hK => ?_) ?_
        · have B8 : ev aq (.tmp 8) = .pointer (some ⟨bb, 0, none⟩) := hk.base 8 (by kernel_rfl) rfl
          have hb := grows_of hk.ext
          exact wp_of_value (op_load 8 _ B8 (Box2.below Db.out hb)) (hK.out _ _ (Grows.refl _) (fun w2 h2 => ⟨_, _, _, _, rfl, (Sb.out.below hb).below h2⟩) (fun h => absurd h (by decide)))
        refine AllOps.cons (Does.lets (g := 34) (d := 60) (t := false) rfl (by kernel_rfl) (by kernel_rfl) (fun vq wq h => h wq (Grows.refl wq)) fun lq aq wq hk hr K hK => ?_) ?_
        · have B9 : ev aq (.tmp 9) = .pointer (some ⟨bc, 0, none⟩) := hk.base 9 (by kernel_rfl) rfl
          have hb := grows_of hk.ext
          exact wp_of_value (op_load 9 _ B9 (Box2.below Dc.out hb)) (hK.out _ _ (Grows.refl _) (fun w2 h2 => ⟨_, _, _, _, rfl, (Sc.out.below hb).below h2⟩) (fun h => absurd h (by decide)))
        refine AllOps.cons (Does.lets (g := 34) (d := 60) (t := false) rfl (by kernel_rfl) (by kernel_rfl) (fun vq wq h => h wq (Grows.refl wq)) fun lq aq wq hk hr K hK => ?_) ?_
        · obtain ⟨v39, E39, -, r39⟩ := hk.dep hr 39 65 (by kernel_rfl) (by kernel_rfl)
          have r39 : WV wq v39 b := r39 wq (Grows.refl wq)
          obtain ⟨n39, A39, k39, c39, rfl, s39⟩ := r39
          obtain ⟨v40, E40, -, r40⟩ := hk.dep hr 40 66 (by kernel_rfl) (by kernel_rfl)
          have r40 : WV wq v40 c := r40 wq (Grows.refl wq)
          obtain ⟨n40, A40, k40, c40, rfl, s40⟩ := r40
          exact wp_of_value (op_row2 65 66 E39 E40) (hK.out _ _ ((Grows.refl _).alloc _) (fun w2 h2 => (RowV.two s39 s40).grow h2) (fun h => absurd h (by decide)))
        refine AllOps.cons (Does.lets (g := 34) (d := 60) (t := false) rfl (by kernel_rfl) (by kernel_rfl) (fun vq wq h => h wq (Grows.refl wq)) fun lq aq wq hk hr K hK => ?_) ?_
        · obtain ⟨v41, E41, -, r41⟩ := hk.dep hr 41 67 (by kernel_rfl) (by kernel_rfl)
          have r41 : RowV wq v41 [b, c] := r41 wq (Grows.refl wq)
          refine wp_of_call (f := 27) (vs := #[v41]) (by go_simp) (add2_v wq r41 (Nat.le_trans hkb (by decide)) (Nat.le_trans (szz_add hkb hkc) (by decide))) ?_
          rintro e w1 ⟨u, rfl, hu, hb⟩
          exact ⟨u, rfl, hK.out _ _ hb (fun w2 h2 => (hu).grow h2) (fun h => absurd h (by decide))⟩
        refine AllOps.cons (Does.lets (g := 34) (d := 60) (t := false) rfl (by kernel_rfl) (by kernel_rfl) (fun vq wq h => h wq (Grows.refl wq)) fun lq aq wq hk hr K hK => ?_) ?_
        · obtain ⟨v38, E38, -, r38⟩ := hk.dep hr 38 64 (by kernel_rfl) (by kernel_rfl)
          have r38 : ZV wq v38 ((a + c)) := r38 wq (Grows.refl wq)
          obtain ⟨v42, E42, -, r42⟩ := hk.dep hr 42 68 (by kernel_rfl) (by kernel_rfl)
          have r42 : ZV wq v42 ((b + c)) := r42 wq (Grows.refl wq)
          refine wp_of_call (f := 37) (vs := #[v38, v42]) (by go_simp) (cmp_v wq (r38).wv (r42).wv (k := k) hac) ?_
          rintro e w1 ⟨u, rfl, hu, hb⟩
          exact ⟨u, rfl, hK.out _ _ hb (fun w2 h2 => hu) (fun h => absurd h (by decide))⟩
        refine AllOps.cons (Does.lets (g := 34) (d := 60) (t := false) rfl (by kernel_rfl) (by kernel_rfl) (fun vq wq h => h wq (Grows.refl wq)) fun lq aq wq hk hr K hK => ?_) ?_
        · have B10 : ev aq (.tmp 10) = .int .i64 k := hk.base 10 (by kernel_rfl) rfl
          exact wp_of_value (by go_simp) (hK.out _ _ (Grows.refl _) (fun w2 h2 => rfl) (fun h => absurd h (by decide)))
        refine AllOps.cons (Does.lets (g := 34) (d := 60) (t := false) rfl (by kernel_rfl) (by kernel_rfl) (fun vq wq h => h wq (Grows.refl wq)) fun lq aq wq hk hr K hK => ?_) ?_
        · obtain ⟨v43, E43, -, r43⟩ := hk.dep hr 43 69 (by kernel_rfl) (by kernel_rfl)
          replace E43 : ev aq (.tmp 69) = .int .i64 k := E43.trans (r43 wq (Grows.refl wq))
          obtain ⟨v44, E44, -, r44⟩ := hk.dep hr 44 70 (by kernel_rfl) (by kernel_rfl)
          replace E44 : ev aq (.tmp 70) = .int .i64 k := E44.trans (r44 wq (Grows.refl wq))
          exact wp_of_value (by go_simp) (hK.out _ _ (Grows.refl _) (fun w2 h2 => rfl) (fun h => absurd h (by decide)))
        refine AllOps.cons (Does.plain rfl fun lq aq wq hk hr K hK => ?_) ?_
        · obtain ⟨v34, E34, -, r34⟩ := hk.dep hr 34 60 (by kernel_rfl) (by kernel_rfl)
          replace E34 : ev aq (.tmp 60) = .bool false := E34.trans (r34 wq (Grows.refl wq))
          obtain ⟨v45, E45, -, r45⟩ := hk.dep hr 45 71 (by kernel_rfl) (by kernel_rfl)
          replace E45 : ev aq (.tmp 71) = .bool false := E45.trans (r45 wq (Grows.refl wq))
          exact wp_of_value (by go_simp) (hK.out _ _ (Grows.refl _) (fun w2 h2 => rfl) (fun h => absurd h (by decide)))
        refine AllOps.cons (Does.plain rfl fun lq aq wq hk hr K hK => ?_) ?_
        · obtain ⟨v46, E46, -, r46⟩ := hk.dep hr 46 72 (by kernel_rfl) (by kernel_rfl)
          replace E46 : ev aq (.tmp 72) = .bool false := E46.trans (r46 wq (Grows.refl wq))
          exact wp_of_value (by go_simp) (hK.out _ _ (Grows.refl _) (fun w2 h2 => rfl) (fun h => absurd h (by decide)))
        refine AllOps.cons (Does.lets (g := 47) (d := 73) (t := false) rfl (by kernel_rfl) (by kernel_rfl) (fun vq wq h => h wq (Grows.refl wq)) fun lq aq wq hk hr K hK => ?_) ?_
        · have B7 : ev aq (.tmp 7) = .pointer (some ⟨ba, 0, none⟩) := hk.base 7 (by kernel_rfl) rfl
          have hb := grows_of hk.ext
          exact wp_of_value (op_load 7 _ B7 (Box2.below Da.out hb)) (hK.out _ _ (Grows.refl _) (fun w2 h2 => ⟨_, _, _, _, rfl, (Sa.out.below hb).below h2⟩) (fun h => absurd h (by decide)))
        refine AllOps.cons (Does.lets (g := 47) (d := 73) (t := false) rfl (by kernel_rfl) (by kernel_rfl) (fun vq wq h => h wq (Grows.refl wq)) fun lq aq wq hk hr K hK => ?_) ?_
        · obtain ⟨v48, E48, -, r48⟩ := hk.dep hr 48 74 (by kernel_rfl) (by kernel_rfl)
          have r48 : WV wq v48 a := r48 wq (Grows.refl wq)
          refine wp_of_call (f := 30) (vs := #[v48]) (by go_simp) (neg_v wq r48 (Nat.le_trans (szz_neg hka) (by decide))) ?_
          rintro e w1 ⟨u, rfl, hu, hb⟩
          exact ⟨u, rfl, hK.out _ _ hb (fun w2 h2 => (hu).grow h2) (fun h => absurd h (by decide))⟩
        refine AllOps.cons (Does.lets (g := 47) (d := 73) (t := false) rfl (by kernel_rfl) (by kernel_rfl) (fun vq wq h => h wq (Grows.refl wq)) fun lq aq wq hk hr K hK => ?_) ?_
        · have B8 : ev aq (.tmp 8) = .pointer (some ⟨bb, 0, none⟩) := hk.base 8 (by kernel_rfl) rfl
          have hb := grows_of hk.ext
          exact wp_of_value (op_load 8 _ B8 (Box2.below Db.out hb)) (hK.out _ _ (Grows.refl _) (fun w2 h2 => ⟨_, _, _, _, rfl, (Sb.out.below hb).below h2⟩) (fun h => absurd h (by decide)))
        refine AllOps.cons (Does.lets (g := 47) (d := 73) (t := false) rfl (by kernel_rfl) (by kernel_rfl) (fun vq wq h => h wq (Grows.refl wq)) fun lq aq wq hk hr K hK => ?_) ?_
        · obtain ⟨v50, E50, -, r50⟩ := hk.dep hr 50 76 (by kernel_rfl) (by kernel_rfl)
          have r50 : WV wq v50 b := r50 wq (Grows.refl wq)
          refine wp_of_call (f := 30) (vs := #[v50]) (by go_simp) (neg_v wq r50 (Nat.le_trans (szz_neg hkb) (by decide))) ?_
          rintro e w1 ⟨u, rfl, hu, hb⟩
          exact ⟨u, rfl, hK.out _ _ hb (fun w2 h2 => (hu).grow h2) (fun h => absurd h (by decide))⟩
        refine AllOps.cons (Does.lets (g := 47) (d := 73) (t := false) rfl (by kernel_rfl) (by kernel_rfl) (fun vq wq h => h wq (Grows.refl wq)) fun lq aq wq hk hr K hK => ?_) ?_
        · obtain ⟨v49, E49, -, r49⟩ := hk.dep hr 49 75 (by kernel_rfl) (by kernel_rfl)
          have r49 : ZV wq v49 ((-a)) := r49 wq (Grows.refl wq)
          obtain ⟨v51, E51, -, r51⟩ := hk.dep hr 51 77 (by kernel_rfl) (by kernel_rfl)
          have r51 : ZV wq v51 ((-b)) := r51 wq (Grows.refl wq)
          refine wp_of_call (f := 37) (vs := #[v49, v51]) (by go_simp) (cmp_v wq (r49).wv (r51).wv (k := k1) hne) ?_
          rintro e w1 ⟨u, rfl, hu, hb⟩
          exact ⟨u, rfl, hK.out _ _ hb (fun w2 h2 => hu) (fun h => absurd h (by decide))⟩
        refine AllOps.cons (Does.lets (g := 47) (d := 73) (t := false) rfl (by kernel_rfl) (by kernel_rfl) (fun vq wq h => h wq (Grows.refl wq)) fun lq aq wq hk hr K hK => ?_) ?_
        · have B10 : ev aq (.tmp 10) = .int .i64 k := hk.base 10 (by kernel_rfl) rfl
          exact wp_of_value (by go_simp) (hK.out _ _ (Grows.refl _) (fun w2 h2 => rfl) (fun h => absurd h (by decide)))
        refine AllOps.cons (Does.lets (g := 47) (d := 73) (t := false) rfl (by kernel_rfl) (by kernel_rfl) (fun vq wq h => h wq (Grows.refl wq)) fun lq aq wq hk hr K hK => ?_) ?_
        · obtain ⟨v53, E53, -, r53⟩ := hk.dep hr 53 79 (by kernel_rfl) (by kernel_rfl)
          replace E53 : ev aq (.tmp 79) = .int .i64 k := E53.trans (r53 wq (Grows.refl wq))
          exact wp_of_value (by go_simp) (hK.out _ _ (Grows.refl _) (fun w2 h2 => rfl) (fun h => absurd h (by decide)))
        refine AllOps.cons (Does.lets (g := 47) (d := 73) (t := false) rfl (by kernel_rfl) (by kernel_rfl) (fun vq wq h => h wq (Grows.refl wq)) fun lq aq wq hk hr K hK => ?_) ?_
        · obtain ⟨v52, E52, -, r52⟩ := hk.dep hr 52 78 (by kernel_rfl) (by kernel_rfl)
          replace E52 : ev aq (.tmp 78) = .int .i64 k1 := E52.trans (r52 wq (Grows.refl wq))
          obtain ⟨v54, E54, -, r54⟩ := hk.dep hr 54 80 (by kernel_rfl) (by kernel_rfl)
          replace E54 : ev aq (.tmp 80) = .int .i64 k1 := E54.trans (r54 wq (Grows.refl wq))
          exact wp_of_value (by go_simp) (hK.out _ _ (Grows.refl _) (fun w2 h2 => rfl) (fun h => absurd h (by decide)))
        refine AllOps.cons (Does.plain rfl fun lq aq wq hk hr K hK => ?_) ?_
        · obtain ⟨v47, E47, -, r47⟩ := hk.dep hr 47 73 (by kernel_rfl) (by kernel_rfl)
          replace E47 : ev aq (.tmp 73) = .bool false := E47.trans (r47 wq (Grows.refl wq))
          obtain ⟨v55, E55, -, r55⟩ := hk.dep hr 55 81 (by kernel_rfl) (by kernel_rfl)
          replace E55 : ev aq (.tmp 81) = .bool false := E55.trans (r55 wq (Grows.refl wq))
          exact wp_of_value (by go_simp) (hK.out _ _ (Grows.refl _) (fun w2 h2 => rfl) (fun h => absurd h (by decide)))
        exact AllOps.nil
      case fin =>
        intro V x3 hG hV hap
        have r30 : ZV x3 (V 30) b := hV 30 (by decide)
        have r56 : (V 56) = .bool false := hV 56 (by decide)
        clear hV hap
        simp only [List.take_succ_cons, List.take_nil, List.drop_succ_cons, List.drop_nil, putAll, Act.put, List.setIfInBounds_toArray, List.set_cons_zero, List.set_cons_succ]
        have hb := grows_of hG
        replace Da := Lib.hid (Box2.below Da.out hb)
        replace Sa := Lib.hid (Sa.out.below hb)
        replace Db := Lib.hid (Box2.below Db.out hb)
        replace Sb := Lib.hid (Sb.out.below hb)
        replace Dc := Lib.hid (Box2.below Dc.out hb)
        replace Sc := Lib.hid (Sc.out.below hb)
        replace HB := Lib.hid (HB.out.trans (Below.mono hb HB.out.size))
        clear hb hG
        rw [r56]
        clear r56
        go_upto_region 7 with fail
        rcases zlt_or_ge 0 k with h7 | h7
        · skip
          have h7' : ¬ k ≤ 0 := by omega
          refine wp_region_calm 14 [] ([fun vq _ => vq = .int .i64 k,
              fun vq _ => vq = .bool false,
              fun vq _ => vq = .bool false,
              fun vq _ => vq = undef,
              fun vq _ => vq = undef,
              fun vq _ => vq = undef,
              fun vq _ => vq = undef,
              fun vq _ => vq = .bool false,
              fun vq _ => vq = .bool false,
              fun vq _ => vq = undef,
              fun vq _ => vq = undef,
              fun vq _ => vq = undef,
              fun vq _ => vq = undef,
              fun vq _ => vq = .bool false]) (by kernel_rfl) (by decide) ?hF ?steps ?fin
          case hF =>
            intro j hj; cases hj
          case steps =>
            refine AllOps.cons (Does.plain rfl fun lq aq wq hk hr K hK => ?_) ?_
            · have B10 : ev aq (.tmp 10) = .int .i64 k := hk.base 10 (by kernel_rfl) rfl
              exact wp_of_value (by go_simp) (hK.out _ _ (Grows.refl _) (fun w2 h2 => rfl) (fun h => absurd h (by decide)))
            refine AllOps.cons (Does.plain rfl fun lq aq wq hk hr K hK => ?_) ?_
            · obtain ⟨v0, E0, -, r0⟩ := hk.dep hr 0 83 (by kernel_rfl) (by kernel_rfl)
              replace E0 : ev aq (.tmp 83) = .int .i64 k := E0.trans (r0 wq (Grows.refl wq))
              exact wp_of_value (by go_simp) (hK.out _ _ (Grows.refl _) (fun w2 h2 => rfl) (fun h => absurd h (by decide)))
            refine AllOps.cons (Does.plain rfl fun lq aq wq hk hr K hK => ?_) ?_
            · obtain ⟨v1, E1, -, r1⟩ := hk.dep hr 1 84 (by kernel_rfl) (by kernel_rfl)
              replace E1 : ev aq (.tmp 84) = .bool false := E1.trans (r1 wq (Grows.refl wq))
              exact wp_of_value (by go_simp) (hK.out _ _ (Grows.refl _) (fun w2 h2 => rfl) (fun h => absurd h (by decide)))
            refine AllOps.cons (Does.bars (g := 2) (d := 85) (t := true) (u := false) rfl (by kernel_rfl) (by kernel_rfl) (fun vq wq h => h wq (Grows.refl wq)) (by decide) (fun _ _ _ => rfl) rfl) ?_
            refine AllOps.cons (Does.bars (g := 2) (d := 85) (t := true) (u := false) rfl (by kernel_rfl) (by kernel_rfl) (fun vq wq h => h wq (Grows.refl wq)) (by decide) (fun _ _ _ => rfl) rfl) ?_
            refine AllOps.cons (Does.bars (g := 2) (d := 85) (t := true) (u := false) rfl (by kernel_rfl) (by kernel_rfl) (fun vq wq h => h wq (Grows.refl wq)) (by decide) (fun _ _ _ => rfl) rfl) ?_
            refine AllOps.cons (Does.bars (g := 2) (d := 85) (t := true) (u := false) rfl (by kernel_rfl) (by kernel_rfl) (fun vq wq h => h wq (Grows.refl wq)) (by decide) (fun _ _ _ => rfl) rfl) ?_
            refine AllOps.cons (Does.plain rfl fun lq aq wq hk hr K hK => ?_) ?_
            · obtain ⟨v2, E2, -, r2⟩ := hk.dep hr 2 85 (by kernel_rfl) (by kernel_rfl)
              replace E2 : ev aq (.tmp 85) = .bool false := E2.trans (r2 wq (Grows.refl wq))
              exact wp_of_value (by go_simp) (hK.out _ _ (Grows.refl _) (fun w2 h2 => rfl) (fun h => absurd h (by decide)))
            refine AllOps.cons (Does.plain rfl fun lq aq wq hk hr K hK => ?_) ?_
            · obtain ⟨v7, E7, -, r7⟩ := hk.dep hr 7 90 (by kernel_rfl) (by kernel_rfl)
              replace E7 : ev aq (.tmp 90) = .bool false := E7.trans (r7 wq (Grows.refl wq))
              exact wp_of_value (by go_simp) (hK.out _ _ (Grows.refl _) (fun w2 h2 => rfl) (fun h => absurd h (by decide)))
            refine AllOps.cons (Does.bars (g := 8) (d := 91) (t := true) (u := false) rfl (by kernel_rfl) (by kernel_rfl) (fun vq wq h => h wq (Grows.refl wq)) (by decide) (fun _ _ _ => rfl) rfl) ?_
            refine AllOps.cons (Does.bars (g := 8) (d := 91) (t := true) (u := false) rfl (by kernel_rfl) (by kernel_rfl) (fun vq wq h => h wq (Grows.refl wq)) (by decide) (fun _ _ _ => rfl) rfl) ?_
            refine AllOps.cons (Does.bars (g := 8) (d := 91) (t := true) (u := false) rfl (by kernel_rfl) (by kernel_rfl) (fun vq wq h => h wq (Grows.refl wq)) (by decide) (fun _ _ _ => rfl) rfl) ?_
            refine AllOps.cons (Does.bars (g := 8) (d := 91) (t := true) (u := false) rfl (by kernel_rfl) (by kernel_rfl) (fun vq wq h => h wq (Grows.refl wq)) (by decide) (fun _ _ _ => rfl) rfl) ?_
            refine AllOps.cons (Does.plain rfl fun lq aq wq hk hr K hK => ?_) ?_
            · obtain ⟨v8, E8, -, r8⟩ := hk.dep hr 8 91 (by kernel_rfl) (by kernel_rfl)
              replace E8 : ev aq (.tmp 91) = .bool false := E8.trans (r8 wq (Grows.refl wq))
              exact wp_of_value (by go_simp) (hK.out _ _ (Grows.refl _) (fun w2 h2 => rfl) (fun h => absurd h (by decide)))
            exact AllOps.nil
          case fin =>
            intro V x4 hG hV hap
            have r13 : (V 13) = .bool false := hV 13 (by decide)
            clear hV hap
            simp only [List.take_succ_cons, List.take_nil, List.drop_succ_cons, List.drop_nil, putAll, Act.put, List.setIfInBounds_toArray, List.set_cons_zero, List.set_cons_succ]
            have hb := (show Below _ _ _ from hG)
            replace Da := Lib.hid (Box2.below Da.out hb)
            replace Sa := Lib.hid (Sa.out.below hb)
            replace Db := Lib.hid (Box2.below Db.out hb)
            replace Sb := Lib.hid (Sb.out.below hb)
            replace Dc := Lib.hid (Box2.below Dc.out hb)
            replace Sc := Lib.hid (Sc.out.below hb)
            replace HB := Lib.hid (HB.out.trans (Below.mono hb HB.out.size))
            clear hb hG
            have r14 := r13
            clear r13
            rw [r14]
            clear r14
            rcases Int.lt_trichotomy x y with hxy | hxy | hxy
            · skip
              have hxy2 : ¬ y < x := by omega
              go_upto_region 14 with fail
              refine wp_region_calm 8 [] ([fun vq _ => vq = .int .i64 x,
                  fun vq wq => ZV wq vq x,
                  fun vq _ => vq = .int .i64 y,
                  fun vq wq => ZV wq vq y,
                  fun vq _ => vq = .int .i64 ((-1)),
                  fun vq _ => vq = .int .i64 (-1),
                  fun vq _ => vq = .bool true,
                  fun vq _ => vq = .bool true]) (by kernel_rfl) (by decide) ?hF ?steps ?fin
              case hF =>
                intro j hj; cases hj
              case steps =>
                refine AllOps.cons (Does.plain rfl fun lq aq wq hk hr K hK => ?_) ?_
                · have B1 : ev aq (.tmp 1) = .int .i64 x := hk.base 1 (by kernel_rfl) rfl
                  exact wp_of_value (by go_simp) (hK.out _ _ (Grows.refl _) (fun w2 h2 => rfl) (fun h => absurd h (by decide)))
                refine AllOps.cons (Does.plain rfl fun lq aq wq hk hr K hK => ?_) ?_
                · obtain ⟨v0, E0, -, r0⟩ := hk.dep hr 0 103 (by kernel_rfl) (by kernel_rfl)
                  replace E0 : ev aq (.tmp 103) = .int .i64 x := E0.trans (r0 wq (Grows.refl wq))
                  refine wp_of_call (f := 31) (vs := #[.int .i64 x]) (by go_simp) (from_v wq x hx1 hx2) ?_
                  rintro e w1 ⟨u, rfl, hu, hb⟩
                  exact ⟨u, rfl, hK.out _ _ hb (fun w2 h2 => (hu).grow h2) (fun h => absurd h (by decide))⟩
                refine AllOps.cons (Does.plain rfl fun lq aq wq hk hr K hK => ?_) ?_
                · have B2 : ev aq (.tmp 2) = .int .i64 y := hk.base 2 (by kernel_rfl) rfl
                  exact wp_of_value (by go_simp) (hK.out _ _ (Grows.refl _) (fun w2 h2 => rfl) (fun h => absurd h (by decide)))
                refine AllOps.cons (Does.plain rfl fun lq aq wq hk hr K hK => ?_) ?_
                · obtain ⟨v2, E2, -, r2⟩ := hk.dep hr 2 105 (by kernel_rfl) (by kernel_rfl)
                  replace E2 : ev aq (.tmp 105) = .int .i64 y := E2.trans (r2 wq (Grows.refl wq))
                  refine wp_of_call (f := 31) (vs := #[.int .i64 y]) (by go_simp) (from_v wq y hy1 hy2) ?_
                  rintro e w1 ⟨u, rfl, hu, hb⟩
                  exact ⟨u, rfl, hK.out _ _ hb (fun w2 h2 => (hu).grow h2) (fun h => absurd h (by decide))⟩
                refine AllOps.cons (Does.plain rfl fun lq aq wq hk hr K hK => ?_) ?_
                · obtain ⟨v1, E1, -, r1⟩ := hk.dep hr 1 104 (by kernel_rfl) (by kernel_rfl)
                  have r1 : ZV wq v1 x := r1 wq (Grows.refl wq)
                  obtain ⟨v3, E3, -, r3⟩ := hk.dep hr 3 106 (by kernel_rfl) (by kernel_rfl)
                  have r3 : ZV wq v3 y := r3 wq (Grows.refl wq)
                  refine wp_of_call (f := 37) (vs := #[v1, v3]) (by go_simp) (cmp_v wq (r1).wv (r3).wv (k := (-1)) (Int.sign_eq_neg_one_of_neg (by omega))) ?_
                  rintro e w1 ⟨u, rfl, hu, hb⟩
                  exact ⟨u, rfl, hK.out _ _ hb (fun w2 h2 => hu) (fun h => absurd h (by decide))⟩
                refine AllOps.cons (Does.plain rfl fun lq aq wq hk hr K hK => ?_) ?_
                · have B11 : ev aq (.tmp 11) = .int .i64 (-1) := hk.base 11 (by kernel_rfl) rfl
                  exact wp_of_value (by go_simp) (hK.out _ _ (Grows.refl _) (fun w2 h2 => rfl) (fun h => absurd h (by decide)))
                refine AllOps.cons (Does.plain rfl fun lq aq wq hk hr K hK => ?_) ?_
                · obtain ⟨v4, E4, -, r4⟩ := hk.dep hr 4 107 (by kernel_rfl) (by kernel_rfl)
                  replace E4 : ev aq (.tmp 107) = .int .i64 ((-1)) := E4.trans (r4 wq (Grows.refl wq))
                  obtain ⟨v5, E5, -, r5⟩ := hk.dep hr 5 108 (by kernel_rfl) (by kernel_rfl)
                  replace E5 : ev aq (.tmp 108) = .int .i64 (-1) := E5.trans (r5 wq (Grows.refl wq))
                  exact wp_of_value (by go_simp) (hK.out _ _ (Grows.refl _) (fun w2 h2 => rfl) (fun h => absurd h (by decide)))
                refine AllOps.cons (Does.plain rfl fun lq aq wq hk hr K hK => ?_) ?_
                · obtain ⟨v6, E6, -, r6⟩ := hk.dep hr 6 109 (by kernel_rfl) (by kernel_rfl)
                  replace E6 : ev aq (.tmp 109) = .bool true := E6.trans (r6 wq (Grows.refl wq))
                  exact wp_of_value (by go_simp) (hK.out _ _ (Grows.refl _) (fun w2 h2 => rfl) (fun h => absurd h (by decide)))
                exact AllOps.nil
              case fin =>
                intro V x5 hG hV hap
                have r7 : (V 7) = .bool true := hV 7 (by decide)
                clear hV hap
                simp only [List.take_succ_cons, List.take_nil, List.drop_succ_cons, List.drop_nil, putAll, Act.put, List.setIfInBounds_toArray, List.set_cons_zero, List.set_cons_succ]
                have hb := (show Below _ _ _ from hG)
                replace Da := Lib.hid (Box2.below Da.out hb)
                replace Sa := Lib.hid (Sa.out.below hb)
                replace Db := Lib.hid (Box2.below Db.out hb)
                replace Sb := Lib.hid (Sb.out.below hb)
                replace Dc := Lib.hid (Box2.below Dc.out hb)
                replace Sc := Lib.hid (Sc.out.below hb)
                replace HB := Lib.hid (HB.out.trans (Below.mono hb HB.out.size))
                clear hb hG
                rw [r7]
                go_wp2_with fail
                go_ret
                exact ⟨rfl, HB.out⟩
            · skip
              subst hxy
              have hxy : ¬ x < x := by omega
              go_upto_region 14 with fail
              refine wp_region_calm 8 [] ([fun vq _ => vq = .int .i64 x,
                  fun vq wq => ZV wq vq x,
                  fun vq _ => vq = .int .i64 x,
                  fun vq wq => ZV wq vq x,
                  fun vq _ => vq = .int .i64 ((0)),
                  fun vq _ => vq = .int .i64 0,
                  fun vq _ => vq = .bool true,
                  fun vq _ => vq = .bool true]) (by kernel_rfl) (by decide) ?hF ?steps ?fin
              case hF =>
                intro j hj; cases hj
              case steps =>
                refine AllOps.cons (Does.plain rfl fun lq aq wq hk hr K hK => ?_) ?_
                · have B1 : ev aq (.tmp 1) = .int .i64 x := hk.base 1 (by kernel_rfl) rfl
                  exact wp_of_value (by go_simp) (hK.out _ _ (Grows.refl _) (fun w2 h2 => rfl) (fun h => absurd h (by decide)))
                refine AllOps.cons (Does.plain rfl fun lq aq wq hk hr K hK => ?_) ?_
                · obtain ⟨v0, E0, -, r0⟩ := hk.dep hr 0 103 (by kernel_rfl) (by kernel_rfl)
                  replace E0 : ev aq (.tmp 103) = .int .i64 x := E0.trans (r0 wq (Grows.refl wq))
                  refine wp_of_call (f := 31) (vs := #[.int .i64 x]) (by go_simp) (from_v wq x hx1 hx2) ?_
                  rintro e w1 ⟨u, rfl, hu, hb⟩
                  exact ⟨u, rfl, hK.out _ _ hb (fun w2 h2 => (hu).grow h2) (fun h => absurd h (by decide))⟩
                refine AllOps.cons (Does.plain rfl fun lq aq wq hk hr K hK => ?_) ?_
                · have B2 : ev aq (.tmp 2) = .int .i64 x := hk.base 2 (by kernel_rfl) rfl
                  exact wp_of_value (by go_simp) (hK.out _ _ (Grows.refl _) (fun w2 h2 => rfl) (fun h => absurd h (by decide)))
                refine AllOps.cons (Does.plain rfl fun lq aq wq hk hr K hK => ?_) ?_
                · obtain ⟨v2, E2, -, r2⟩ := hk.dep hr 2 105 (by kernel_rfl) (by kernel_rfl)
                  replace E2 : ev aq (.tmp 105) = .int .i64 x := E2.trans (r2 wq (Grows.refl wq))
                  refine wp_of_call (f := 31) (vs := #[.int .i64 x]) (by go_simp) (from_v wq x hx1 hx2) ?_
                  rintro e w1 ⟨u, rfl, hu, hb⟩
                  exact ⟨u, rfl, hK.out _ _ hb (fun w2 h2 => (hu).grow h2) (fun h => absurd h (by decide))⟩
                refine AllOps.cons (Does.plain rfl fun lq aq wq hk hr K hK => ?_) ?_
                · obtain ⟨v1, E1, -, r1⟩ := hk.dep hr 1 104 (by kernel_rfl) (by kernel_rfl)
                  have r1 : ZV wq v1 x := r1 wq (Grows.refl wq)
                  obtain ⟨v3, E3, -, r3⟩ := hk.dep hr 3 106 (by kernel_rfl) (by kernel_rfl)
                  have r3 : ZV wq v3 x := r3 wq (Grows.refl wq)
                  refine wp_of_call (f := 37) (vs := #[v1, v3]) (by go_simp) (cmp_v wq (r1).wv (r3).wv (k := (0)) (by simp)) ?_
                  rintro e w1 ⟨u, rfl, hu, hb⟩
                  exact ⟨u, rfl, hK.out _ _ hb (fun w2 h2 => hu) (fun h => absurd h (by decide))⟩
                refine AllOps.cons (Does.plain rfl fun lq aq wq hk hr K hK => ?_) ?_
                · have B11 : ev aq (.tmp 11) = .int .i64 0 := hk.base 11 (by kernel_rfl) rfl
                  exact wp_of_value (by go_simp) (hK.out _ _ (Grows.refl _) (fun w2 h2 => rfl) (fun h => absurd h (by decide)))
                refine AllOps.cons (Does.plain rfl fun lq aq wq hk hr K hK => ?_) ?_
                · obtain ⟨v4, E4, -, r4⟩ := hk.dep hr 4 107 (by kernel_rfl) (by kernel_rfl)
                  replace E4 : ev aq (.tmp 107) = .int .i64 ((0)) := E4.trans (r4 wq (Grows.refl wq))
                  obtain ⟨v5, E5, -, r5⟩ := hk.dep hr 5 108 (by kernel_rfl) (by kernel_rfl)
                  replace E5 : ev aq (.tmp 108) = .int .i64 0 := E5.trans (r5 wq (Grows.refl wq))
                  exact wp_of_value (by go_simp) (hK.out _ _ (Grows.refl _) (fun w2 h2 => rfl) (fun h => absurd h (by decide)))
                refine AllOps.cons (Does.plain rfl fun lq aq wq hk hr K hK => ?_) ?_
                · obtain ⟨v6, E6, -, r6⟩ := hk.dep hr 6 109 (by kernel_rfl) (by kernel_rfl)
                  replace E6 : ev aq (.tmp 109) = .bool true := E6.trans (r6 wq (Grows.refl wq))
                  exact wp_of_value (by go_simp) (hK.out _ _ (Grows.refl _) (fun w2 h2 => rfl) (fun h => absurd h (by decide)))
                exact AllOps.nil
              case fin =>
                intro V x5 hG hV hap
                have r7 : (V 7) = .bool true := hV 7 (by decide)
                clear hV hap
                simp only [List.take_succ_cons, List.take_nil, List.drop_succ_cons, List.drop_nil, putAll, Act.put, List.setIfInBounds_toArray, List.set_cons_zero, List.set_cons_succ]
                have hb := (show Below _ _ _ from hG)
                replace Da := Lib.hid (Box2.below Da.out hb)
                replace Sa := Lib.hid (Sa.out.below hb)
                replace Db := Lib.hid (Box2.below Db.out hb)
                replace Sb := Lib.hid (Sb.out.below hb)
                replace Dc := Lib.hid (Box2.below Dc.out hb)
                replace Sc := Lib.hid (Sc.out.below hb)
                replace HB := Lib.hid (HB.out.trans (Below.mono hb HB.out.size))
                clear hb hG
                rw [r7]
                go_wp2_with fail
                go_ret
                exact ⟨rfl, HB.out⟩
            · skip
              have hxy2 : ¬ x < y := by omega
              go_upto_region 14 with fail
              refine wp_region_calm 8 [] ([fun vq _ => vq = .int .i64 x,
                  fun vq wq => ZV wq vq x,
                  fun vq _ => vq = .int .i64 y,
                  fun vq wq => ZV wq vq y,
                  fun vq _ => vq = .int .i64 ((1)),
                  fun vq _ => vq = .int .i64 1,
                  fun vq _ => vq = .bool true,
                  fun vq _ => vq = .bool true]) (by kernel_rfl) (by decide) ?hF ?steps ?fin
              case hF =>
                intro j hj; cases hj
              case steps =>
                refine AllOps.cons (Does.plain rfl fun lq aq wq hk hr K hK => ?_) ?_
                · have B1 : ev aq (.tmp 1) = .int .i64 x := hk.base 1 (by kernel_rfl) rfl
                  exact wp_of_value (by go_simp) (hK.out _ _ (Grows.refl _) (fun w2 h2 => rfl) (fun h => absurd h (by decide)))
                refine AllOps.cons (Does.plain rfl fun lq aq wq hk hr K hK => ?_) ?_
                · obtain ⟨v0, E0, -, r0⟩ := hk.dep hr 0 103 (by kernel_rfl) (by kernel_rfl)
                  replace E0 : ev aq (.tmp 103) = .int .i64 x := E0.trans (r0 wq (Grows.refl wq))
                  refine wp_of_call (f := 31) (vs := #[.int .i64 x]) (by go_simp) (from_v wq x hx1 hx2) ?_
                  rintro e w1 ⟨u, rfl, hu, hb⟩
                  exact ⟨u, rfl, hK.out _ _ hb (fun w2 h2 => (hu).grow h2) (fun h => absurd h (by decide))⟩
                refine AllOps.cons (Does.plain rfl fun lq aq wq hk hr K hK => ?_) ?_
                · have B2 : ev aq (.tmp 2) = .int .i64 y := hk.base 2 (by kernel_rfl) rfl
                  exact wp_of_value (by go_simp) (hK.out _ _ (Grows.refl _) (fun w2 h2 => rfl) (fun h => absurd h (by decide)))
                refine AllOps.cons (Does.plain rfl fun lq aq wq hk hr K hK => ?_) ?_
                · obtain ⟨v2, E2, -, r2⟩ := hk.dep hr 2 105 (by kernel_rfl) (by kernel_rfl)
                  replace E2 : ev aq (.tmp 105) = .int .i64 y := E2.trans (r2 wq (Grows.refl wq))
                  refine wp_of_call (f := 31) (vs := #[.int .i64 y]) (by go_simp) (from_v wq y hy1 hy2) ?_
                  rintro e w1 ⟨u, rfl, hu, hb⟩
                  exact ⟨u, rfl, hK.out _ _ hb (fun w2 h2 => (hu).grow h2) (fun h => absurd h (by decide))⟩
                refine AllOps.cons (Does.plain rfl fun lq aq wq hk hr K hK => ?_) ?_
                · obtain ⟨v1, E1, -, r1⟩ := hk.dep hr 1 104 (by kernel_rfl) (by kernel_rfl)
                  have r1 : ZV wq v1 x := r1 wq (Grows.refl wq)
                  obtain ⟨v3, E3, -, r3⟩ := hk.dep hr 3 106 (by kernel_rfl) (by kernel_rfl)
                  have r3 : ZV wq v3 y := r3 wq (Grows.refl wq)
                  refine wp_of_call (f := 37) (vs := #[v1, v3]) (by go_simp) (cmp_v wq (r1).wv (r3).wv (k := (1)) (Int.sign_eq_one_of_pos (by omega))) ?_
                  rintro e w1 ⟨u, rfl, hu, hb⟩
                  exact ⟨u, rfl, hK.out _ _ hb (fun w2 h2 => hu) (fun h => absurd h (by decide))⟩
                refine AllOps.cons (Does.plain rfl fun lq aq wq hk hr K hK => ?_) ?_
                · have B11 : ev aq (.tmp 11) = .int .i64 1 := hk.base 11 (by kernel_rfl) rfl
                  exact wp_of_value (by go_simp) (hK.out _ _ (Grows.refl _) (fun w2 h2 => rfl) (fun h => absurd h (by decide)))
                refine AllOps.cons (Does.plain rfl fun lq aq wq hk hr K hK => ?_) ?_
                · obtain ⟨v4, E4, -, r4⟩ := hk.dep hr 4 107 (by kernel_rfl) (by kernel_rfl)
                  replace E4 : ev aq (.tmp 107) = .int .i64 ((1)) := E4.trans (r4 wq (Grows.refl wq))
                  obtain ⟨v5, E5, -, r5⟩ := hk.dep hr 5 108 (by kernel_rfl) (by kernel_rfl)
                  replace E5 : ev aq (.tmp 108) = .int .i64 1 := E5.trans (r5 wq (Grows.refl wq))
                  exact wp_of_value (by go_simp) (hK.out _ _ (Grows.refl _) (fun w2 h2 => rfl) (fun h => absurd h (by decide)))
                refine AllOps.cons (Does.plain rfl fun lq aq wq hk hr K hK => ?_) ?_
                · obtain ⟨v6, E6, -, r6⟩ := hk.dep hr 6 109 (by kernel_rfl) (by kernel_rfl)
                  replace E6 : ev aq (.tmp 109) = .bool true := E6.trans (r6 wq (Grows.refl wq))
                  exact wp_of_value (by go_simp) (hK.out _ _ (Grows.refl _) (fun w2 h2 => rfl) (fun h => absurd h (by decide)))
                exact AllOps.nil
              case fin =>
                intro V x5 hG hV hap
                have r7 : (V 7) = .bool true := hV 7 (by decide)
                clear hV hap
                simp only [List.take_succ_cons, List.take_nil, List.drop_succ_cons, List.drop_nil, putAll, Act.put, List.setIfInBounds_toArray, List.set_cons_zero, List.set_cons_succ]
                have hb := (show Below _ _ _ from hG)
                replace Da := Lib.hid (Box2.below Da.out hb)
                replace Sa := Lib.hid (Sa.out.below hb)
                replace Db := Lib.hid (Box2.below Db.out hb)
                replace Sb := Lib.hid (Sb.out.below hb)
                replace Dc := Lib.hid (Box2.below Dc.out hb)
                replace Sc := Lib.hid (Sc.out.below hb)
                replace HB := Lib.hid (HB.out.trans (Below.mono hb HB.out.size))
                clear hb hG
                rw [r7]
                go_wp2_with fail
                go_ret
                exact ⟨rfl, HB.out⟩
        · skip
          rcases zlt_or_ge 0 (Int.sign (b - c)) with h8 | h8
          · skip
            obtain ⟨j, hj⟩ : ∃ j, Int.sign (b - c) = j := ⟨_, rfl⟩
            rw [hj] at h8
            have h8' : ¬ j ≤ 0 := by omega
            refine wp_region_calm 14 [] ([fun vq _ => vq = .int .i64 k,
                fun vq _ => vq = .bool true,
                fun vq _ => vq = .bool true,
                fun vq wq => WV wq vq b,
                fun vq wq => WV wq vq c,
                fun vq _ => vq = .int .i64 j,
                fun vq _ => vq = .bool false,
                fun vq _ => vq = .bool false,
                fun vq _ => vq = .bool false,
                fun vq _ => vq = undef,
                fun vq _ => vq = undef,
                fun vq _ => vq = undef,
                fun vq _ => vq = undef,
                fun vq _ => vq = .bool false]) (by kernel_rfl) (by decide) ?hF ?steps ?fin
            case hF =>
              intro j hj; cases hj
            case steps =>
              refine AllOps.cons (Does.plain rfl fun lq aq wq hk hr K hK => ?_) ?_
              · have B10 : ev aq (.tmp 10) = .int .i64 k := hk.base 10 (by kernel_rfl) rfl
                exact wp_of_value (by go_simp) (hK.out _ _ (Grows.refl _) (fun w2 h2 => rfl) (fun h => absurd h (by decide)))
              refine AllOps.cons (Does.plain rfl fun lq aq wq hk hr K hK => ?_) ?_
              · obtain ⟨v0, E0, -, r0⟩ := hk.dep hr 0 83 (by kernel_rfl) (by kernel_rfl)
                replace E0 : ev aq (.tmp 83) = .int .i64 k := E0.trans (r0 wq (Grows.refl wq))
                exact wp_of_value (by go_simp) (hK.out _ _ (Grows.refl _) (fun w2 h2 => rfl) (fun h => absurd h (by decide)))
              refine AllOps.cons (Does.plain rfl fun lq aq wq hk hr K hK => ?_) ?_
              · obtain ⟨v1, E1, -, r1⟩ := hk.dep hr 1 84 (by kernel_rfl) (by kernel_rfl)
                replace E1 : ev aq (.tmp 84) = .bool true := E1.trans (r1 wq (Grows.refl wq))
                exact wp_of_value (by go_simp) (hK.out _ _ (Grows.refl _) (fun w2 h2 => rfl) (fun h => absurd h (by decide)))
              refine AllOps.cons (Does.lets (g := 2) (d := 85) (t := true) rfl (by kernel_rfl) (by kernel_rfl) (fun vq wq h => h wq (Grows.refl wq)) fun lq aq wq hk hr K hK => ?_) ?_
              · have B8 : ev aq (.tmp 8) = .pointer (some ⟨bb, 0, none⟩) := hk.base 8 (by kernel_rfl) rfl
                have hb : Below _ _ _ := hk.ext
                exact wp_of_value (op_load 8 _ B8 (Box2.below Db.out hb)) (hK.out _ _ (Grows.refl _) (fun w2 h2 => ⟨_, _, _, _, rfl, (Sb.out.below hb).below h2⟩) (fun h => absurd h (by decide)))
              refine AllOps.cons (Does.lets (g := 2) (d := 85) (t := true) rfl (by kernel_rfl) (by kernel_rfl) (fun vq wq h => h wq (Grows.refl wq)) fun lq aq wq hk hr K hK => ?_) ?_
              · have B9 : ev aq (.tmp 9) = .pointer (some ⟨bc, 0, none⟩) := hk.base 9 (by kernel_rfl) rfl
                have hb : Below _ _ _ := hk.ext
                exact wp_of_value (op_load 9 _ B9 (Box2.below Dc.out hb)) (hK.out _ _ (Grows.refl _) (fun w2 h2 => ⟨_, _, _, _, rfl, (Sc.out.below hb).below h2⟩) (fun h => absurd h (by decide)))
              refine AllOps.cons (Does.lets (g := 2) (d := 85) (t := true) rfl (by kernel_rfl) (by kernel_rfl) (fun vq wq h => h wq (Grows.refl wq)) fun lq aq wq hk hr K hK => ?_) ?_
              · obtain ⟨v3, E3, -, r3⟩ := hk.dep hr 3 86 (by kernel_rfl) (by kernel_rfl)
                have r3 : WV wq v3 b := r3 wq (Grows.refl wq)
                obtain ⟨v4, E4, -, r4⟩ := hk.dep hr 4 87 (by kernel_rfl) (by kernel_rfl)
                have r4 : WV wq v4 c := r4 wq (Grows.refl wq)
                refine wp_of_call (f := 37) (vs := #[v3, v4]) (by go_simp) (cmp_v wq r3 r4 (k := j) hj) ?_
                rintro e w1 ⟨u, rfl, hu, hb⟩
                exact ⟨u, rfl, hK.out _ _ hb (fun w2 h2 => hu) (fun h => absurd h (by decide))⟩
              refine AllOps.cons (Does.lets (g := 2) (d := 85) (t := true) rfl (by kernel_rfl) (by kernel_rfl) (fun vq wq h => h wq (Grows.refl wq)) fun lq aq wq hk hr K hK => ?_) ?_
              · obtain ⟨v5, E5, -, r5⟩ := hk.dep hr 5 88 (by kernel_rfl) (by kernel_rfl)
                replace E5 : ev aq (.tmp 88) = .int .i64 j := E5.trans (r5 wq (Grows.refl wq))
                exact wp_of_value (by go_simp) (hK.out _ _ (Grows.refl _) (fun w2 h2 => rfl) (fun h => absurd h (by decide)))
              refine AllOps.cons (Does.plain rfl fun lq aq wq hk hr K hK => ?_) ?_
              · obtain ⟨v2, E2, -, r2⟩ := hk.dep hr 2 85 (by kernel_rfl) (by kernel_rfl)
                replace E2 : ev aq (.tmp 85) = .bool true := E2.trans (r2 wq (Grows.refl wq))
                obtain ⟨v6, E6, -, r6⟩ := hk.dep hr 6 89 (by kernel_rfl) (by kernel_rfl)
                replace E6 : ev aq (.tmp 89) = .bool false := E6.trans (r6 wq (Grows.refl wq))
                exact wp_of_value (by go_simp) (hK.out _ _ (Grows.refl _) (fun w2 h2 => rfl) (fun h => absurd h (by decide)))
              refine AllOps.cons (Does.plain rfl fun lq aq wq hk hr K hK => ?_) ?_
              · obtain ⟨v7, E7, -, r7⟩ := hk.dep hr 7 90 (by kernel_rfl) (by kernel_rfl)
                replace E7 : ev aq (.tmp 90) = .bool false := E7.trans (r7 wq (Grows.refl wq))
                exact wp_of_value (by go_simp) (hK.out _ _ (Grows.refl _) (fun w2 h2 => rfl) (fun h => absurd h (by decide)))
              refine AllOps.cons (Does.bars (g := 8) (d := 91) (t := true) (u := false) rfl (by kernel_rfl) (by kernel_rfl) (fun vq wq h => h wq (Grows.refl wq)) (by decide) (fun _ _ _ => rfl) rfl) ?_
              refine AllOps.cons (Does.bars (g := 8) (d := 91) (t := true) (u := false) rfl (by kernel_rfl) (by kernel_rfl) (fun vq wq h => h wq (Grows.refl wq)) (by decide) (fun _ _ _ => rfl) rfl) ?_
              refine AllOps.cons (Does.bars (g := 8) (d := 91) (t := true) (u := false) rfl (by kernel_rfl) (by kernel_rfl) (fun vq wq h => h wq (Grows.refl wq)) (by decide) (fun _ _ _ => rfl) rfl) ?_
              refine AllOps.cons (Does.bars (g := 8) (d := 91) (t := true) (u := false) rfl (by kernel_rfl) (by kernel_rfl) (fun vq wq h => h wq (Grows.refl wq)) (by decide) (fun _ _ _ => rfl) rfl) ?_
              refine AllOps.cons (Does.plain rfl fun lq aq wq hk hr K hK => ?_) ?_
              · obtain ⟨v8, E8, -, r8⟩ := hk.dep hr 8 91 (by kernel_rfl) (by kernel_rfl)
                replace E8 : ev aq (.tmp 91) = .bool false := E8.trans (r8 wq (Grows.refl wq))
                exact wp_of_value (by go_simp) (hK.out _ _ (Grows.refl _) (fun w2 h2 => rfl) (fun h => absurd h (by decide)))
              exact AllOps.nil
            case fin =>
              intro V x4 hG hV hap
              have r13 : (V 13) = .bool false := hV 13 (by decide)
              clear hV hap
              simp only [List.take_succ_cons, List.take_nil, List.drop_succ_cons, List.drop_nil, putAll, Act.put, List.setIfInBounds_toArray, List.set_cons_zero, List.set_cons_succ]
              have hb := (show Below _ _ _ from hG)
              replace Da := Lib.hid (Box2.below Da.out hb)
              replace Sa := Lib.hid (Sa.out.below hb)
              replace Db := Lib.hid (Box2.below Db.out hb)
              replace Sb := Lib.hid (Sb.out.below hb)
              replace Dc := Lib.hid (Box2.below Dc.out hb)
              replace Sc := Lib.hid (Sc.out.below hb)
              replace HB := Lib.hid (HB.out.trans (Below.mono hb HB.out.size))
              clear hb hG
              have r14 := r13
              clear r13
              rw [r14]
              clear r14
              rcases Int.lt_trichotomy x y with hxy | hxy | hxy
              · skip
                have hxy2 : ¬ y < x := by omega
                go_upto_region 14 with fail
                refine wp_region_calm 8 [] ([fun vq _ => vq = .int .i64 x,
                    fun vq wq => ZV wq vq x,
                    fun vq _ => vq = .int .i64 y,
                    fun vq wq => ZV wq vq y,
                    fun vq _ => vq = .int .i64 ((-1)),
                    fun vq _ => vq = .int .i64 (-1),
                    fun vq _ => vq = .bool true,
                    fun vq _ => vq = .bool true]) (by kernel_rfl) (by decide) ?hF ?steps ?fin
                case hF =>
                  intro j hj; cases hj
                case steps =>
                  refine AllOps.cons (Does.plain rfl fun lq aq wq hk hr K hK => ?_) ?_
                  · have B1 : ev aq (.tmp 1) = .int .i64 x := hk.base 1 (by kernel_rfl) rfl
                    exact wp_of_value (by go_simp) (hK.out _ _ (Grows.refl _) (fun w2 h2 => rfl) (fun h => absurd h (by decide)))
                  refine AllOps.cons (Does.plain rfl fun lq aq wq hk hr K hK => ?_) ?_
                  · obtain ⟨v0, E0, -, r0⟩ := hk.dep hr 0 103 (by kernel_rfl) (by kernel_rfl)
                    replace E0 : ev aq (.tmp 103) = .int .i64 x := E0.trans (r0 wq (Grows.refl wq))
                    refine wp_of_call (f := 31) (vs := #[.int .i64 x]) (by go_simp) (from_v wq x hx1 hx2) ?_
                    rintro e w1 ⟨u, rfl, hu, hb⟩
                    exact ⟨u, rfl, hK.out _ _ hb (fun w2 h2 => (hu).grow h2) (fun h => absurd h (by decide))⟩
                  refine AllOps.cons (Does.plain rfl fun lq aq wq hk hr K hK => ?_) ?_
                  · have B2 : ev aq (.tmp 2) = .int .i64 y := hk.base 2 (by kernel_rfl) rfl
                    exact wp_of_value (by go_simp) (hK.out _ _ (Grows.refl _) (fun w2 h2 => rfl) (fun h => absurd h (by decide)))
                  refine AllOps.cons (Does.plain rfl fun lq aq wq hk hr K hK => ?_) ?_
                  · obtain ⟨v2, E2, -, r2⟩ := hk.dep hr 2 105 (by kernel_rfl) (by kernel_rfl)
                    replace E2 : ev aq (.tmp 105) = .int .i64 y := E2.trans (r2 wq (Grows.refl wq))
                    refine wp_of_call (f := 31) (vs := #[.int .i64 y]) (by go_simp) (from_v wq y hy1 hy2) ?_
                    rintro e w1 ⟨u, rfl, hu, hb⟩
                    exact ⟨u, rfl, hK.out _ _ hb (fun w2 h2 => (hu).grow h2) (fun h => absurd h (by decide))⟩
                  refine AllOps.cons (Does.plain rfl fun lq aq wq hk hr K hK => ?_) ?_
                  · obtain ⟨v1, E1, -, r1⟩ := hk.dep hr 1 104 (by kernel_rfl) (by kernel_rfl)
                    have r1 : ZV wq v1 x := r1 wq (Grows.refl wq)
                    obtain ⟨v3, E3, -, r3⟩ := hk.dep hr 3 106 (by kernel_rfl) (by kernel_rfl)
                    have r3 : ZV wq v3 y := r3 wq (Grows.refl wq)
                    refine wp_of_call (f := 37) (vs := #[v1, v3]) (by go_simp) (cmp_v wq (r1).wv (r3).wv (k := (-1)) (Int.sign_eq_neg_one_of_neg (by omega))) ?_
                    rintro e w1 ⟨u, rfl, hu, hb⟩
                    exact ⟨u, rfl, hK.out _ _ hb (fun w2 h2 => hu) (fun h => absurd h (by decide))⟩
                  refine AllOps.cons (Does.plain rfl fun lq aq wq hk hr K hK => ?_) ?_
                  · have B11 : ev aq (.tmp 11) = .int .i64 (-1) := hk.base 11 (by kernel_rfl) rfl
                    exact wp_of_value (by go_simp) (hK.out _ _ (Grows.refl _) (fun w2 h2 => rfl) (fun h => absurd h (by decide)))
                  refine AllOps.cons (Does.plain rfl fun lq aq wq hk hr K hK => ?_) ?_
                  · obtain ⟨v4, E4, -, r4⟩ := hk.dep hr 4 107 (by kernel_rfl) (by kernel_rfl)
                    replace E4 : ev aq (.tmp 107) = .int .i64 ((-1)) := E4.trans (r4 wq (Grows.refl wq))
                    obtain ⟨v5, E5, -, r5⟩ := hk.dep hr 5 108 (by kernel_rfl) (by kernel_rfl)
                    replace E5 : ev aq (.tmp 108) = .int .i64 (-1) := E5.trans (r5 wq (Grows.refl wq))
                    exact wp_of_value (by go_simp) (hK.out _ _ (Grows.refl _) (fun w2 h2 => rfl) (fun h => absurd h (by decide)))
                  refine AllOps.cons (Does.plain rfl fun lq aq wq hk hr K hK => ?_) ?_
                  · obtain ⟨v6, E6, -, r6⟩ := hk.dep hr 6 109 (by kernel_rfl) (by kernel_rfl)
                    replace E6 : ev aq (.tmp 109) = .bool true := E6.trans (r6 wq (Grows.refl wq))
                    exact wp_of_value (by go_simp) (hK.out _ _ (Grows.refl _) (fun w2 h2 => rfl) (fun h => absurd h (by decide)))
                  exact AllOps.nil
                case fin =>
                  intro V x5 hG hV hap
                  have r7 : (V 7) = .bool true := hV 7 (by decide)
                  clear hV hap
                  simp only [List.take_succ_cons, List.take_nil, List.drop_succ_cons, List.drop_nil, putAll, Act.put, List.setIfInBounds_toArray, List.set_cons_zero, List.set_cons_succ]
                  have hb := (show Below _ _ _ from hG)
                  replace Da := Lib.hid (Box2.below Da.out hb)
                  replace Sa := Lib.hid (Sa.out.below hb)
                  replace Db := Lib.hid (Box2.below Db.out hb)
                  replace Sb := Lib.hid (Sb.out.below hb)
                  replace Dc := Lib.hid (Box2.below Dc.out hb)
                  replace Sc := Lib.hid (Sc.out.below hb)
                  replace HB := Lib.hid (HB.out.trans (Below.mono hb HB.out.size))
                  clear hb hG
                  rw [r7]
                  go_wp2_with fail
                  go_ret
                  exact ⟨rfl, HB.out⟩
              · skip
                subst hxy
                have hxy : ¬ x < x := by omega
                go_upto_region 14 with fail
                refine wp_region_calm 8 [] ([fun vq _ => vq = .int .i64 x,
                    fun vq wq => ZV wq vq x,
                    fun vq _ => vq = .int .i64 x,
                    fun vq wq => ZV wq vq x,
                    fun vq _ => vq = .int .i64 ((0)),
                    fun vq _ => vq = .int .i64 0,
                    fun vq _ => vq = .bool true,
                    fun vq _ => vq = .bool true]) (by kernel_rfl) (by decide) ?hF ?steps ?fin
                case hF =>
                  intro j hj; cases hj
                case steps =>
                  refine AllOps.cons (Does.plain rfl fun lq aq wq hk hr K hK => ?_) ?_
                  · have B1 : ev aq (.tmp 1) = .int .i64 x := hk.base 1 (by kernel_rfl) rfl
                    exact wp_of_value (by go_simp) (hK.out _ _ (Grows.refl _) (fun w2 h2 => rfl) (fun h => absurd h (by decide)))
                  refine AllOps.cons (Does.plain rfl fun lq aq wq hk hr K hK => ?_) ?_
                  · obtain ⟨v0, E0, -, r0⟩ := hk.dep hr 0 103 (by kernel_rfl) (by kernel_rfl)
                    replace E0 : ev aq (.tmp 103) = .int .i64 x := E0.trans (r0 wq (Grows.refl wq))
                    refine wp_of_call (f := 31) (vs := #[.int .i64 x]) (by go_simp) (from_v wq x hx1 hx2) ?_
                    rintro e w1 ⟨u, rfl, hu, hb⟩
                    exact ⟨u, rfl, hK.out _ _ hb (fun w2 h2 => (hu).grow h2) (fun h => absurd h (by decide))⟩
                  refine AllOps.cons (Does.plain rfl fun lq aq wq hk hr K hK => ?_) ?_
                  · have B2 : ev aq (.tmp 2) = .int .i64 x := hk.base 2 (by kernel_rfl) rfl
                    exact wp_of_value (by go_simp) (hK.out _ _ (Grows.refl _) (fun w2 h2 => rfl) (fun h => absurd h (by decide)))
                  refine AllOps.cons (Does.plain rfl fun lq aq wq hk hr K hK => ?_) ?_
                  · obtain ⟨v2, E2, -, r2⟩ := hk.dep hr 2 105 (by kernel_rfl) (by kernel_rfl)
                    replace E2 : ev aq (.tmp 105) = .int .i64 x := E2.trans (r2 wq (Grows.refl wq))
                    refine wp_of_call (f := 31) (vs := #[.int .i64 x]) (by go_simp) (from_v wq x hx1 hx2) ?_
                    rintro e w1 ⟨u, rfl, hu, hb⟩
                    exact ⟨u, rfl, hK.out _ _ hb (fun w2 h2 => (hu).grow h2) (fun h => absurd h (by decide))⟩
                  refine AllOps.cons (Does.plain rfl fun lq aq wq hk hr K hK => ?_) ?_
                  · obtain ⟨v1, E1, -, r1⟩ := hk.dep hr 1 104 (by kernel_rfl) (by kernel_rfl)
                    have r1 : ZV wq v1 x := r1 wq (Grows.refl wq)
                    obtain ⟨v3, E3, -, r3⟩ := hk.dep hr 3 106 (by kernel_rfl) (by kernel_rfl)
                    have r3 : ZV wq v3 x := r3 wq (Grows.refl wq)
                    refine wp_of_call (f := 37) (vs := #[v1, v3]) (by go_simp) (cmp_v wq (r1).wv (r3).wv (k := (0)) (by simp)) ?_
                    rintro e w1 ⟨u, rfl, hu, hb⟩
                    exact ⟨u, rfl, hK.out _ _ hb (fun w2 h2 => hu) (fun h => absurd h (by decide))⟩
                  refine AllOps.cons (Does.plain rfl fun lq aq wq hk hr K hK => ?_) ?_
                  · have B11 : ev aq (.tmp 11) = .int .i64 0 := hk.base 11 (by kernel_rfl) rfl
                    exact wp_of_value (by go_simp) (hK.out _ _ (Grows.refl _) (fun w2 h2 => rfl) (fun h => absurd h (by decide)))
                  refine AllOps.cons (Does.plain rfl fun lq aq wq hk hr K hK => ?_) ?_
                  · obtain ⟨v4, E4, -, r4⟩ := hk.dep hr 4 107 (by kernel_rfl) (by kernel_rfl)
                    replace E4 : ev aq (.tmp 107) = .int .i64 ((0)) := E4.trans (r4 wq (Grows.refl wq))
                    obtain ⟨v5, E5, -, r5⟩ := hk.dep hr 5 108 (by kernel_rfl) (by kernel_rfl)
                    replace E5 : ev aq (.tmp 108) = .int .i64 0 := E5.trans (r5 wq (Grows.refl wq))
                    exact wp_of_value (by go_simp) (hK.out _ _ (Grows.refl _) (fun w2 h2 => rfl) (fun h => absurd h (by decide)))
                  refine AllOps.cons (Does.plain rfl fun lq aq wq hk hr K hK => ?_) ?_
                  · obtain ⟨v6, E6, -, r6⟩ := hk.dep hr 6 109 (by kernel_rfl) (by kernel_rfl)
                    replace E6 : ev aq (.tmp 109) = .bool true := E6.trans (r6 wq (Grows.refl wq))
                    exact wp_of_value (by go_simp) (hK.out _ _ (Grows.refl _) (fun w2 h2 => rfl) (fun h => absurd h (by decide)))
                  exact AllOps.nil
                case fin =>
                  intro V x5 hG hV hap
                  have r7 : (V 7) = .bool true := hV 7 (by decide)
                  clear hV hap
                  simp only [List.take_succ_cons, List.take_nil, List.drop_succ_cons, List.drop_nil, putAll, Act.put, List.setIfInBounds_toArray, List.set_cons_zero, List.set_cons_succ]
                  have hb := (show Below _ _ _ from hG)
                  replace Da := Lib.hid (Box2.below Da.out hb)
                  replace Sa := Lib.hid (Sa.out.below hb)
                  replace Db := Lib.hid (Box2.below Db.out hb)
                  replace Sb := Lib.hid (Sb.out.below hb)
                  replace Dc := Lib.hid (Box2.below Dc.out hb)
                  replace Sc := Lib.hid (Sc.out.below hb)
                  replace HB := Lib.hid (HB.out.trans (Below.mono hb HB.out.size))
                  clear hb hG
                  rw [r7]
                  go_wp2_with fail
                  go_ret
                  exact ⟨rfl, HB.out⟩
              · skip
                have hxy2 : ¬ x < y := by omega
                go_upto_region 14 with fail
                refine wp_region_calm 8 [] ([fun vq _ => vq = .int .i64 x,
                    fun vq wq => ZV wq vq x,
                    fun vq _ => vq = .int .i64 y,
                    fun vq wq => ZV wq vq y,
                    fun vq _ => vq = .int .i64 ((1)),
                    fun vq _ => vq = .int .i64 1,
                    fun vq _ => vq = .bool true,
                    fun vq _ => vq = .bool true]) (by kernel_rfl) (by decide) ?hF ?steps ?fin
                case hF =>
                  intro j hj; cases hj
                case steps =>
                  refine AllOps.cons (Does.plain rfl fun lq aq wq hk hr K hK => ?_) ?_
                  · have B1 : ev aq (.tmp 1) = .int .i64 x := hk.base 1 (by kernel_rfl) rfl
                    exact wp_of_value (by go_simp) (hK.out _ _ (Grows.refl _) (fun w2 h2 => rfl) (fun h => absurd h (by decide)))
                  refine AllOps.cons (Does.plain rfl fun lq aq wq hk hr K hK => ?_) ?_
                  · obtain ⟨v0, E0, -, r0⟩ := hk.dep hr 0 103 (by kernel_rfl) (by kernel_rfl)
                    replace E0 : ev aq (.tmp 103) = .int .i64 x := E0.trans (r0 wq (Grows.refl wq))
                    refine wp_of_call (f := 31) (vs := #[.int .i64 x]) (by go_simp) (from_v wq x hx1 hx2) ?_
                    rintro e w1 ⟨u, rfl, hu, hb⟩
                    exact ⟨u, rfl, hK.out _ _ hb (fun w2 h2 => (hu).grow h2) (fun h => absurd h (by decide))⟩
                  refine AllOps.cons (Does.plain rfl fun lq aq wq hk hr K hK => ?_) ?_
                  · have B2 : ev aq (.tmp 2) = .int .i64 y := hk.base 2 (by kernel_rfl) rfl
                    exact wp_of_value (by go_simp) (hK.out _ _ (Grows.refl _) (fun w2 h2 => rfl) (fun h => absurd h (by decide)))
                  refine AllOps.cons (Does.plain rfl fun lq aq wq hk hr K hK => ?_) ?_
                  · obtain ⟨v2, E2, -, r2⟩ := hk.dep hr 2 105 (by kernel_rfl) (by kernel_rfl)
                    replace E2 : ev aq (.tmp 105) = .int .i64 y := E2.trans (r2 wq (Grows.refl wq))
                    refine wp_of_call (f := 31) (vs := #[.int .i64 y]) (by go_simp) (from_v wq y hy1 hy2) ?_
                    rintro e w1 ⟨u, rfl, hu, hb⟩
                    exact ⟨u, rfl, hK.out _ _ hb (fun w2 h2 => (hu).grow h2) (fun h => absurd h (by decide))⟩
                  refine AllOps.cons (Does.plain rfl fun lq aq wq hk hr K hK => ?_) ?_
                  · obtain ⟨v1, E1, -, r1⟩ := hk.dep hr 1 104 (by kernel_rfl) (by kernel_rfl)
                    have r1 : ZV wq v1 x := r1 wq (Grows.refl wq)
                    obtain ⟨v3, E3, -, r3⟩ := hk.dep hr 3 106 (by kernel_rfl) (by kernel_rfl)
                    have r3 : ZV wq v3 y := r3 wq (Grows.refl wq)
                    refine wp_of_call (f := 37) (vs := #[v1, v3]) (by go_simp) (cmp_v wq (r1).wv (r3).wv (k := (1)) (Int.sign_eq_one_of_pos (by omega))) ?_
                    rintro e w1 ⟨u, rfl, hu, hb⟩
                    exact ⟨u, rfl, hK.out _ _ hb (fun w2 h2 => hu) (fun h => absurd h (by decide))⟩
                  refine AllOps.cons (Does.plain rfl fun lq aq wq hk hr K hK => ?_) ?_
                  · have B11 : ev aq (.tmp 11) = .int .i64 1 := hk.base 11 (by kernel_rfl) rfl
                    exact wp_of_value (by go_simp) (hK.out _ _ (Grows.refl _) (fun w2 h2 => rfl) (fun h => absurd h (by decide)))
                  refine AllOps.cons (Does.plain rfl fun lq aq wq hk hr K hK => ?_) ?_
                  · obtain ⟨v4, E4, -, r4⟩ := hk.dep hr 4 107 (by kernel_rfl) (by kernel_rfl)
                    replace E4 : ev aq (.tmp 107) = .int .i64 ((1)) := E4.trans (r4 wq (Grows.refl wq))
                    obtain ⟨v5, E5, -, r5⟩ := hk.dep hr 5 108 (by kernel_rfl) (by kernel_rfl)
                    replace E5 : ev aq (.tmp 108) = .int .i64 1 := E5.trans (r5 wq (Grows.refl wq))
                    exact wp_of_value (by go_simp) (hK.out _ _ (Grows.refl _) (fun w2 h2 => rfl) (fun h => absurd h (by decide)))
                  refine AllOps.cons (Does.plain rfl fun lq aq wq hk hr K hK => ?_) ?_
                  · obtain ⟨v6, E6, -, r6⟩ := hk.dep hr 6 109 (by kernel_rfl) (by kernel_rfl)
                    replace E6 : ev aq (.tmp 109) = .bool true := E6.trans (r6 wq (Grows.refl wq))
                    exact wp_of_value (by go_simp) (hK.out _ _ (Grows.refl _) (fun w2 h2 => rfl) (fun h => absurd h (by decide)))
                  exact AllOps.nil
                case fin =>
                  intro V x5 hG hV hap
                  have r7 : (V 7) = .bool true := hV 7 (by decide)
                  clear hV hap
                  simp only [List.take_succ_cons, List.take_nil, List.drop_succ_cons, List.drop_nil, putAll, Act.put, List.setIfInBounds_toArray, List.set_cons_zero, List.set_cons_succ]
                  have hb := (show Below _ _ _ from hG)
                  replace Da := Lib.hid (Box2.below Da.out hb)
                  replace Sa := Lib.hid (Sa.out.below hb)
                  replace Db := Lib.hid (Box2.below Db.out hb)
                  replace Sb := Lib.hid (Sb.out.below hb)
                  replace Dc := Lib.hid (Box2.below Dc.out hb)
                  replace Sc := Lib.hid (Sc.out.below hb)
                  replace HB := Lib.hid (HB.out.trans (Below.mono hb HB.out.size))
                  clear hb hG
                  rw [r7]
                  go_wp2_with fail
                  go_ret
                  exact ⟨rfl, HB.out⟩
          · skip
            obtain ⟨j, hj⟩ : ∃ j, Int.sign (b - c) = j := ⟨_, rfl⟩
            obtain ⟨i, hi⟩ : ∃ i, Int.sign (a - c) = i := ⟨_, rfl⟩
            have h9 : i ≤ 0 := by
              have e1 : a - b ≤ 0 := by rcases zlt_or_ge 0 (a - b) with h | h; · rw [Int.sign_eq_one_of_pos h] at hsg; omega
                                        · exact h
              have e2 : b - c ≤ 0 := by rcases zlt_or_ge 0 (b - c) with h | h; · rw [Int.sign_eq_one_of_pos h] at h8; omega
                                        · exact h
              rw [← hi]
              rcases zlt_or_ge (a - c) 0 with h | h
              · rw [Int.sign_eq_neg_one_of_neg h]; decide
              · rw [show a - c = 0 by omega]; decide
            rw [hj] at h8
            refine wp_region_calm 14 [] ([fun vq _ => vq = .int .i64 k,
                fun vq _ => vq = .bool true,
                fun vq _ => vq = .bool true,
                fun vq wq => WV wq vq b,
                fun vq wq => WV wq vq c,
                fun vq _ => vq = .int .i64 j,
                fun vq _ => vq = .bool true,
                fun vq _ => vq = .bool true,
                fun vq _ => vq = .bool true,
                fun vq wq => WV wq vq a,
                fun vq wq => WV wq vq c,
                fun vq _ => vq = .int .i64 i,
                fun vq _ => vq = .bool false,
                fun vq _ => vq = .bool false]) (by kernel_rfl) (by decide) ?hF ?steps ?fin
            case hF =>
              intro j hj; cases hj
            case steps =>
              refine AllOps.cons (Does.plain rfl fun lq aq wq hk hr K hK => ?_) ?_
              · have B10 : ev aq (.tmp 10) = .int .i64 k := hk.base 10 (by kernel_rfl) rfl
                exact wp_of_value (by go_simp) (hK.out _ _ (Grows.refl _) (fun w2 h2 => rfl) (fun h => absurd h (by decide)))
              refine AllOps.cons (Does.plain rfl fun lq aq wq hk hr K hK => ?_) ?_
              · obtain ⟨v0, E0, -, r0⟩ := hk.dep hr 0 83 (by kernel_rfl) (by kernel_rfl)
                replace E0 : ev aq (.tmp 83) = .int .i64 k := E0.trans (r0 wq (Grows.refl wq))
                exact wp_of_value (by go_simp) (hK.out _ _ (Grows.refl _) (fun w2 h2 => rfl) (fun h => absurd h (by decide)))
              refine AllOps.cons (Does.plain rfl fun lq aq wq hk hr K hK => ?_) ?_
              · obtain ⟨v1, E1, -, r1⟩ := hk.dep hr 1 84 (by kernel_rfl) (by kernel_rfl)
                replace E1 : ev aq (.tmp 84) = .bool true := E1.trans (r1 wq (Grows.refl wq))
                exact wp_of_value (by go_simp) (hK.out _ _ (Grows.refl _) (fun w2 h2 => rfl) (fun h => absurd h (by decide)))
              refine AllOps.cons (Does.lets (g := 2) (d := 85) (t := true) rfl (by kernel_rfl) (by kernel_rfl) (fun vq wq h => h wq (Grows.refl wq)) fun lq aq wq hk hr K hK => ?_) ?_
              · have B8 : ev aq (.tmp 8) = .pointer (some ⟨bb, 0, none⟩) := hk.base 8 (by kernel_rfl) rfl
                have hb : Below _ _ _ := hk.ext
                exact wp_of_value (op_load 8 _ B8 (Box2.below Db.out hb)) (hK.out _ _ (Grows.refl _) (fun w2 h2 => ⟨_, _, _, _, rfl, (Sb.out.below hb).below h2⟩) (fun h => absurd h (by decide)))
              refine AllOps.cons (Does.lets (g := 2) (d := 85) (t := true) rfl (by kernel_rfl) (by kernel_rfl) (fun vq wq h => h wq (Grows.refl wq)) fun lq aq wq hk hr K hK => ?_) ?_
              · have B9 : ev aq (.tmp 9) = .pointer (some ⟨bc, 0, none⟩) := hk.base 9 (by kernel_rfl) rfl
                have hb : Below _ _ _ := hk.ext
                exact wp_of_value (op_load 9 _ B9 (Box2.below Dc.out hb)) (hK.out _ _ (Grows.refl _) (fun w2 h2 => ⟨_, _, _, _, rfl, (Sc.out.below hb).below h2⟩) (fun h => absurd h (by decide)))
              refine AllOps.cons (Does.lets (g := 2) (d := 85) (t := true) rfl (by kernel_rfl) (by kernel_rfl) (fun vq wq h => h wq (Grows.refl wq)) fun lq aq wq hk hr K hK => ?_) ?_
              · obtain ⟨v3, E3, -, r3⟩ := hk.dep hr 3 86 (by kernel_rfl) (by kernel_rfl)
                have r3 : WV wq v3 b := r3 wq (Grows.refl wq)
                obtain ⟨v4, E4, -, r4⟩ := hk.dep hr 4 87 (by kernel_rfl) (by kernel_rfl)
                have r4 : WV wq v4 c := r4 wq (Grows.refl wq)
                refine wp_of_call (f := 37) (vs := #[v3, v4]) (by go_simp) (cmp_v wq r3 r4 (k := j) hj) ?_
                rintro e w1 ⟨u, rfl, hu, hb⟩
                exact ⟨u, rfl, hK.out _ _ hb (fun w2 h2 => hu) (fun h => absurd h (by decide))⟩
              refine AllOps.cons (Does.lets (g := 2) (d := 85) (t := true) rfl (by kernel_rfl) (by kernel_rfl) (fun vq wq h => h wq (Grows.refl wq)) fun lq aq wq hk hr K hK => ?_) ?_
              · obtain ⟨v5, E5, -, r5⟩ := hk.dep hr 5 88 (by kernel_rfl) (by kernel_rfl)
                replace E5 : ev aq (.tmp 88) = .int .i64 j := E5.trans (r5 wq (Grows.refl wq))
                exact wp_of_value (by go_simp) (hK.out _ _ (Grows.refl _) (fun w2 h2 => rfl) (fun h => absurd h (by decide)))
              refine AllOps.cons (Does.plain rfl fun lq aq wq hk hr K hK => ?_) ?_
              · obtain ⟨v2, E2, -, r2⟩ := hk.dep hr 2 85 (by kernel_rfl) (by kernel_rfl)
                replace E2 : ev aq (.tmp 85) = .bool true := E2.trans (r2 wq (Grows.refl wq))
                obtain ⟨v6, E6, -, r6⟩ := hk.dep hr 6 89 (by kernel_rfl) (by kernel_rfl)
                replace E6 : ev aq (.tmp 89) = .bool true := E6.trans (r6 wq (Grows.refl wq))
                exact wp_of_value (by go_simp) (hK.out _ _ (Grows.refl _) (fun w2 h2 => rfl) (fun h => absurd h (by decide)))
              refine AllOps.cons (Does.plain rfl fun lq aq wq hk hr K hK => ?_) ?_
              · obtain ⟨v7, E7, -, r7⟩ := hk.dep hr 7 90 (by kernel_rfl) (by kernel_rfl)
                replace E7 : ev aq (.tmp 90) = .bool true := E7.trans (r7 wq (Grows.refl wq))
                exact wp_of_value (by go_simp) (hK.out _ _ (Grows.refl _) (fun w2 h2 => rfl) (fun h => absurd h (by decide)))
              refine AllOps.cons (Does.lets (g := 8) (d := 91) (t := true) rfl (by kernel_rfl) (by kernel_rfl) (fun vq wq h => h wq (Grows.refl wq)) fun lq aq wq hk hr K hK => ?_) ?_
              · have B7 : ev aq (.tmp 7) = .pointer (some ⟨ba, 0, none⟩) := hk.base 7 (by kernel_rfl) rfl
                have hb : Below _ _ _ := hk.ext
                exact wp_of_value (op_load 7 _ B7 (Box2.below Da.out hb)) (hK.out _ _ (Grows.refl _) (fun w2 h2 => ⟨_, _, _, _, rfl, (Sa.out.below hb).below h2⟩) (fun h => absurd h (by decide)))
              refine AllOps.cons (Does.lets (g := 8) (d := 91) (t := true) rfl (by kernel_rfl) (by kernel_rfl) (fun vq wq h => h wq (Grows.refl wq)) fun lq aq wq hk hr K hK => ?_) ?_
              · have B9 : ev aq (.tmp 9) = .pointer (some ⟨bc, 0, none⟩) := hk.base 9 (by kernel_rfl) rfl
                have hb : Below _ _ _ := hk.ext
                exact wp_of_value (op_load 9 _ B9 (Box2.below Dc.out hb)) (hK.out _ _ (Grows.refl _) (fun w2 h2 => ⟨_, _, _, _, rfl, (Sc.out.below hb).below h2⟩) (fun h => absurd h (by decide)))
              refine AllOps.cons (Does.lets (g := 8) (d := 91) (t := true) rfl (by kernel_rfl) (by kernel_rfl) (fun vq wq h => h wq (Grows.refl wq)) fun lq aq wq hk hr K hK => ?_) ?_
              · obtain ⟨v9, E9, -, r9⟩ := hk.dep hr 9 92 (by kernel_rfl) (by kernel_rfl)
                have r9 : WV wq v9 a := r9 wq (Grows.refl wq)
                obtain ⟨v10, E10, -, r10⟩ := hk.dep hr 10 93 (by kernel_rfl) (by kernel_rfl)
                have r10 : WV wq v10 c := r10 wq (Grows.refl wq)
                refine wp_of_call (f := 37) (vs := #[v9, v10]) (by go_simp) (cmp_v wq r9 r10 (k := i) hi) ?_
                rintro e w1 ⟨u, rfl, hu, hb⟩
                exact ⟨u, rfl, hK.out _ _ hb (fun w2 h2 => hu) (fun h => absurd h (by decide))⟩
              refine AllOps.cons (Does.lets (g := 8) (d := 91) (t := true) rfl (by kernel_rfl) (by kernel_rfl) (fun vq wq h => h wq (Grows.refl wq)) fun lq aq wq hk hr K hK => ?_) ?_
              · obtain ⟨v11, E11, -, r11⟩ := hk.dep hr 11 94 (by kernel_rfl) (by kernel_rfl)
                replace E11 : ev aq (.tmp 94) = .int .i64 i := E11.trans (r11 wq (Grows.refl wq))
                exact wp_of_value (by go_simp) (hK.out _ _ (Grows.refl _) (fun w2 h2 => rfl) (fun h => absurd h (by decide)))
              refine AllOps.cons (Does.plain rfl fun lq aq wq hk hr K hK => ?_) ?_
              · obtain ⟨v8, E8, -, r8⟩ := hk.dep hr 8 91 (by kernel_rfl) (by kernel_rfl)
                replace E8 : ev aq (.tmp 91) = .bool true := E8.trans (r8 wq (Grows.refl wq))
                obtain ⟨v12, E12, -, r12⟩ := hk.dep hr 12 95 (by kernel_rfl) (by kernel_rfl)
                replace E12 : ev aq (.tmp 95) = .bool false := E12.trans (r12 wq (Grows.refl wq))
                exact wp_of_value (by go_simp) (hK.out _ _ (Grows.refl _) (fun w2 h2 => rfl) (fun h => absurd h (by decide)))
              exact AllOps.nil
            case fin =>
              intro V x4 hG hV hap
              have r13 : (V 13) = .bool false := hV 13 (by decide)
              clear hV hap
              simp only [List.take_succ_cons, List.take_nil, List.drop_succ_cons, List.drop_nil, putAll, Act.put, List.setIfInBounds_toArray, List.set_cons_zero, List.set_cons_succ]
              have hb := (show Below _ _ _ from hG)
              replace Da := Lib.hid (Box2.below Da.out hb)
              replace Sa := Lib.hid (Sa.out.below hb)
              replace Db := Lib.hid (Box2.below Db.out hb)
              replace Sb := Lib.hid (Sb.out.below hb)
              replace Dc := Lib.hid (Box2.below Dc.out hb)
              replace Sc := Lib.hid (Sc.out.below hb)
              replace HB := Lib.hid (HB.out.trans (Below.mono hb HB.out.size))
              clear hb hG
              have r14 := r13
              clear r13
              rw [r14]
              clear r14
              rcases Int.lt_trichotomy x y with hxy | hxy | hxy
              · skip
                have hxy2 : ¬ y < x := by omega
                go_upto_region 14 with fail
                refine wp_region_calm 8 [] ([fun vq _ => vq = .int .i64 x,
                    fun vq wq => ZV wq vq x,
                    fun vq _ => vq = .int .i64 y,
                    fun vq wq => ZV wq vq y,
                    fun vq _ => vq = .int .i64 ((-1)),
                    fun vq _ => vq = .int .i64 (-1),
                    fun vq _ => vq = .bool true,
                    fun vq _ => vq = .bool true]) (by kernel_rfl) (by decide) ?hF ?steps ?fin
                case hF =>
                  intro j hj; cases hj
                case steps =>
                  refine AllOps.cons (Does.plain rfl fun lq aq wq hk hr K hK => ?_) ?_
                  · have B1 : ev aq (.tmp 1) = .int .i64 x := hk.base 1 (by kernel_rfl) rfl
                    exact wp_of_value (by go_simp) (hK.out _ _ (Grows.refl _) (fun w2 h2 => rfl) (fun h => absurd h (by decide)))
                  refine AllOps.cons (Does.plain rfl fun lq aq wq hk hr K hK => ?_) ?_
                  · obtain ⟨v0, E0, -, r0⟩ := hk.dep hr 0 103 (by kernel_rfl) (by kernel_rfl)
                    replace E0 : ev aq (.tmp 103) = .int .i64 x := E0.trans (r0 wq (Grows.refl wq))
                    refine wp_of_call (f := 31) (vs := #[.int .i64 x]) (by go_simp) (from_v wq x hx1 hx2) ?_
                    rintro e w1 ⟨u, rfl, hu, hb⟩
                    exact ⟨u, rfl, hK.out _ _ hb (fun w2 h2 => (hu).grow h2) (fun h => absurd h (by decide))⟩
                  refine AllOps.cons (Does.plain rfl fun lq aq wq hk hr K hK => ?_) ?_
                  · have B2 : ev aq (.tmp 2) = .int .i64 y := hk.base 2 (by kernel_rfl) rfl
                    exact wp_of_value (by go_simp) (hK.out _ _ (Grows.refl _) (fun w2 h2 => rfl) (fun h => absurd h (by decide)))
                  refine AllOps.cons (Does.plain rfl fun lq aq wq hk hr K hK => ?_) ?_
                  · obtain ⟨v2, E2, -, r2⟩ := hk.dep hr 2 105 (by kernel_rfl) (by kernel_rfl)
                    replace E2 : ev aq (.tmp 105) = .int .i64 y := E2.trans (r2 wq (Grows.refl wq))
                    refine wp_of_call (f := 31) (vs := #[.int .i64 y]) (by go_simp) (from_v wq y hy1 hy2) ?_
                    rintro e w1 ⟨u, rfl, hu, hb⟩
                    exact ⟨u, rfl, hK.out _ _ hb (fun w2 h2 => (hu).grow h2) (fun h => absurd h (by decide))⟩
                  refine AllOps.cons (Does.plain rfl fun lq aq wq hk hr K hK => ?_) ?_
                  · obtain ⟨v1, E1, -, r1⟩ := hk.dep hr 1 104 (by kernel_rfl) (by kernel_rfl)
                    have r1 : ZV wq v1 x := r1 wq (Grows.refl wq)
                    obtain ⟨v3, E3, -, r3⟩ := hk.dep hr 3 106 (by kernel_rfl) (by kernel_rfl)
                    have r3 : ZV wq v3 y := r3 wq (Grows.refl wq)
                    refine wp_of_call (f := 37) (vs := #[v1, v3]) (by go_simp) (cmp_v wq (r1).wv (r3).wv (k := (-1)) (Int.sign_eq_neg_one_of_neg (by omega))) ?_
                    rintro e w1 ⟨u, rfl, hu, hb⟩
                    exact ⟨u, rfl, hK.out _ _ hb (fun w2 h2 => hu) (fun h => absurd h (by decide))⟩
                  refine AllOps.cons (Does.plain rfl fun lq aq wq hk hr K hK => ?_) ?_
                  · have B11 : ev aq (.tmp 11) = .int .i64 (-1) := hk.base 11 (by kernel_rfl) rfl
                    exact wp_of_value (by go_simp) (hK.out _ _ (Grows.refl _) (fun w2 h2 => rfl) (fun h => absurd h (by decide)))
                  refine AllOps.cons (Does.plain rfl fun lq aq wq hk hr K hK => ?_) ?_
                  · obtain ⟨v4, E4, -, r4⟩ := hk.dep hr 4 107 (by kernel_rfl) (by kernel_rfl)
                    replace E4 : ev aq (.tmp 107) = .int .i64 ((-1)) := E4.trans (r4 wq (Grows.refl wq))
                    obtain ⟨v5, E5, -, r5⟩ := hk.dep hr 5 108 (by kernel_rfl) (by kernel_rfl)
                    replace E5 : ev aq (.tmp 108) = .int .i64 (-1) := E5.trans (r5 wq (Grows.refl wq))
                    exact wp_of_value (by go_simp) (hK.out _ _ (Grows.refl _) (fun w2 h2 => rfl) (fun h => absurd h (by decide)))
                  refine AllOps.cons (Does.plain rfl fun lq aq wq hk hr K hK => ?_) ?_
                  · obtain ⟨v6, E6, -, r6⟩ := hk.dep hr 6 109 (by kernel_rfl) (by kernel_rfl)
                    replace E6 : ev aq (.tmp 109) = .bool true := E6.trans (r6 wq (Grows.refl wq))
                    exact wp_of_value (by go_simp) (hK.out _ _ (Grows.refl _) (fun w2 h2 => rfl) (fun h => absurd h (by decide)))
                  exact AllOps.nil
                case fin =>
                  intro V x5 hG hV hap
                  have r7 : (V 7) = .bool true := hV 7 (by decide)
                  clear hV hap
                  simp only [List.take_succ_cons, List.take_nil, List.drop_succ_cons, List.drop_nil, putAll, Act.put, List.setIfInBounds_toArray, List.set_cons_zero, List.set_cons_succ]
                  have hb := (show Below _ _ _ from hG)
                  replace Da := Lib.hid (Box2.below Da.out hb)
                  replace Sa := Lib.hid (Sa.out.below hb)
                  replace Db := Lib.hid (Box2.below Db.out hb)
                  replace Sb := Lib.hid (Sb.out.below hb)
                  replace Dc := Lib.hid (Box2.below Dc.out hb)
                  replace Sc := Lib.hid (Sc.out.below hb)
                  replace HB := Lib.hid (HB.out.trans (Below.mono hb HB.out.size))
                  clear hb hG
                  rw [r7]
                  go_wp2_with fail
                  go_ret
                  exact ⟨rfl, HB.out⟩
              · skip
                subst hxy
                have hxy : ¬ x < x := by omega
                go_upto_region 14 with fail
                refine wp_region_calm 8 [] ([fun vq _ => vq = .int .i64 x,
                    fun vq wq => ZV wq vq x,
                    fun vq _ => vq = .int .i64 x,
                    fun vq wq => ZV wq vq x,
                    fun vq _ => vq = .int .i64 ((0)),
                    fun vq _ => vq = .int .i64 0,
                    fun vq _ => vq = .bool true,
                    fun vq _ => vq = .bool true]) (by kernel_rfl) (by decide) ?hF ?steps ?fin
                case hF =>
                  intro j hj; cases hj
                case steps =>
                  refine AllOps.cons (Does.plain rfl fun lq aq wq hk hr K hK => ?_) ?_
                  · have B1 : ev aq (.tmp 1) = .int .i64 x := hk.base 1 (by kernel_rfl) rfl
                    exact wp_of_value (by go_simp) (hK.out _ _ (Grows.refl _) (fun w2 h2 => rfl) (fun h => absurd h (by decide)))
                  refine AllOps.cons (Does.plain rfl fun lq aq wq hk hr K hK => ?_) ?_
                  · obtain ⟨v0, E0, -, r0⟩ := hk.dep hr 0 103 (by kernel_rfl) (by kernel_rfl)
                    replace E0 : ev aq (.tmp 103) = .int .i64 x := E0.trans (r0 wq (Grows.refl wq))
                    refine wp_of_call (f := 31) (vs := #[.int .i64 x]) (by go_simp) (from_v wq x hx1 hx2) ?_
                    rintro e w1 ⟨u, rfl, hu, hb⟩
                    exact ⟨u, rfl, hK.out _ _ hb (fun w2 h2 => (hu).grow h2) (fun h => absurd h (by decide))⟩
                  refine AllOps.cons (Does.plain rfl fun lq aq wq hk hr K hK => ?_) ?_
                  · have B2 : ev aq (.tmp 2) = .int .i64 x := hk.base 2 (by kernel_rfl) rfl
                    exact wp_of_value (by go_simp) (hK.out _ _ (Grows.refl _) (fun w2 h2 => rfl) (fun h => absurd h (by decide)))
                  refine AllOps.cons (Does.plain rfl fun lq aq wq hk hr K hK => ?_) ?_
                  · obtain ⟨v2, E2, -, r2⟩ := hk.dep hr 2 105 (by kernel_rfl) (by kernel_rfl)
                    replace E2 : ev aq (.tmp 105) = .int .i64 x := E2.trans (r2 wq (Grows.refl wq))
                    refine wp_of_call (f := 31) (vs := #[.int .i64 x]) (by go_simp) (from_v wq x hx1 hx2) ?_
                    rintro e w1 ⟨u, rfl, hu, hb⟩
                    exact ⟨u, rfl, hK.out _ _ hb (fun w2 h2 => (hu).grow h2) (fun h => absurd h (by decide))⟩
                  refine AllOps.cons (Does.plain rfl fun lq aq wq hk hr K hK => ?_) ?_
                  · obtain ⟨v1, E1, -, r1⟩ := hk.dep hr 1 104 (by kernel_rfl) (by kernel_rfl)
                    have r1 : ZV wq v1 x := r1 wq (Grows.refl wq)
                    obtain ⟨v3, E3, -, r3⟩ := hk.dep hr 3 106 (by kernel_rfl) (by kernel_rfl)
                    have r3 : ZV wq v3 x := r3 wq (Grows.refl wq)
                    refine wp_of_call (f := 37) (vs := #[v1, v3]) (by go_simp) (cmp_v wq (r1).wv (r3).wv (k := (0)) (by simp)) ?_
                    rintro e w1 ⟨u, rfl, hu, hb⟩
                    exact ⟨u, rfl, hK.out _ _ hb (fun w2 h2 => hu) (fun h => absurd h (by decide))⟩
                  refine AllOps.cons (Does.plain rfl fun lq aq wq hk hr K hK => ?_) ?_
                  · have B11 : ev aq (.tmp 11) = .int .i64 0 := hk.base 11 (by kernel_rfl) rfl
                    exact wp_of_value (by go_simp) (hK.out _ _ (Grows.refl _) (fun w2 h2 => rfl) (fun h => absurd h (by decide)))
                  refine AllOps.cons (Does.plain rfl fun lq aq wq hk hr K hK => ?_) ?_
                  · obtain ⟨v4, E4, -, r4⟩ := hk.dep hr 4 107 (by kernel_rfl) (by kernel_rfl)
                    replace E4 : ev aq (.tmp 107) = .int .i64 ((0)) := E4.trans (r4 wq (Grows.refl wq))
                    obtain ⟨v5, E5, -, r5⟩ := hk.dep hr 5 108 (by kernel_rfl) (by kernel_rfl)
                    replace E5 : ev aq (.tmp 108) = .int .i64 0 := E5.trans (r5 wq (Grows.refl wq))
                    exact wp_of_value (by go_simp) (hK.out _ _ (Grows.refl _) (fun w2 h2 => rfl) (fun h => absurd h (by decide)))
                  refine AllOps.cons (Does.plain rfl fun lq aq wq hk hr K hK => ?_) ?_
                  · obtain ⟨v6, E6, -, r6⟩ := hk.dep hr 6 109 (by kernel_rfl) (by kernel_rfl)
                    replace E6 : ev aq (.tmp 109) = .bool true := E6.trans (r6 wq (Grows.refl wq))
                    exact wp_of_value (by go_simp) (hK.out _ _ (Grows.refl _) (fun w2 h2 => rfl) (fun h => absurd h (by decide)))
                  exact AllOps.nil
                case fin =>
                  intro V x5 hG hV hap
                  have r7 : (V 7) = .bool true := hV 7 (by decide)
                  clear hV hap
                  simp only [List.take_succ_cons, List.take_nil, List.drop_succ_cons, List.drop_nil, putAll, Act.put, List.setIfInBounds_toArray, List.set_cons_zero, List.set_cons_succ]
                  have hb := (show Below _ _ _ from hG)
                  replace Da := Lib.hid (Box2.below Da.out hb)
                  replace Sa := Lib.hid (Sa.out.below hb)
                  replace Db := Lib.hid (Box2.below Db.out hb)
                  replace Sb := Lib.hid (Sb.out.below hb)
                  replace Dc := Lib.hid (Box2.below Dc.out hb)
                  replace Sc := Lib.hid (Sc.out.below hb)
                  replace HB := Lib.hid (HB.out.trans (Below.mono hb HB.out.size))
                  clear hb hG
                  rw [r7]
                  go_wp2_with fail
                  go_ret
                  exact ⟨rfl, HB.out⟩
              · skip
                have hxy2 : ¬ x < y := by omega
                go_upto_region 14 with fail
                refine wp_region_calm 8 [] ([fun vq _ => vq = .int .i64 x,
                    fun vq wq => ZV wq vq x,
                    fun vq _ => vq = .int .i64 y,
                    fun vq wq => ZV wq vq y,
                    fun vq _ => vq = .int .i64 ((1)),
                    fun vq _ => vq = .int .i64 1,
                    fun vq _ => vq = .bool true,
                    fun vq _ => vq = .bool true]) (by kernel_rfl) (by decide) ?hF ?steps ?fin
                case hF =>
                  intro j hj; cases hj
                case steps =>
                  refine AllOps.cons (Does.plain rfl fun lq aq wq hk hr K hK => ?_) ?_
                  · have B1 : ev aq (.tmp 1) = .int .i64 x := hk.base 1 (by kernel_rfl) rfl
                    exact wp_of_value (by go_simp) (hK.out _ _ (Grows.refl _) (fun w2 h2 => rfl) (fun h => absurd h (by decide)))
                  refine AllOps.cons (Does.plain rfl fun lq aq wq hk hr K hK => ?_) ?_
                  · obtain ⟨v0, E0, -, r0⟩ := hk.dep hr 0 103 (by kernel_rfl) (by kernel_rfl)
                    replace E0 : ev aq (.tmp 103) = .int .i64 x := E0.trans (r0 wq (Grows.refl wq))
                    refine wp_of_call (f := 31) (vs := #[.int .i64 x]) (by go_simp) (from_v wq x hx1 hx2) ?_
                    rintro e w1 ⟨u, rfl, hu, hb⟩
                    exact ⟨u, rfl, hK.out _ _ hb (fun w2 h2 => (hu).grow h2) (fun h => absurd h (by decide))⟩
                  refine AllOps.cons (Does.plain rfl fun lq aq wq hk hr K hK => ?_) ?_
                  · have B2 : ev aq (.tmp 2) = .int .i64 y := hk.base 2 (by kernel_rfl) rfl
                    exact wp_of_value (by go_simp) (hK.out _ _ (Grows.refl _) (fun w2 h2 => rfl) (fun h => absurd h (by decide)))
                  refine AllOps.cons (Does.plain rfl fun lq aq wq hk hr K hK => ?_) ?_
                  · obtain ⟨v2, E2, -, r2⟩ := hk.dep hr 2 105 (by kernel_rfl) (by kernel_rfl)
                    replace E2 : ev aq (.tmp 105) = .int .i64 y := E2.trans (r2 wq (Grows.refl wq))
                    refine wp_of_call (f := 31) (vs := #[.int .i64 y]) (by go_simp) (from_v wq y hy1 hy2) ?_
                    rintro e w1 ⟨u, rfl, hu, hb⟩
                    exact ⟨u, rfl, hK.out _ _ hb (fun w2 h2 => (hu).grow h2) (fun h => absurd h (by decide))⟩
                  refine AllOps.cons (Does.plain rfl fun lq aq wq hk hr K hK => ?_) ?_
                  · obtain ⟨v1, E1, -, r1⟩ := hk.dep hr 1 104 (by kernel_rfl) (by kernel_rfl)
                    have r1 : ZV wq v1 x := r1 wq (Grows.refl wq)
                    obtain ⟨v3, E3, -, r3⟩ := hk.dep hr 3 106 (by kernel_rfl) (by kernel_rfl)
                    have r3 : ZV wq v3 y := r3 wq (Grows.refl wq)
                    refine wp_of_call (f := 37) (vs := #[v1, v3]) (by go_simp) (cmp_v wq (r1).wv (r3).wv (k := (1)) (Int.sign_eq_one_of_pos (by omega))) ?_
                    rintro e w1 ⟨u, rfl, hu, hb⟩
                    exact ⟨u, rfl, hK.out _ _ hb (fun w2 h2 => hu) (fun h => absurd h (by decide))⟩
                  refine AllOps.cons (Does.plain rfl fun lq aq wq hk hr K hK => ?_) ?_
                  · have B11 : ev aq (.tmp 11) = .int .i64 1 := hk.base 11 (by kernel_rfl) rfl
                    exact wp_of_value (by go_simp) (hK.out _ _ (Grows.refl _) (fun w2 h2 => rfl) (fun h => absurd h (by decide)))
                  refine AllOps.cons (Does.plain rfl fun lq aq wq hk hr K hK => ?_) ?_
                  · obtain ⟨v4, E4, -, r4⟩ := hk.dep hr 4 107 (by kernel_rfl) (by kernel_rfl)
                    replace E4 : ev aq (.tmp 107) = .int .i64 ((1)) := E4.trans (r4 wq (Grows.refl wq))
                    obtain ⟨v5, E5, -, r5⟩ := hk.dep hr 5 108 (by kernel_rfl) (by kernel_rfl)
                    replace E5 : ev aq (.tmp 108) = .int .i64 1 := E5.trans (r5 wq (Grows.refl wq))
                    exact wp_of_value (by go_simp) (hK.out _ _ (Grows.refl _) (fun w2 h2 => rfl) (fun h => absurd h (by decide)))
                  refine AllOps.cons (Does.plain rfl fun lq aq wq hk hr K hK => ?_) ?_
                  · obtain ⟨v6, E6, -, r6⟩ := hk.dep hr 6 109 (by kernel_rfl) (by kernel_rfl)
                    replace E6 : ev aq (.tmp 109) = .bool true := E6.trans (r6 wq (Grows.refl wq))
                    exact wp_of_value (by go_simp) (hK.out _ _ (Grows.refl _) (fun w2 h2 => rfl) (fun h => absurd h (by decide)))
                  exact AllOps.nil
                case fin =>
                  intro V x5 hG hV hap
                  have r7 : (V 7) = .bool true := hV 7 (by decide)
                  clear hV hap
                  simp only [List.take_succ_cons, List.take_nil, List.drop_succ_cons, List.drop_nil, putAll, Act.put, List.setIfInBounds_toArray, List.set_cons_zero, List.set_cons_succ]
                  have hb := (show Below _ _ _ from hG)
                  replace Da := Lib.hid (Box2.below Da.out hb)
                  replace Sa := Lib.hid (Sa.out.below hb)
                  replace Db := Lib.hid (Box2.below Db.out hb)
                  replace Sb := Lib.hid (Sb.out.below hb)
                  replace Dc := Lib.hid (Box2.below Dc.out hb)
                  replace Sc := Lib.hid (Sc.out.below hb)
                  replace HB := Lib.hid (HB.out.trans (Below.mono hb HB.out.size))
                  clear hb hG
                  rw [r7]
                  go_wp2_with fail
                  go_ret
                  exact ⟨rfl, HB.out⟩
end Go.Proofs.YtmajcjdhhnhmmaaDoor
