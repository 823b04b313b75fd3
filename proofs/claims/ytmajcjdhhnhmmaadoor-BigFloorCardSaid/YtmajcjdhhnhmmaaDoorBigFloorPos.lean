import Derived.Test.YtmajcjdhhnhmmaaDoorGVal
import Derived.Test.YtmajcjdhhnhmmaaDoorGKept
import Derived.Test.YtmajcjdhhnhmmaaDoorBigWorks
import Derived.Test.YtmajcjdhhnhmmaaDoorBigFloorL
/- litmuslaw02.BigFloor returns true: a case. -/
namespace Go.Proofs.YtmajcjdhhnhmmaaDoor
open Go.RowKit Go.Num Go.Kp
attribute [local go_sem] Oper.semAt_some u64_mask ev_const ev_func ev_global
set_option maxHeartbeats 16000000 in
set_option maxRecDepth 100000 in
theorem bigFloor_pos (w : World) (n0 : Bool) (m0 : Value) (l0 : List Nat) (n1 : Bool) (m1 : Value) (l1 : List Nat) (n2 : Bool) (m2 : Value) (l2 : List Nat) (h0 : Arg encU w m0 l0) (hl0 : Lim l0) (hn0 : l0.length ≤ 9223372036854775807) (h1 : Arg encU w m1 l1) (hl1 : Lim l1) (hn1 : l1.length ≤ 9223372036854775807) (h2 : Arg encU w m2 l2) (hl2 : Lim l2) (hn2 : l2.length ≤ 9223372036854775807) (hcase : 0 < sg n1 (val (l1.take 20))) :
    Calls Tryd.prog 7 #[.agg #[.bool n0, m0, .bool n1, m1, .bool n2, m2]] w fun e w' => e = .returned (.bool true) ∧ Below w.heap.size w w' := by
  go_enter Tryd.func7, Tryd.ntmps7
  replace hcase := Lib.hid hcase
  obtain ⟨a, ha⟩ : ∃ z, sg n0 (val (l0.take 20)) = z := ⟨_, rfl⟩
  have hka : szz a ≤ 20 := ha ▸ few_szz n0 20 hl0
  obtain ⟨b, hb⟩ : ∃ z, sg n1 (val (l1.take 20)) = z := ⟨_, rfl⟩
  have hkb : szz b ≤ 20 := hb ▸ few_szz n1 20 hl1
  obtain ⟨c, hc⟩ : ∃ z, sg n2 (val (l2.take 20)) = z := ⟨_, rfl⟩
  have hkc : szz c ≤ 20 := hc ▸ few_szz n2 20 hl2
  have HB0 : Hid (Below w.heap.size w (w.alloc (.cells #[.bool n0, m0, .bool n1, m1, .bool n2, m2] 44))) := Lib.hid ((Below.refl _ w).alloc (Nat.le_refl _) _)
  have X0 := Lib.hid (BoxN.new w 44 #[.bool n0, m0, .bool n1, m1, .bool n2, m2])
  go_wp2_with fail
  refine (works_any _).mono ?_
  rintro e x0 ⟨rfl, q0⟩
  have HB := Lib.hid (HB0.out.trans (Below.mono q0 HB0.out.size))
  have X := Lib.hid (BoxN.below X0.out q0)
  replace h0 := h0.below HB.out
  replace h1 := h1.below HB.out
  replace h2 := h2.below HB.out
  clear HB0 X0 q0
  go_upto_region 3 with fail
  refine wp_region_going 12 [9, 10, 11] ([fun vq _ => vq = .pointer (some ⟨w.heap.size, 0, none⟩),
      fun vq _ => vq = .agg #[.bool n0, m0],
      fun vq wq => WV x0 vq a,
      fun vq _ => vq = .pointer (some ⟨w.heap.size, 2, none⟩),
      fun vq _ => vq = .agg #[.bool n1, m1],
      fun vq wq => WV x0 vq b,
      fun vq _ => vq = .pointer (some ⟨w.heap.size, 4, none⟩),
      fun vq _ => vq = .agg #[.bool n2, m2],
      fun vq wq => WV x0 vq c,
      fun vq wq => ∃ bq, vq = .pointer (some ⟨bq, 0, none⟩) ∧ Box2 wq bq 24 (.bool false) (.slice none 0 0) ∧ (x0).heap.size ≤ bq,
      fun vq wq => ∃ bq, vq = .pointer (some ⟨bq, 0, none⟩) ∧ Box2 wq bq 24 (.bool false) (.slice none 0 0) ∧ (x0).heap.size ≤ bq,
      fun vq wq => ∃ bq, vq = .pointer (some ⟨bq, 0, none⟩) ∧ Box2 wq bq 24 (.bool false) (.slice none 0 0) ∧ (x0).heap.size ≤ bq]) (by kernel_rfl) (by kernel_rfl) (by decide) (by kernel_rfl) (by kernel_rfl) ?hF ?steps ?fin
  case hF =>
    intro j hj v w h
    simp only [List.mem_cons, List.not_mem_nil, or_false] at hj
    rcases hj with rfl | rfl | rfl
    all_goals (obtain ⟨b, rfl, hB, _⟩ := h; exact hB.lt)
  case steps =>
    refine AllOps.cons (Does.plain rfl fun lq aq wq hk hr K hK => ?_) ?_
    · have B1 : ev aq (.tmp 1) = .pointer (some ⟨w.heap.size, 0, none⟩) := hk.base 1 (by kernel_rfl) rfl
      exact wp_of_value (by go_simp) (hK.out _ _ (Grows.refl _) (fun w2 h2 => rfl) (fun h => absurd h (by decide)))
    refine AllOps.cons (Does.plain rfl fun lq aq wq hk hr K hK => ?_) ?_
    · obtain ⟨v0, E0, -, r0⟩ := hk.dep hr 0 20 (by kernel_rfl) (by kernel_rfl)
      replace E0 : ev aq (.tmp 20) = .pointer (some ⟨w.heap.size, 0, none⟩) := E0.trans (r0 wq (Grows.refl wq))
      have hb := grows_of hk.ext
      have hb := grows_of hk.ext
      have c0 := (BoxN.below X.out hb).cell 0 rfl
      have c1 := (BoxN.below X.out hb).cell 1 rfl
      exact wp_of_value (by go_simp) (hK.out _ _ (Grows.refl _) (fun w2 h2 => rfl) (fun h => absurd h (by decide)))
    refine AllOps.cons (Does.plain rfl fun lq aq wq hk hr K hK => ?_) ?_
    · obtain ⟨v1, E1, -, r1⟩ := hk.dep hr 1 21 (by kernel_rfl) (by kernel_rfl)
      replace E1 : ev aq (.tmp 21) = .agg #[.bool n0, m0] := E1.trans (r1 wq (Grows.refl wq))
      refine wp_of_call (f := 13) (vs := #[.agg #[.bool n0, m0], .int .i64 20]) (by go_simp) (few_v x0 wq 20 (h0) hl0 hn0 (by decide) ha) ?_
      rintro e w1 ⟨u, rfl, hu, hb⟩
      exact ⟨u, rfl, hK.out _ _ hb (fun w2 h2 => hu) (fun h => absurd h (by decide))⟩
    refine AllOps.cons (Does.plain rfl fun lq aq wq hk hr K hK => ?_) ?_
    · have B1 : ev aq (.tmp 1) = .pointer (some ⟨w.heap.size, 0, none⟩) := hk.base 1 (by kernel_rfl) rfl
      exact wp_of_value (by go_simp) (hK.out _ _ (Grows.refl _) (fun w2 h2 => rfl) (fun h => absurd h (by decide)))
    refine AllOps.cons (Does.plain rfl fun lq aq wq hk hr K hK => ?_) ?_
    · obtain ⟨v3, E3, -, r3⟩ := hk.dep hr 3 23 (by kernel_rfl) (by kernel_rfl)
      replace E3 : ev aq (.tmp 23) = .pointer (some ⟨w.heap.size, 2, none⟩) := E3.trans (r3 wq (Grows.refl wq))
      have hb := grows_of hk.ext
      have hb := grows_of hk.ext
      have c0 := (BoxN.below X.out hb).cell 2 rfl
      have c1 := (BoxN.below X.out hb).cell 3 rfl
      exact wp_of_value (by go_simp) (hK.out _ _ (Grows.refl _) (fun w2 h2 => rfl) (fun h => absurd h (by decide)))
    refine AllOps.cons (Does.plain rfl fun lq aq wq hk hr K hK => ?_) ?_
    · obtain ⟨v4, E4, -, r4⟩ := hk.dep hr 4 24 (by kernel_rfl) (by kernel_rfl)
      replace E4 : ev aq (.tmp 24) = .agg #[.bool n1, m1] := E4.trans (r4 wq (Grows.refl wq))
      refine wp_of_call (f := 13) (vs := #[.agg #[.bool n1, m1], .int .i64 20]) (by go_simp) (few_v x0 wq 20 (h1) hl1 hn1 (by decide) hb) ?_
      rintro e w1 ⟨u, rfl, hu, hb⟩
      exact ⟨u, rfl, hK.out _ _ hb (fun w2 h2 => hu) (fun h => absurd h (by decide))⟩
    refine AllOps.cons (Does.plain rfl fun lq aq wq hk hr K hK => ?_) ?_
    · have B1 : ev aq (.tmp 1) = .pointer (some ⟨w.heap.size, 0, none⟩) := hk.base 1 (by kernel_rfl) rfl
      exact wp_of_value (by go_simp) (hK.out _ _ (Grows.refl _) (fun w2 h2 => rfl) (fun h => absurd h (by decide)))
    refine AllOps.cons (Does.plain rfl fun lq aq wq hk hr K hK => ?_) ?_
    · obtain ⟨v6, E6, -, r6⟩ := hk.dep hr 6 26 (by kernel_rfl) (by kernel_rfl)
      replace E6 : ev aq (.tmp 26) = .pointer (some ⟨w.heap.size, 4, none⟩) := E6.trans (r6 wq (Grows.refl wq))
      have hb := grows_of hk.ext
      have hb := grows_of hk.ext
      have c0 := (BoxN.below X.out hb).cell 4 rfl
      have c1 := (BoxN.below X.out hb).cell 5 rfl
      exact wp_of_value (by go_simp) (hK.out _ _ (Grows.refl _) (fun w2 h2 => rfl) (fun h => absurd h (by decide)))
    refine AllOps.cons (Does.plain rfl fun lq aq wq hk hr K hK => ?_) ?_
    · obtain ⟨v7, E7, -, r7⟩ := hk.dep hr 7 27 (by kernel_rfl) (by kernel_rfl)
      replace E7 : ev aq (.tmp 27) = .agg #[.bool n2, m2] := E7.trans (r7 wq (Grows.refl wq))
      refine wp_of_call (f := 13) (vs := #[.agg #[.bool n2, m2], .int .i64 20]) (by go_simp) (few_v x0 wq 20 (h2) hl2 hn2 (by decide) hc) ?_
      rintro e w1 ⟨u, rfl, hu, hb⟩
      exact ⟨u, rfl, hK.out _ _ hb (fun w2 h2 => hu) (fun h => absurd h (by decide))⟩
    refine AllOps.cons (Does.plain rfl fun lq aq wq hk hr K hK => ?_) ?_
    · exact wp_of_value (by go_simp) (hK.out _ _ ((Grows.refl _).alloc _) (fun w2 h2 => ⟨_, rfl, (Box2.new wq 24 _ _).below h2, (grows_of hk.ext).size⟩) (fun _ => Nat.le_refl _))
    refine AllOps.cons (Does.plain rfl fun lq aq wq hk hr K hK => ?_) ?_
    · exact wp_of_value (by go_simp) (hK.out _ _ ((Grows.refl _).alloc _) (fun w2 h2 => ⟨_, rfl, (Box2.new wq 24 _ _).below h2, (grows_of hk.ext).size⟩) (fun _ => Nat.le_refl _))
    refine AllOps.cons (Does.plain rfl fun lq aq wq hk hr K hK => ?_) ?_
    · exact wp_of_value (by go_simp) (hK.out _ _ ((Grows.refl _).alloc _) (fun w2 h2 => ⟨_, rfl, (Box2.new wq 24 _ _).below h2, (grows_of hk.ext).size⟩) (fun _ => Nat.le_refl _))
    exact AllOps.nil
  case fin =>
    intro V x1 hG hV hap
    have r2 : WV x0 (V 2) a := hV 2 (by decide)
    have r5 : WV x0 (V 5) b := hV 5 (by decide)
    have r8 : WV x0 (V 8) c := hV 8 (by decide)
    have r9 : ∃ bq, (V 9) = .pointer (some ⟨bq, 0, none⟩) ∧ Box2 x1 bq 24 (.bool false) (.slice none 0 0) ∧ (x0).heap.size ≤ bq := hV 9 (by decide)
    have r10 : ∃ bq, (V 10) = .pointer (some ⟨bq, 0, none⟩) ∧ Box2 x1 bq 24 (.bool false) (.slice none 0 0) ∧ (x0).heap.size ≤ bq := hV 10 (by decide)
    have r11 : ∃ bq, (V 11) = .pointer (some ⟨bq, 0, none⟩) ∧ Box2 x1 bq 24 (.bool false) (.slice none 0 0) ∧ (x0).heap.size ≤ bq := hV 11 (by decide)
    clear hV
    simp only [List.take_succ_cons, List.take_zero, List.drop_succ_cons, List.drop_zero, putAll, Act.put, List.setIfInBounds_toArray, List.set_cons_zero, List.set_cons_succ]
    have hb := grows_of hG
    obtain ⟨ba, ea, Da, ga⟩ := r9
    obtain ⟨na, Aa, ka, ca, ea', sa⟩ := r2
    obtain ⟨bb, eb, Db, gb⟩ := r10
    obtain ⟨nb, Ab, kb, cb, eb', sb⟩ := r5
    obtain ⟨bc, ec, Dc, gc⟩ := r11
    obtain ⟨nc, Ac, kc, cc, ec', sc⟩ := r8
    have nab : ba ≠ bb := by
      have h := hap 9 10 (by decide) (by decide) (by decide) (by decide) (by decide) rfl rfl
      rw [ea, eb] at h
      exact h
    have nac : ba ≠ bc := by
      have h := hap 9 11 (by decide) (by decide) (by decide) (by decide) (by decide) rfl rfl
      rw [ea, ec] at h
      exact h
    have nbc : bb ≠ bc := by
      have h := hap 10 11 (by decide) (by decide) (by decide) (by decide) (by decide) rfl rfl
      rw [eb, ec] at h
      exact h
    simp only [ea, ea', eb, eb', ec, ec']
    clear hap ea ea' eb eb' ec ec'
    refine wpList_of_skip rfl (op_store 3 22 _ rfl rfl Da) ?_
    refine wpList_of_skip rfl (op_store 4 25 _ rfl rfl (put2_far Db (Ne.symm nab))) ?_
    refine wpList_of_skip rfl (op_store 5 28 _ rfl rfl (put2_far (put2_far Dc (Ne.symm nac)) (Ne.symm nbc))) ?_
    obtain ⟨hB, Pa, Pb, Pc⟩ := put2_three (na := na) (nb := nb) (nc := nc) (ma := .slice Aa ka ca) (mb := .slice Ab kb cb) (mc := .slice Ac kc cc) hb Da Db Dc ga gb gc nab nac nbc
    generalize put2 (put2 (put2 x1 ba (.bool na) (.slice Aa ka ca)) bb (.bool nb) (.slice Ab kb cb)) bc (.bool nc) (.slice Ac kc cc) = y1 at *
    replace HB := Lib.hid (HB.out.trans (Below.mono hB HB.out.size))
    have Sa := Lib.hid (sa.below hB)
    replace Da := Lib.hid Pa
    have Sb := Lib.hid (sb.below hB)
    replace Db := Lib.hid Pb
    have Sc := Lib.hid (sc.below hB)
    replace Dc := Lib.hid Pc
    clear hb hG hB h0 h1 h2 hl0 hl1 hl2 hn0 hn1 hn2 X sa sb sc Pa Pb Pc ga gb gc nab nac nbc
    have h0 : 0 < b := hb ▸ hcase.out
    have hn0 : b ≠ 0 := by omega
    go_upto_region 4 with fail
    refine wp_region_calm 7 [6] ([fun vq wq => WV wq vq a,
        fun vq wq => WV wq vq b,
        fun vq wq => ∃ u0, vq = .tuple #[u0, .int .i64 0] ∧ ZV wq u0 ((Int.fdiv a b)),
        fun vq wq => ∃ u0, vq = .tuple #[u0, .int .i64 0] ∧ ZV wq u0 ((Int.fdiv a b)),
        fun vq wq => ZV wq vq ((Int.fdiv a b)),
        fun vq _ => vq = .int .i64 0,
        fun vq wq => ∃ bq, vq = .pointer (some ⟨bq, 0, none⟩) ∧ Box2 wq bq 24 (.bool false) (.slice none 0 0) ∧ (y1).heap.size ≤ bq]) (by kernel_rfl) (by decide) ?hF ?steps ?fin
    case hF =>
      intro j hj v w h
      simp only [List.mem_cons, List.not_mem_nil, or_false] at hj
      subst hj
      all_goals (obtain ⟨b, rfl, hB, _⟩ := h; exact hB.lt)
    case steps =>
      refine AllOps.cons (Does.plain rfl fun lq aq wq hk hr K hK => ?_) ?_
      · have B3 : ev aq (.tmp 3) = .pointer (some ⟨ba, 0, none⟩) := hk.base 3 (by kernel_rfl) rfl
        have hb : Below _ _ _ := hk.ext
        exact wp_of_value (op_load 3 _ B3 (Box2.below Da.out hb)) (hK.out _ _ (Grows.refl _) (fun w2 h2 => ⟨_, _, _, _, rfl, (Sa.out.below hb).below h2⟩) (fun h => absurd h (by decide)))
      refine AllOps.cons (Does.plain rfl fun lq aq wq hk hr K hK => ?_) ?_
      · have B4 : ev aq (.tmp 4) = .pointer (some ⟨bb, 0, none⟩) := hk.base 4 (by kernel_rfl) rfl
        have hb : Below _ _ _ := hk.ext
        exact wp_of_value (op_load 4 _ B4 (Box2.below Db.out hb)) (hK.out _ _ (Grows.refl _) (fun w2 h2 => ⟨_, _, _, _, rfl, (Sb.out.below hb).below h2⟩) (fun h => absurd h (by decide)))
      refine AllOps.cons (Does.plain rfl fun lq aq wq hk hr K hK => ?_) ?_
      · obtain ⟨v0, E0, -, r0⟩ := hk.dep hr 0 30 (by kernel_rfl) (by kernel_rfl)
        have r0 : WV wq v0 a := r0 wq (Grows.refl wq)
        obtain ⟨v1, E1, -, r1⟩ := hk.dep hr 1 31 (by kernel_rfl) (by kernel_rfl)
        have r1 : WV wq v1 b := r1 wq (Grows.refl wq)
        refine wp_of_call (f := 16) (vs := #[v0, v1]) (by go_simp) (div_v wq r0 r1 hn0 (Nat.le_trans (szz_fdiv b hka) (by decide))) ?_
        rintro e w1 ⟨u, rfl, hu, hb⟩
        exact ⟨u, rfl, hK.out _ _ hb (fun w2 h2 => (let ⟨u0, e0, h0⟩ := hu; ⟨u0, e0, (h0).grow h2⟩)) (fun h => absurd h (by decide))⟩
      refine AllOps.cons (Does.plain rfl fun lq aq wq hk hr K hK => ?_) ?_
      · obtain ⟨v2, E2, -, r2⟩ := hk.dep hr 2 32 (by kernel_rfl) (by kernel_rfl)
        have r2 : ∃ u0, v2 = .tuple #[u0, .int .i64 0] ∧ ZV wq u0 ((Int.fdiv a b)) := r2 wq (Grows.refl wq)
        exact wp_of_value (by go_simp) (hK.out _ _ (Grows.refl _) (fun w2 h2 => (let ⟨u0, e0, h0⟩ := r2; ⟨u0, e0, (h0).grow h2⟩)) (fun h => absurd h (by decide)))
      refine AllOps.cons (Does.plain rfl fun lq aq wq hk hr K hK => ?_) ?_
      · obtain ⟨v3, E3, -, r3⟩ := hk.dep hr 3 29 (by kernel_rfl) (by kernel_rfl)
        have r3 : ∃ u0, v3 = .tuple #[u0, .int .i64 0] ∧ ZV wq u0 ((Int.fdiv a b)) := r3 wq (Grows.refl wq)
        obtain ⟨u0, rfl, h0⟩ := r3
        exact wp_of_value (by go_simp) (hK.out _ _ (Grows.refl _) (fun w2 h2 => (h0).grow h2) (fun h => absurd h (by decide)))
      refine AllOps.cons (Does.plain rfl fun lq aq wq hk hr K hK => ?_) ?_
      · obtain ⟨v3, E3, -, r3⟩ := hk.dep hr 3 29 (by kernel_rfl) (by kernel_rfl)
        have r3 : ∃ u0, v3 = .tuple #[u0, .int .i64 0] ∧ ZV wq u0 ((Int.fdiv a b)) := r3 wq (Grows.refl wq)
        obtain ⟨u0, rfl, h0⟩ := r3
        exact wp_of_value (by go_simp) (hK.out _ _ (Grows.refl _) (fun w2 h2 => rfl) (fun h => absurd h (by decide)))
      refine AllOps.cons (Does.plain rfl fun lq aq wq hk hr K hK => ?_) ?_
      · exact wp_of_value (by go_simp) (hK.out _ _ ((Grows.refl _).alloc _) (fun w2 h2 => ⟨_, rfl, (Box2.new wq 24 _ _).below h2, hk.ext.size⟩) (fun _ => Nat.le_refl _))
      exact AllOps.nil
    case fin =>
      intro V x2 hG hV hap
      have r4 : ZV x2 (V 4) ((Int.fdiv a b)) := hV 4 (by decide)
      have r5 : (V 5) = .int .i64 0 := hV 5 (by decide)
      have r6 : ∃ bq, (V 6) = .pointer (some ⟨bq, 0, none⟩) ∧ Box2 x2 bq 24 (.bool false) (.slice none 0 0) ∧ (y1).heap.size ≤ bq := hV 6 (by decide)
      clear hV
      simp only [List.take_succ_cons, List.take_zero, List.drop_succ_cons, List.drop_zero, putAll, Act.put, List.setIfInBounds_toArray, List.set_cons_zero, List.set_cons_succ]
      have hb := (show Below _ _ _ from hG)
      obtain ⟨bq, eq, Dq, gq⟩ := r6
      obtain ⟨nq, Aq, kq, cq, eq', sq⟩ := r4
      simp only [eq, eq', r5]
      clear eq eq' hap r5
      refine wpList_of_skip rfl (op_store 6 33 _ rfl rfl Dq) ?_
      have hB := put2_below (u := .bool nq) (v := .slice Aq kq cq) hb gq
      replace sq := sq.put Dq (.bool nq) (.slice Aq kq cq)
      replace Dq := put2_own (u := .bool nq) (v := .slice Aq kq cq) Dq
      clear hb
      generalize put2 x2 bq (.bool nq) (.slice Aq kq cq) = y3 at *
      replace Da := Lib.hid (Box2.below Da.out hB)
      replace Sa := Lib.hid (Sa.out.below hB)
      replace Db := Lib.hid (Box2.below Db.out hB)
      replace Sb := Lib.hid (Sb.out.below hB)
      replace Dc := Lib.hid (Box2.below Dc.out hB)
      replace Sc := Lib.hid (Sc.out.below hB)
      replace HB := Lib.hid (HB.out.trans (Below.mono hB HB.out.size))
      replace Dq := Lib.hid Dq
      have Sq := Lib.hid sq
      clear hG hB gq sq
      go_upto_region 5 with fail
      refine wp_region_calm 7 [6] ([fun vq wq => WV wq vq a,
          fun vq wq => WV wq vq b,
          fun vq wq => ∃ u0, vq = .tuple #[u0, .int .i64 0] ∧ ZV wq u0 ((Int.fmod a b)),
          fun vq wq => ∃ u0, vq = .tuple #[u0, .int .i64 0] ∧ ZV wq u0 ((Int.fmod a b)),
          fun vq wq => ZV wq vq ((Int.fmod a b)),
          fun vq _ => vq = .int .i64 0,
          fun vq wq => ∃ bq, vq = .pointer (some ⟨bq, 0, none⟩) ∧ Box2 wq bq 24 (.bool false) (.slice none 0 0) ∧ (y3).heap.size ≤ bq]) (by kernel_rfl) (by decide) ?hF ?steps ?fin
      case hF =>
        intro j hj v w h
        simp only [List.mem_cons, List.not_mem_nil, or_false] at hj
        subst hj
        all_goals (obtain ⟨b, rfl, hB, _⟩ := h; exact hB.lt)
      case steps =>
        refine AllOps.cons (Does.plain rfl fun lq aq wq hk hr K hK => ?_) ?_
        · have B3 : ev aq (.tmp 3) = .pointer (some ⟨ba, 0, none⟩) := hk.base 3 (by kernel_rfl) rfl
          have hb : Below _ _ _ := hk.ext
          exact wp_of_value (op_load 3 _ B3 (Box2.below Da.out hb)) (hK.out _ _ (Grows.refl _) (fun w2 h2 => ⟨_, _, _, _, rfl, (Sa.out.below hb).below h2⟩) (fun h => absurd h (by decide)))
        refine AllOps.cons (Does.plain rfl fun lq aq wq hk hr K hK => ?_) ?_
        · have B4 : ev aq (.tmp 4) = .pointer (some ⟨bb, 0, none⟩) := hk.base 4 (by kernel_rfl) rfl
          have hb : Below _ _ _ := hk.ext
          exact wp_of_value (op_load 4 _ B4 (Box2.below Db.out hb)) (hK.out _ _ (Grows.refl _) (fun w2 h2 => ⟨_, _, _, _, rfl, (Sb.out.below hb).below h2⟩) (fun h => absurd h (by decide)))
        refine AllOps.cons (Does.plain rfl fun lq aq wq hk hr K hK => ?_) ?_
        · obtain ⟨v0, E0, -, r0⟩ := hk.dep hr 0 36 (by kernel_rfl) (by kernel_rfl)
          have r0 : WV wq v0 a := r0 wq (Grows.refl wq)
          obtain ⟨v1, E1, -, r1⟩ := hk.dep hr 1 37 (by kernel_rfl) (by kernel_rfl)
          have r1 : WV wq v1 b := r1 wq (Grows.refl wq)
          refine wp_of_call (f := 17) (vs := #[v0, v1]) (by go_simp) (mod_v wq r0 r1 hn0 (Nat.le_trans (szz_fmod a hn0 hkb) (by decide))) ?_
          rintro e w1 ⟨u, rfl, hu, hb⟩
          exact ⟨u, rfl, hK.out _ _ hb (fun w2 h2 => (let ⟨u0, e0, h0⟩ := hu; ⟨u0, e0, (h0).grow h2⟩)) (fun h => absurd h (by decide))⟩
        refine AllOps.cons (Does.plain rfl fun lq aq wq hk hr K hK => ?_) ?_
        · obtain ⟨v2, E2, -, r2⟩ := hk.dep hr 2 38 (by kernel_rfl) (by kernel_rfl)
          have r2 : ∃ u0, v2 = .tuple #[u0, .int .i64 0] ∧ ZV wq u0 ((Int.fmod a b)) := r2 wq (Grows.refl wq)
          exact wp_of_value (by go_simp) (hK.out _ _ (Grows.refl _) (fun w2 h2 => (let ⟨u0, e0, h0⟩ := r2; ⟨u0, e0, (h0).grow h2⟩)) (fun h => absurd h (by decide)))
        refine AllOps.cons (Does.plain rfl fun lq aq wq hk hr K hK => ?_) ?_
        · obtain ⟨v3, E3, -, r3⟩ := hk.dep hr 3 35 (by kernel_rfl) (by kernel_rfl)
          have r3 : ∃ u0, v3 = .tuple #[u0, .int .i64 0] ∧ ZV wq u0 ((Int.fmod a b)) := r3 wq (Grows.refl wq)
          obtain ⟨u0, rfl, h0⟩ := r3
          exact wp_of_value (by go_simp) (hK.out _ _ (Grows.refl _) (fun w2 h2 => (h0).grow h2) (fun h => absurd h (by decide)))
        refine AllOps.cons (Does.plain rfl fun lq aq wq hk hr K hK => ?_) ?_
        · obtain ⟨v3, E3, -, r3⟩ := hk.dep hr 3 35 (by kernel_rfl) (by kernel_rfl)
          have r3 : ∃ u0, v3 = .tuple #[u0, .int .i64 0] ∧ ZV wq u0 ((Int.fmod a b)) := r3 wq (Grows.refl wq)
          obtain ⟨u0, rfl, h0⟩ := r3
          exact wp_of_value (by go_simp) (hK.out _ _ (Grows.refl _) (fun w2 h2 => rfl) (fun h => absurd h (by decide)))
        refine AllOps.cons (Does.plain rfl fun lq aq wq hk hr K hK => ?_) ?_
        · exact wp_of_value (by go_simp) (hK.out _ _ ((Grows.refl _).alloc _) (fun w2 h2 => ⟨_, rfl, (Box2.new wq 24 _ _).below h2, hk.ext.size⟩) (fun _ => Nat.le_refl _))
        exact AllOps.nil
      case fin =>
        intro V x4 hG hV hap
        have r4 : ZV x4 (V 4) ((Int.fmod a b)) := hV 4 (by decide)
        have r5 : (V 5) = .int .i64 0 := hV 5 (by decide)
        have r6 : ∃ bq, (V 6) = .pointer (some ⟨bq, 0, none⟩) ∧ Box2 x4 bq 24 (.bool false) (.slice none 0 0) ∧ (y3).heap.size ≤ bq := hV 6 (by decide)
        clear hV
        simp only [List.take_succ_cons, List.take_zero, List.drop_succ_cons, List.drop_zero, putAll, Act.put, List.setIfInBounds_toArray, List.set_cons_zero, List.set_cons_succ]
        have hb := (show Below _ _ _ from hG)
        obtain ⟨br, er, Dr, gr⟩ := r6
        obtain ⟨nr, Ar, kr, cr, er', sr⟩ := r4
        simp only [er, er', r5]
        clear er er' hap r5
        refine wpList_of_skip rfl (op_store 8 39 _ rfl rfl Dr) ?_
        have hB := put2_below (u := .bool nr) (v := .slice Ar kr cr) hb gr
        replace sr := sr.put Dr (.bool nr) (.slice Ar kr cr)
        replace Dr := put2_own (u := .bool nr) (v := .slice Ar kr cr) Dr
        clear hb
        generalize put2 x4 br (.bool nr) (.slice Ar kr cr) = y5 at *
        replace Da := Lib.hid (Box2.below Da.out hB)
        replace Sa := Lib.hid (Sa.out.below hB)
        replace Db := Lib.hid (Box2.below Db.out hB)
        replace Sb := Lib.hid (Sb.out.below hB)
        replace Dc := Lib.hid (Box2.below Dc.out hB)
        replace Sc := Lib.hid (Sc.out.below hB)
        replace Dq := Lib.hid (Box2.below Dq.out hB)
        replace Sq := Lib.hid (Sq.out.below hB)
        replace HB := Lib.hid (HB.out.trans (Below.mono hB HB.out.size))
        replace Dr := Lib.hid Dr
        have Sr := Lib.hid sr
        clear hG hB gr sr
        go_upto_region 6 with fail
        refine wp_region_calm 3 [] ([fun vq wq => WV wq vq b,
            fun vq _ => vq = .int .i64 1,
            fun vq _ => vq = .bool false]) (by kernel_rfl) (by decide) ?hF ?steps ?fin
        case hF =>
          intro j hj; cases hj
        case steps =>
          refine AllOps.cons (Does.plain rfl fun lq aq wq hk hr K hK => ?_) ?_
          · have B4 : ev aq (.tmp 4) = .pointer (some ⟨bb, 0, none⟩) := hk.base 4 (by kernel_rfl) rfl
            have hb : Below _ _ _ := hk.ext
            exact wp_of_value (op_load 4 _ B4 (Box2.below Db.out hb)) (hK.out _ _ (Grows.refl _) (fun w2 h2 => ⟨_, _, _, _, rfl, (Sb.out.below hb).below h2⟩) (fun h => absurd h (by decide)))
          refine AllOps.cons (Does.plain rfl fun lq aq wq hk hr K hK => ?_) ?_
          · obtain ⟨v0, E0, -, r0⟩ := hk.dep hr 0 41 (by kernel_rfl) (by kernel_rfl)
            have r0 : WV wq v0 b := r0 wq (Grows.refl wq)
            refine wp_of_call (f := 36) (vs := #[v0]) (by go_simp) (sign_v wq r0 (k := 1) (Int.sign_eq_one_of_pos h0)) ?_
            rintro e w1 ⟨u, rfl, hu, hb⟩
            exact ⟨u, rfl, hK.out _ _ hb (fun w2 h2 => hu) (fun h => absurd h (by decide))⟩
          refine AllOps.cons (Does.plain rfl fun lq aq wq hk hr K hK => ?_) ?_
          · obtain ⟨v1, E1, -, r1⟩ := hk.dep hr 1 42 (by kernel_rfl) (by kernel_rfl)
            replace E1 : ev aq (.tmp 42) = .int .i64 1 := E1.trans (r1 wq (Grows.refl wq))
            exact wp_of_value (by go_simp) (hK.out _ _ (Grows.refl _) (fun w2 h2 => rfl) (fun h => absurd h (by decide)))
          exact AllOps.nil
        case fin =>
          intro V x6 hG hV hap
          have r2 : (V 2) = .bool false := hV 2 (by decide)
          clear hV hap
          simp only [List.take_succ_cons, List.take_nil, List.drop_succ_cons, List.drop_nil, putAll, Act.put, List.setIfInBounds_toArray, List.set_cons_zero, List.set_cons_succ]
          have hb := (show Below _ _ _ from hG)
          replace Da := Lib.hid (Box2.below Da.out hb)
          replace Sa := Lib.hid (Sa.out.below hb)
          replace Db := Lib.hid (Box2.below Db.out hb)
          replace Sb := Lib.hid (Sb.out.below hb)
          replace Dc := Lib.hid (Box2.below Dc.out hb)
          replace Sc := Lib.hid (Sc.out.below hb)
          replace Dq := Lib.hid (Box2.below Dq.out hb)
          replace Sq := Lib.hid (Sq.out.below hb)
          replace Dr := Lib.hid (Box2.below Dr.out hb)
          replace Sr := Lib.hid (Sr.out.below hb)
          replace HB := Lib.hid (HB.out.trans (Below.mono hb HB.out.size))
          clear hb hG
          rw [r2]
          clear r2
          rcases Decidable.em (Int.fmod a b = 0) with hr0 | hr0
          · skip
            go_upto_region 8 with fail
            refine wp_region_going 54 [] ([fun vq _ => vq = .int .i64 0,
                fun vq _ => vq = .bool false,
                fun vq _ => vq = .bool false,
                fun vq _ => vq = .int .i64 0,
                fun vq _ => vq = .bool false,
                fun vq _ => vq = .bool false,
                fun vq _ => vq = .bool false,
                fun vq wq => WV wq vq b,
                fun vq wq => ZV wq vq ((Int.fdiv a b)),
                fun vq wq => RowV wq vq [b, (Int.fdiv a b)],
                fun vq wq => ZV wq vq ((b * (Int.fdiv a b))),
                fun vq wq => ZV wq vq ((Int.fmod a b)),
                fun vq wq => RowV wq vq [(b * (Int.fdiv a b)), (Int.fmod a b)],
                fun vq wq => ZV wq vq (((b * (Int.fdiv a b)) + (Int.fmod a b))),
                fun vq wq => WV wq vq a,
                fun vq wq => RowV wq vq [a],
                fun vq wq => ZV wq vq a,
                fun vq _ => vq = .bool true,
                fun vq _ => vq = .bool false,
                fun vq _ => vq = .bool false,
                fun vq _ => vq = .bool false,
                fun vq wq => ZV wq vq ((Int.fmod a b)),
                fun vq _ => vq = .int .i64 0,
                fun vq _ => vq = .bool false,
                fun vq _ => vq = .bool false,
                fun vq _ => vq = undef,
                fun vq _ => vq = undef,
                fun vq _ => vq = undef,
                fun vq _ => vq = undef,
                fun vq _ => vq = undef,
                fun vq _ => vq = .bool false,
                fun vq _ => vq = .bool false,
                fun vq _ => vq = .bool false,
                fun vq wq => WV wq vq b,
                fun vq _ => vq = .int .i64 1,
                fun vq _ => vq = .bool true,
                fun vq _ => vq = .bool true,
                fun vq wq => ZV wq vq ((Int.fmod a b)),
                fun vq wq => WV wq vq b,
                fun vq _ => vq = .int .i64 ((-1)),
                fun vq _ => vq = .bool false,
                fun vq _ => vq = .bool false,
                fun vq _ => vq = .bool false,
                fun vq _ => vq = .bool false,
                fun vq wq => WV wq vq b,
                fun vq _ => vq = .int .i64 1,
                fun vq _ => vq = .bool false,
                fun vq _ => vq = .bool false,
                fun vq _ => vq = undef,
                fun vq _ => vq = undef,
                fun vq _ => vq = undef,
                fun vq _ => vq = undef,
                fun vq _ => vq = .bool false,
                fun vq _ => vq = .bool false]) (by kernel_rfl) (by kernel_rfl) (by decide) (by kernel_rfl) (by kernel_rfl) ?hF ?steps ?fin
            case hF =>
              intro j hj; cases hj
            case steps =>
              refine AllOps.cons (Does.plain rfl fun lq aq wq hk hr K hK => ?_) ?_
              · have B7 : ev aq (.tmp 7) = .int .i64 0 := hk.base 7 (by kernel_rfl) rfl
                exact wp_of_value (by go_simp) (hK.out _ _ (Grows.refl _) (fun w2 h2 => rfl) (fun h => absurd h (by decide)))
              refine AllOps.cons (Does.plain rfl fun lq aq wq hk hr K hK => ?_) ?_
              · obtain ⟨v0, E0, -, r0⟩ := hk.dep hr 0 60 (by kernel_rfl) (by kernel_rfl)
                replace E0 : ev aq (.tmp 60) = .int .i64 0 := E0.trans (r0 wq (Grows.refl wq))
                exact wp_of_value (by go_simp) (hK.out _ _ (Grows.refl _) (fun w2 h2 => rfl) (fun h => absurd h (by decide)))
              refine AllOps.cons (Does.plain rfl fun lq aq wq hk hr K hK => ?_) ?_
              · obtain ⟨v1, E1, -, r1⟩ := hk.dep hr 1 61 (by kernel_rfl) (by kernel_rfl)
                replace E1 : ev aq (.tmp 61) = .bool false := E1.trans (r1 wq (Grows.refl wq))
                exact wp_of_value (by go_simp) (hK.out _ _ (Grows.refl _) (fun w2 h2 => rfl) (fun h => absurd h (by decide)))
              refine AllOps.cons (Does.lets (g := 2) (d := 62) (t := false) rfl (by kernel_rfl) (by kernel_rfl) (fun vq wq h => h wq (Grows.refl wq)) fun lq aq wq hk hr K hK => ?_) ?_
              · have B9 : ev aq (.tmp 9) = .int .i64 0 := hk.base 9 (by kernel_rfl) rfl
                exact wp_of_value (by go_simp) (hK.out _ _ (Grows.refl _) (fun w2 h2 => rfl) (fun h => absurd h (by decide)))
              refine AllOps.cons (Does.lets (g := 2) (d := 62) (t := false) rfl (by kernel_rfl) (by kernel_rfl) (fun vq wq h => h wq (Grows.refl wq)) fun lq aq wq hk hr K hK => ?_) ?_
              · obtain ⟨v3, E3, -, r3⟩ := hk.dep hr 3 63 (by kernel_rfl) (by kernel_rfl)
                replace E3 : ev aq (.tmp 63) = .int .i64 0 := E3.trans (r3 wq (Grows.refl wq))
                exact wp_of_value (by go_simp) (hK.out _ _ (Grows.refl _) (fun w2 h2 => rfl) (fun h => absurd h (by decide)))
              refine AllOps.cons (Does.plain rfl fun lq aq wq hk hr K hK => ?_) ?_
              · obtain ⟨v2, E2, -, r2⟩ := hk.dep hr 2 62 (by kernel_rfl) (by kernel_rfl)
                replace E2 : ev aq (.tmp 62) = .bool false := E2.trans (r2 wq (Grows.refl wq))
                obtain ⟨v4, E4, -, r4⟩ := hk.dep hr 4 64 (by kernel_rfl) (by kernel_rfl)
                replace E4 : ev aq (.tmp 64) = .bool false := E4.trans (r4 wq (Grows.refl wq))
                exact wp_of_value (by go_simp) (hK.out _ _ (Grows.refl _) (fun w2 h2 => rfl) (fun h => absurd h (by decide)))
              refine AllOps.cons (Does.plain rfl fun lq aq wq hk hr K hK => ?_) ?_
              · obtain ⟨v5, E5, -, r5⟩ := hk.dep hr 5 65 (by kernel_rfl) (by kernel_rfl)
                replace E5 : ev aq (.tmp 65) = .bool false := E5.trans (r5 wq (Grows.refl wq))
                exact wp_of_value (by go_simp) (hK.out _ _ (Grows.refl _) (fun w2 h2 => rfl) (fun h => absurd h (by decide)))
              refine AllOps.cons (Does.lets (g := 6) (d := 66) (t := false) rfl (by kernel_rfl) (by kernel_rfl) (fun vq wq h => h wq (Grows.refl wq)) fun lq aq wq hk hr K hK => ?_) ?_
              · have B4 : ev aq (.tmp 4) = .pointer (some ⟨bb, 0, none⟩) := hk.base 4 (by kernel_rfl) rfl
                have hb := grows_of hk.ext
                exact wp_of_value (op_load 4 _ B4 (Box2.below Db.out hb)) (hK.out _ _ (Grows.refl _) (fun w2 h2 => ⟨_, _, _, _, rfl, (Sb.out.below hb).below h2⟩) (fun h => absurd h (by decide)))
              refine AllOps.cons (Does.lets (g := 6) (d := 66) (t := false) rfl (by kernel_rfl) (by kernel_rfl) (fun vq wq h => h wq (Grows.refl wq)) fun lq aq wq hk hr K hK => ?_) ?_
              · have B6 : ev aq (.tmp 6) = .pointer (some ⟨bq, 0, none⟩) := hk.base 6 (by kernel_rfl) rfl
                have hb := grows_of hk.ext
                exact wp_of_value (op_load 6 _ B6 (Box2.below Dq.out hb)) (hK.out _ _ (Grows.refl _) (fun w2 h2 => ⟨_, _, _, _, rfl, (Sq.out.below hb).below h2⟩) (fun h => absurd h (by decide)))
              refine AllOps.cons (Does.lets (g := 6) (d := 66) (t := false) rfl (by kernel_rfl) (by kernel_rfl) (fun vq wq h => h wq (Grows.refl wq)) fun lq aq wq hk hr K hK => ?_) ?_
              · obtain ⟨v7, E7, -, r7⟩ := hk.dep hr 7 67 (by kernel_rfl) (by kernel_rfl)
                have r7 : WV wq v7 b := r7 wq (Grows.refl wq)
                obtain ⟨n7, A7, k7, c7, rfl, s7⟩ := r7
                obtain ⟨v8, E8, -, r8⟩ := hk.dep hr 8 68 (by kernel_rfl) (by kernel_rfl)
                have r8 : ZV wq v8 ((Int.fdiv a b)) := r8 wq (Grows.refl wq)
                obtain ⟨n8, A8, k8, c8, rfl, s8⟩ := r8
                exact wp_of_value (op_row2 67 68 E7 E8) (hK.out _ _ ((Grows.refl _).alloc _) (fun w2 h2 => (RowV.two s7 s8.whole).grow h2) (fun h => absurd h (by decide)))
              refine AllOps.cons (Does.lets (g := 6) (d := 66) (t := false) rfl (by kernel_rfl) (by kernel_rfl) (fun vq wq h => h wq (Grows.refl wq)) fun lq aq wq hk hr K hK => ?_) ?_
              · obtain ⟨v9, E9, -, r9⟩ := hk.dep hr 9 69 (by kernel_rfl) (by kernel_rfl)
                have r9 : RowV wq v9 [b, (Int.fdiv a b)] := r9 wq (Grows.refl wq)
                refine wp_of_call (f := 28) (vs := #[v9]) (by go_simp) (mul2_v wq r9 (Nat.le_trans hkb (by decide)) (Nat.le_trans (szz_mul hkb (szz_fdiv b hka)) (by decide))) ?_
                rintro e w1 ⟨u, rfl, hu, hb⟩
                exact ⟨u, rfl, hK.out _ _ hb (fun w2 h2 => (hu).grow h2) (fun h => absurd h (by decide))⟩
              refine AllOps.cons (Does.lets (g := 6) (d := 66) (t := false) rfl (by kernel_rfl) (by kernel_rfl) (fun vq wq h => h wq (Grows.refl wq)) fun lq aq wq hk hr K hK => ?_) ?_
              · have B8 : ev aq (.tmp 8) = .pointer (some ⟨br, 0, none⟩) := hk.base 8 (by kernel_rfl) rfl
                have hb := grows_of hk.ext
                exact wp_of_value (op_load 8 _ B8 (Box2.below Dr.out hb)) (hK.out _ _ (Grows.refl _) (fun w2 h2 => ⟨_, _, _, _, rfl, (Sr.out.below hb).below h2⟩) (fun h => absurd h (by decide)))
              refine AllOps.cons (Does.lets (g := 6) (d := 66) (t := false) rfl (by kernel_rfl) (by kernel_rfl) (fun vq wq h => h wq (Grows.refl wq)) fun lq aq wq hk hr K hK => ?_) ?_
              · obtain ⟨v10, E10, -, r10⟩ := hk.dep hr 10 70 (by kernel_rfl) (by kernel_rfl)
                have r10 : ZV wq v10 ((b * (Int.fdiv a b))) := r10 wq (Grows.refl wq)
                obtain ⟨n10, A10, k10, c10, rfl, s10⟩ := r10
                obtain ⟨v11, E11, -, r11⟩ := hk.dep hr 11 71 (by kernel_rfl) (by kernel_rfl)
                have r11 : ZV wq v11 ((Int.fmod a b)) := r11 wq (Grows.refl wq)
                obtain ⟨n11, A11, k11, c11, rfl, s11⟩ := r11
                exact wp_of_value (op_row2 70 71 E10 E11) (hK.out _ _ ((Grows.refl _).alloc _) (fun w2 h2 => (RowV.two s10.whole s11.whole).grow h2) (fun h => absurd h (by decide)))
              refine AllOps.cons (Does.lets (g := 6) (d := 66) (t := false) rfl (by kernel_rfl) (by kernel_rfl) (fun vq wq h => h wq (Grows.refl wq)) fun lq aq wq hk hr K hK => ?_) ?_
              · obtain ⟨v12, E12, -, r12⟩ := hk.dep hr 12 72 (by kernel_rfl) (by kernel_rfl)
                have r12 : RowV wq v12 [(b * (Int.fdiv a b)), (Int.fmod a b)] := r12 wq (Grows.refl wq)
                refine wp_of_call (f := 27) (vs := #[v12]) (by go_simp) (add2_v wq r12 (Nat.le_trans (szz_mul hkb (szz_fdiv b hka)) (by decide)) (Nat.le_trans (szz_add (szz_mul hkb (szz_fdiv b hka)) (szz_fmod a hn0 hkb)) (by decide))) ?_
                rintro e w1 ⟨u, rfl, hu, hb⟩
                exact ⟨u, rfl, hK.out _ _ hb (fun w2 h2 => (hu).grow h2) (fun h => absurd h (by decide))⟩
              refine AllOps.cons (Does.lets (g := 6) (d := 66) (t := false) rfl (by kernel_rfl) (by kernel_rfl) (fun vq wq h => h wq (Grows.refl wq)) fun lq aq wq hk hr K hK => ?_) ?_
              · have B3 : ev aq (.tmp 3) = .pointer (some ⟨ba, 0, none⟩) := hk.base 3 (by kernel_rfl) rfl
                have hb := grows_of hk.ext
                exact wp_of_value (op_load 3 _ B3 (Box2.below Da.out hb)) (hK.out _ _ (Grows.refl _) (fun w2 h2 => ⟨_, _, _, _, rfl, (Sa.out.below hb).below h2⟩) (fun h => absurd h (by decide)))
              refine AllOps.cons (Does.lets (g := 6) (d := 66) (t := false) rfl (by kernel_rfl) (by kernel_rfl) (fun vq wq h => h wq (Grows.refl wq)) fun lq aq wq hk hr K hK => ?_) ?_
              · obtain ⟨v14, E14, -, r14⟩ := hk.dep hr 14 74 (by kernel_rfl) (by kernel_rfl)
                have r14 : WV wq v14 a := r14 wq (Grows.refl wq)
                obtain ⟨n14, A14, k14, c14, rfl, s14⟩ := r14
                exact wp_of_value (op_row1 74 E14) (hK.out _ _ ((Grows.refl _).alloc _) (fun w2 h2 => (RowV.one s14).grow h2) (fun h => absurd h (by decide)))
              refine AllOps.cons (Does.lets (g := 6) (d := 66) (t := false) rfl (by kernel_rfl) (by kernel_rfl) (fun vq wq h => h wq (Grows.refl wq)) fun lq aq wq hk hr K hK => ?_) ?_
              · obtain ⟨v15, E15, -, r15⟩ := hk.dep hr 15 75 (by kernel_rfl) (by kernel_rfl)
                have r15 : RowV wq v15 [a] := r15 wq (Grows.refl wq)
                refine wp_of_call (f := 27) (vs := #[v15]) (by go_simp) (add1_v wq r15 (Nat.le_trans hka (by decide))) ?_
                rintro e w1 ⟨u, rfl, hu, hb⟩
                exact ⟨u, rfl, hK.out _ _ hb (fun w2 h2 => (hu).grow h2) (fun h => absurd h (by decide))⟩
              refine AllOps.cons (Does.lets (g := 6) (d := 66) (t := false) rfl (by kernel_rfl) (by kernel_rfl) (fun vq wq h => h wq (Grows.refl wq)) fun lq aq wq hk hr K hK => ?_) ?_
              · obtain ⟨v13, E13, -, r13⟩ := hk.dep hr 13 73 (by kernel_rfl) (by kernel_rfl)
                have r13 : ZV wq v13 (((b * (Int.fdiv a b)) + (Int.fmod a b))) := r13 wq (Grows.refl wq)
                obtain ⟨v16, E16, -, r16⟩ := hk.dep hr 16 76 (by kernel_rfl) (by kernel_rfl)
                have r16 : ZV wq v16 a := r16 wq (Grows.refl wq)
                refine wp_of_call (f := 26) (vs := #[v13, v16]) (by go_simp) (same_v wq r13 r16 (t := true) floor_ok) ?_
                rintro e w1 ⟨u, rfl, hu, hb⟩
                exact ⟨u, rfl, hK.out _ _ hb (fun w2 h2 => hu) (fun h => absurd h (by decide))⟩
              refine AllOps.cons (Does.lets (g := 6) (d := 66) (t := false) rfl (by kernel_rfl) (by kernel_rfl) (fun vq wq h => h wq (Grows.refl wq)) fun lq aq wq hk hr K hK => ?_) ?_
              · obtain ⟨v17, E17, -, r17⟩ := hk.dep hr 17 77 (by kernel_rfl) (by kernel_rfl)
                replace E17 : ev aq (.tmp 77) = .bool true := E17.trans (r17 wq (Grows.refl wq))
                exact wp_of_value (by go_simp) (hK.out _ _ (Grows.refl _) (fun w2 h2 => rfl) (fun h => absurd h (by decide)))
              refine AllOps.cons (Does.plain rfl fun lq aq wq hk hr K hK => ?_) ?_
              · obtain ⟨v6, E6, -, r6⟩ := hk.dep hr 6 66 (by kernel_rfl) (by kernel_rfl)
                replace E6 : ev aq (.tmp 66) = .bool false := E6.trans (r6 wq (Grows.refl wq))
                obtain ⟨v18, E18, -, r18⟩ := hk.dep hr 18 78 (by kernel_rfl) (by kernel_rfl)
                replace E18 : ev aq (.tmp 78) = .bool false := E18.trans (r18 wq (Grows.refl wq))
                exact wp_of_value (by go_simp) (hK.out _ _ (Grows.refl _) (fun w2 h2 => rfl) (fun h => absurd h (by decide)))
              refine AllOps.cons (Does.plain rfl fun lq aq wq hk hr K hK => ?_) ?_
              · obtain ⟨v19, E19, -, r19⟩ := hk.dep hr 19 79 (by kernel_rfl) (by kernel_rfl)
                replace E19 : ev aq (.tmp 79) = .bool false := E19.trans (r19 wq (Grows.refl wq))
                exact wp_of_value (by go_simp) (hK.out _ _ (Grows.refl _) (fun w2 h2 => rfl) (fun h => absurd h (by decide)))
              refine AllOps.cons (Does.lets (g := 20) (d := 80) (t := false) rfl (by kernel_rfl) (by kernel_rfl) (fun vq wq h => h wq (Grows.refl wq)) fun lq aq wq hk hr K hK => ?_) ?_
              · have B8 : ev aq (.tmp 8) = .pointer (some ⟨br, 0, none⟩) := hk.base 8 (by kernel_rfl) rfl
                have hb := grows_of hk.ext
                exact wp_of_value (op_load 8 _ B8 (Box2.below Dr.out hb)) (hK.out _ _ (Grows.refl _) (fun w2 h2 => ⟨_, _, _, _, rfl, (Sr.out.below hb).below h2⟩) (fun h => absurd h (by decide)))
              refine AllOps.cons (Does.lets (g := 20) (d := 80) (t := false) rfl (by kernel_rfl) (by kernel_rfl) (fun vq wq h => h wq (Grows.refl wq)) fun lq aq wq hk hr K hK => ?_) ?_
              · obtain ⟨v21, E21, -, r21⟩ := hk.dep hr 21 81 (by kernel_rfl) (by kernel_rfl)
                have r21 : ZV wq v21 ((Int.fmod a b)) := r21 wq (Grows.refl wq)
                refine wp_of_call (f := 36) (vs := #[v21]) (by go_simp) (sign_v wq (r21).wv (k := 0) (by rw [hr0]; rfl)) ?_
                rintro e w1 ⟨u, rfl, hu, hb⟩
                exact ⟨u, rfl, hK.out _ _ hb (fun w2 h2 => hu) (fun h => absurd h (by decide))⟩
              refine AllOps.cons (Does.lets (g := 20) (d := 80) (t := false) rfl (by kernel_rfl) (by kernel_rfl) (fun vq wq h => h wq (Grows.refl wq)) fun lq aq wq hk hr K hK => ?_) ?_
              · obtain ⟨v22, E22, -, r22⟩ := hk.dep hr 22 82 (by kernel_rfl) (by kernel_rfl)
                replace E22 : ev aq (.tmp 82) = .int .i64 0 := E22.trans (r22 wq (Grows.refl wq))
                exact wp_of_value (by go_simp) (hK.out _ _ (Grows.refl _) (fun w2 h2 => rfl) (fun h => absurd h (by decide)))
              refine AllOps.cons (Does.lets (g := 20) (d := 80) (t := false) rfl (by kernel_rfl) (by kernel_rfl) (fun vq wq h => h wq (Grows.refl wq)) fun lq aq wq hk hr K hK => ?_) ?_
              · obtain ⟨v23, E23, -, r23⟩ := hk.dep hr 23 83 (by kernel_rfl) (by kernel_rfl)
                replace E23 : ev aq (.tmp 83) = .bool false := E23.trans (r23 wq (Grows.refl wq))
                exact wp_of_value (by go_simp) (hK.out _ _ (Grows.refl _) (fun w2 h2 => rfl) (fun h => absurd h (by decide)))
              refine AllOps.cons (Does.bars (g := 24) (d := 84) (t := true) (u := false) rfl (by kernel_rfl) (by kernel_rfl) (fun vq wq h => h wq (Grows.refl wq)) (by decide) (fun _ _ _ => rfl) rfl) ?_
              refine AllOps.cons (Does.bars (g := 24) (d := 84) (t := true) (u := false) rfl (by kernel_rfl) (by kernel_rfl) (fun vq wq h => h wq (Grows.refl wq)) (by decide) (fun _ _ _ => rfl) rfl) ?_
              refine AllOps.cons (Does.bars (g := 24) (d := 84) (t := true) (u := false) rfl (by kernel_rfl) (by kernel_rfl) (fun vq wq h => h wq (Grows.refl wq)) (by decide) (fun _ _ _ => rfl) rfl) ?_
              refine AllOps.cons (Does.bars (g := 24) (d := 84) (t := true) (u := false) rfl (by kernel_rfl) (by kernel_rfl) (fun vq wq h => h wq (Grows.refl wq)) (by decide) (fun _ _ _ => rfl) rfl) ?_
              refine AllOps.cons (Does.bars (g := 24) (d := 84) (t := true) (u := false) rfl (by kernel_rfl) (by kernel_rfl) (fun vq wq h => h wq (Grows.refl wq)) (by decide) (fun _ _ _ => rfl) rfl) ?_
              refine AllOps.cons (Does.lets (g := 20) (d := 80) (t := false) rfl (by kernel_rfl) (by kernel_rfl) (fun vq wq h => h wq (Grows.refl wq)) fun lq aq wq hk hr K hK => ?_) ?_
              · obtain ⟨v24, E24, -, r24⟩ := hk.dep hr 24 84 (by kernel_rfl) (by kernel_rfl)
                replace E24 : ev aq (.tmp 84) = .bool false := E24.trans (r24 wq (Grows.refl wq))
                exact wp_of_value (by go_simp) (hK.out _ _ (Grows.refl _) (fun w2 h2 => rfl) (fun h => absurd h (by decide)))
              refine AllOps.cons (Does.plain rfl fun lq aq wq hk hr K hK => ?_) ?_
              · obtain ⟨v20, E20, -, r20⟩ := hk.dep hr 20 80 (by kernel_rfl) (by kernel_rfl)
                replace E20 : ev aq (.tmp 80) = .bool false := E20.trans (r20 wq (Grows.refl wq))
                obtain ⟨v30, E30, -, r30⟩ := hk.dep hr 30 90 (by kernel_rfl) (by kernel_rfl)
                replace E30 : ev aq (.tmp 90) = .bool false := E30.trans (r30 wq (Grows.refl wq))
                exact wp_of_value (by go_simp) (hK.out _ _ (Grows.refl _) (fun w2 h2 => rfl) (fun h => absurd h (by decide)))
              refine AllOps.cons (Does.plain rfl fun lq aq wq hk hr K hK => ?_) ?_
              · obtain ⟨v31, E31, -, r31⟩ := hk.dep hr 31 91 (by kernel_rfl) (by kernel_rfl)
                replace E31 : ev aq (.tmp 91) = .bool false := E31.trans (r31 wq (Grows.refl wq))
                exact wp_of_value (by go_simp) (hK.out _ _ (Grows.refl _) (fun w2 h2 => rfl) (fun h => absurd h (by decide)))
              refine AllOps.cons (Does.lets (g := 32) (d := 92) (t := false) rfl (by kernel_rfl) (by kernel_rfl) (fun vq wq h => h wq (Grows.refl wq)) fun lq aq wq hk hr K hK => ?_) ?_
              · have B4 : ev aq (.tmp 4) = .pointer (some ⟨bb, 0, none⟩) := hk.base 4 (by kernel_rfl) rfl
                have hb := grows_of hk.ext
                exact wp_of_value (op_load 4 _ B4 (Box2.below Db.out hb)) (hK.out _ _ (Grows.refl _) (fun w2 h2 => ⟨_, _, _, _, rfl, (Sb.out.below hb).below h2⟩) (fun h => absurd h (by decide)))
              refine AllOps.cons (Does.lets (g := 32) (d := 92) (t := false) rfl (by kernel_rfl) (by kernel_rfl) (fun vq wq h => h wq (Grows.refl wq)) fun lq aq wq hk hr K hK => ?_) ?_
              · obtain ⟨v33, E33, -, r33⟩ := hk.dep hr 33 93 (by kernel_rfl) (by kernel_rfl)
                have r33 : WV wq v33 b := r33 wq (Grows.refl wq)
                refine wp_of_call (f := 36) (vs := #[v33]) (by go_simp) (sign_v wq r33 (k := 1) (Int.sign_eq_one_of_pos h0)) ?_
                rintro e w1 ⟨u, rfl, hu, hb⟩
                exact ⟨u, rfl, hK.out _ _ hb (fun w2 h2 => hu) (fun h => absurd h (by decide))⟩
              refine AllOps.cons (Does.lets (g := 32) (d := 92) (t := false) rfl (by kernel_rfl) (by kernel_rfl) (fun vq wq h => h wq (Grows.refl wq)) fun lq aq wq hk hr K hK => ?_) ?_
              · obtain ⟨v34, E34, -, r34⟩ := hk.dep hr 34 94 (by kernel_rfl) (by kernel_rfl)
                replace E34 : ev aq (.tmp 94) = .int .i64 1 := E34.trans (r34 wq (Grows.refl wq))
                exact wp_of_value (by go_simp) (hK.out _ _ (Grows.refl _) (fun w2 h2 => rfl) (fun h => absurd h (by decide)))
              refine AllOps.cons (Does.lets (g := 32) (d := 92) (t := false) rfl (by kernel_rfl) (by kernel_rfl) (fun vq wq h => h wq (Grows.refl wq)) fun lq aq wq hk hr K hK => ?_) ?_
              · obtain ⟨v35, E35, -, r35⟩ := hk.dep hr 35 95 (by kernel_rfl) (by kernel_rfl)
                replace E35 : ev aq (.tmp 95) = .bool true := E35.trans (r35 wq (Grows.refl wq))
                exact wp_of_value (by go_simp) (hK.out _ _ (Grows.refl _) (fun w2 h2 => rfl) (fun h => absurd h (by decide)))
              refine AllOps.cons (Does.lets (g := 36) (d := 96) (t := true) rfl (by kernel_rfl) (by kernel_rfl) (fun vq wq h => h wq (Grows.refl wq)) fun lq aq wq hk hr K hK => ?_) ?_
              · have B8 : ev aq (.tmp 8) = .pointer (some ⟨br, 0, none⟩) := hk.base 8 (by kernel_rfl) rfl
                have hb := grows_of hk.ext
                exact wp_of_value (op_load 8 _ B8 (Box2.below Dr.out hb)) (hK.out _ _ (Grows.refl _) (fun w2 h2 => ⟨_, _, _, _, rfl, (Sr.out.below hb).below h2⟩) (fun h => absurd h (by decide)))
              refine AllOps.cons (Does.lets (g := 36) (d := 96) (t := true) rfl (by kernel_rfl) (by kernel_rfl) (fun vq wq h => h wq (Grows.refl wq)) fun lq aq wq hk hr K hK => ?_) ?_
              · have B4 : ev aq (.tmp 4) = .pointer (some ⟨bb, 0, none⟩) := hk.base 4 (by kernel_rfl) rfl
                have hb := grows_of hk.ext
                exact wp_of_value (op_load 4 _ B4 (Box2.below Db.out hb)) (hK.out _ _ (Grows.refl _) (fun w2 h2 => ⟨_, _, _, _, rfl, (Sb.out.below hb).below h2⟩) (fun h => absurd h (by decide)))
              refine AllOps.cons (Does.lets (g := 36) (d := 96) (t := true) rfl (by kernel_rfl) (by kernel_rfl) (fun vq wq h => h wq (Grows.refl wq)) fun lq aq wq hk hr K hK => ?_) ?_
              · obtain ⟨v37, E37, -, r37⟩ := hk.dep hr 37 97 (by kernel_rfl) (by kernel_rfl)
                have r37 : ZV wq v37 ((Int.fmod a b)) := r37 wq (Grows.refl wq)
                obtain ⟨v38, E38, -, r38⟩ := hk.dep hr 38 98 (by kernel_rfl) (by kernel_rfl)
                have r38 : WV wq v38 b := r38 wq (Grows.refl wq)
                refine wp_of_call (f := 37) (vs := #[v37, v38]) (by go_simp) (cmp_v wq (r37).wv r38 (k := (-1)) (fmod_cmp h0)) ?_
                rintro e w1 ⟨u, rfl, hu, hb⟩
                exact ⟨u, rfl, hK.out _ _ hb (fun w2 h2 => hu) (fun h => absurd h (by decide))⟩
              refine AllOps.cons (Does.lets (g := 36) (d := 96) (t := true) rfl (by kernel_rfl) (by kernel_rfl) (fun vq wq h => h wq (Grows.refl wq)) fun lq aq wq hk hr K hK => ?_) ?_
              · obtain ⟨v39, E39, -, r39⟩ := hk.dep hr 39 99 (by kernel_rfl) (by kernel_rfl)
                replace E39 : ev aq (.tmp 99) = .int .i64 ((-1)) := E39.trans (r39 wq (Grows.refl wq))
                exact wp_of_value (by go_simp) (hK.out _ _ (Grows.refl _) (fun w2 h2 => rfl) (fun h => absurd h (by decide)))
              refine AllOps.cons (Does.lets (g := 32) (d := 92) (t := false) rfl (by kernel_rfl) (by kernel_rfl) (fun vq wq h => h wq (Grows.refl wq)) fun lq aq wq hk hr K hK => ?_) ?_
              · obtain ⟨v36, E36, -, r36⟩ := hk.dep hr 36 96 (by kernel_rfl) (by kernel_rfl)
                replace E36 : ev aq (.tmp 96) = .bool true := E36.trans (r36 wq (Grows.refl wq))
                obtain ⟨v40, E40, -, r40⟩ := hk.dep hr 40 100 (by kernel_rfl) (by kernel_rfl)
                replace E40 : ev aq (.tmp 100) = .bool false := E40.trans (r40 wq (Grows.refl wq))
                exact wp_of_value (by go_simp) (hK.out _ _ (Grows.refl _) (fun w2 h2 => rfl) (fun h => absurd h (by decide)))
              refine AllOps.cons (Does.plain rfl fun lq aq wq hk hr K hK => ?_) ?_
              · obtain ⟨v32, E32, -, r32⟩ := hk.dep hr 32 92 (by kernel_rfl) (by kernel_rfl)
                replace E32 : ev aq (.tmp 92) = .bool false := E32.trans (r32 wq (Grows.refl wq))
                obtain ⟨v41, E41, -, r41⟩ := hk.dep hr 41 101 (by kernel_rfl) (by kernel_rfl)
                replace E41 : ev aq (.tmp 101) = .bool false := E41.trans (r41 wq (Grows.refl wq))
                exact wp_of_value (by go_simp) (hK.out _ _ (Grows.refl _) (fun w2 h2 => rfl) (fun h => absurd h (by decide)))
              refine AllOps.cons (Does.plain rfl fun lq aq wq hk hr K hK => ?_) ?_
              · obtain ⟨v42, E42, -, r42⟩ := hk.dep hr 42 102 (by kernel_rfl) (by kernel_rfl)
                replace E42 : ev aq (.tmp 102) = .bool false := E42.trans (r42 wq (Grows.refl wq))
                exact wp_of_value (by go_simp) (hK.out _ _ (Grows.refl _) (fun w2 h2 => rfl) (fun h => absurd h (by decide)))
              refine AllOps.cons (Does.lets (g := 43) (d := 103) (t := false) rfl (by kernel_rfl) (by kernel_rfl) (fun vq wq h => h wq (Grows.refl wq)) fun lq aq wq hk hr K hK => ?_) ?_
              · have B4 : ev aq (.tmp 4) = .pointer (some ⟨bb, 0, none⟩) := hk.base 4 (by kernel_rfl) rfl
                have hb := grows_of hk.ext
                exact wp_of_value (op_load 4 _ B4 (Box2.below Db.out hb)) (hK.out _ _ (Grows.refl _) (fun w2 h2 => ⟨_, _, _, _, rfl, (Sb.out.below hb).below h2⟩) (fun h => absurd h (by decide)))
              refine AllOps.cons (Does.lets (g := 43) (d := 103) (t := false) rfl (by kernel_rfl) (by kernel_rfl) (fun vq wq h => h wq (Grows.refl wq)) fun lq aq wq hk hr K hK => ?_) ?_
              · obtain ⟨v44, E44, -, r44⟩ := hk.dep hr 44 104 (by kernel_rfl) (by kernel_rfl)
                have r44 : WV wq v44 b := r44 wq (Grows.refl wq)
                refine wp_of_call (f := 36) (vs := #[v44]) (by go_simp) (sign_v wq r44 (k := 1) (Int.sign_eq_one_of_pos h0)) ?_
                rintro e w1 ⟨u, rfl, hu, hb⟩
                exact ⟨u, rfl, hK.out _ _ hb (fun w2 h2 => hu) (fun h => absurd h (by decide))⟩
              refine AllOps.cons (Does.lets (g := 43) (d := 103) (t := false) rfl (by kernel_rfl) (by kernel_rfl) (fun vq wq h => h wq (Grows.refl wq)) fun lq aq wq hk hr K hK => ?_) ?_
              · obtain ⟨v45, E45, -, r45⟩ := hk.dep hr 45 105 (by kernel_rfl) (by kernel_rfl)
                replace E45 : ev aq (.tmp 105) = .int .i64 1 := E45.trans (r45 wq (Grows.refl wq))
                exact wp_of_value (by go_simp) (hK.out _ _ (Grows.refl _) (fun w2 h2 => rfl) (fun h => absurd h (by decide)))
              refine AllOps.cons (Does.lets (g := 43) (d := 103) (t := false) rfl (by kernel_rfl) (by kernel_rfl) (fun vq wq h => h wq (Grows.refl wq)) fun lq aq wq hk hr K hK => ?_) ?_
              · obtain ⟨v46, E46, -, r46⟩ := hk.dep hr 46 106 (by kernel_rfl) (by kernel_rfl)
                replace E46 : ev aq (.tmp 106) = .bool false := E46.trans (r46 wq (Grows.refl wq))
                exact wp_of_value (by go_simp) (hK.out _ _ (Grows.refl _) (fun w2 h2 => rfl) (fun h => absurd h (by decide)))
              refine AllOps.cons (Does.bars (g := 47) (d := 107) (t := true) (u := false) rfl (by kernel_rfl) (by kernel_rfl) (fun vq wq h => h wq (Grows.refl wq)) (by decide) (fun _ _ _ => rfl) rfl) ?_
              refine AllOps.cons (Does.bars (g := 47) (d := 107) (t := true) (u := false) rfl (by kernel_rfl) (by kernel_rfl) (fun vq wq h => h wq (Grows.refl wq)) (by decide) (fun _ _ _ => rfl) rfl) ?_
              refine AllOps.cons (Does.bars (g := 47) (d := 107) (t := true) (u := false) rfl (by kernel_rfl) (by kernel_rfl) (fun vq wq h => h wq (Grows.refl wq)) (by decide) (fun _ _ _ => rfl) rfl) ?_
              refine AllOps.cons (Does.bars (g := 47) (d := 107) (t := true) (u := false) rfl (by kernel_rfl) (by kernel_rfl) (fun vq wq h => h wq (Grows.refl wq)) (by decide) (fun _ _ _ => rfl) rfl) ?_
              refine AllOps.cons (Does.lets (g := 43) (d := 103) (t := false) rfl (by kernel_rfl) (by kernel_rfl) (fun vq wq h => h wq (Grows.refl wq)) fun lq aq wq hk hr K hK => ?_) ?_
              · obtain ⟨v47, E47, -, r47⟩ := hk.dep hr 47 107 (by kernel_rfl) (by kernel_rfl)
                replace E47 : ev aq (.tmp 107) = .bool false := E47.trans (r47 wq (Grows.refl wq))
                exact wp_of_value (by go_simp) (hK.out _ _ (Grows.refl _) (fun w2 h2 => rfl) (fun h => absurd h (by decide)))
              refine AllOps.cons (Does.plain rfl fun lq aq wq hk hr K hK => ?_) ?_
              · obtain ⟨v43, E43, -, r43⟩ := hk.dep hr 43 103 (by kernel_rfl) (by kernel_rfl)
                replace E43 : ev aq (.tmp 103) = .bool false := E43.trans (r43 wq (Grows.refl wq))
                obtain ⟨v52, E52, -, r52⟩ := hk.dep hr 52 112 (by kernel_rfl) (by kernel_rfl)
                replace E52 : ev aq (.tmp 112) = .bool false := E52.trans (r52 wq (Grows.refl wq))
                exact wp_of_value (by go_simp) (hK.out _ _ (Grows.refl _) (fun w2 h2 => rfl) (fun h => absurd h (by decide)))
              exact AllOps.nil
            case fin =>
              intro V x7 hG hV hap
              have r53 : (V 53) = .bool false := hV 53 (by decide)
              clear hV hap
              simp only [List.take_succ_cons, List.take_nil, List.drop_succ_cons, List.drop_nil, putAll, Act.put, List.setIfInBounds_toArray, List.set_cons_zero, List.set_cons_succ]
              have hb := grows_of hG
              replace Da := Lib.hid (Box2.below Da.out hb)
              replace Sa := Lib.hid (Sa.out.below hb)
              replace Db := Lib.hid (Box2.below Db.out hb)
              replace Sb := Lib.hid (Sb.out.below hb)
              replace Dc := Lib.hid (Box2.below Dc.out hb)
              replace Sc := Lib.hid (Sc.out.below hb)
              replace Dq := Lib.hid (Box2.below Dq.out hb)
              replace Sq := Lib.hid (Sq.out.below hb)
              replace Dr := Lib.hid (Box2.below Dr.out hb)
              replace Sr := Lib.hid (Sr.out.below hb)
              replace HB := Lib.hid (HB.out.trans (Below.mono hb HB.out.size))
              clear hb hG
              rw [r53]
              clear r53
              go_upto_region 10 with fail
              refine wp_region_calm 7 [6] ([fun vq wq => WV wq vq c,
                  fun vq wq => WV wq vq b,
                  fun vq wq => ∃ u0, vq = .tuple #[u0, .int .i64 0] ∧ ZV wq u0 ((Int.fmod c b)),
                  fun vq wq => ∃ u0, vq = .tuple #[u0, .int .i64 0] ∧ ZV wq u0 ((Int.fmod c b)),
                  fun vq wq => ZV wq vq ((Int.fmod c b)),
                  fun vq _ => vq = .int .i64 0,
                  fun vq wq => ∃ bq, vq = .pointer (some ⟨bq, 0, none⟩) ∧ Box2 wq bq 24 (.bool false) (.slice none 0 0) ∧ (x7).heap.size ≤ bq]) (by kernel_rfl) (by decide) ?hF ?steps ?fin
              case hF =>
                intro j hj v w h
                simp only [List.mem_cons, List.not_mem_nil, or_false] at hj
                subst hj
                all_goals (obtain ⟨b, rfl, hB, _⟩ := h; exact hB.lt)
              case steps =>
                refine AllOps.cons (Does.plain rfl fun lq aq wq hk hr K hK => ?_) ?_
                · have B5 : ev aq (.tmp 5) = .pointer (some ⟨bc, 0, none⟩) := hk.base 5 (by kernel_rfl) rfl
                  have hb : Below _ _ _ := hk.ext
                  exact wp_of_value (op_load 5 _ B5 (Box2.below Dc.out hb)) (hK.out _ _ (Grows.refl _) (fun w2 h2 => ⟨_, _, _, _, rfl, (Sc.out.below hb).below h2⟩) (fun h => absurd h (by decide)))
                refine AllOps.cons (Does.plain rfl fun lq aq wq hk hr K hK => ?_) ?_
                · have B4 : ev aq (.tmp 4) = .pointer (some ⟨bb, 0, none⟩) := hk.base 4 (by kernel_rfl) rfl
                  have hb : Below _ _ _ := hk.ext
                  exact wp_of_value (op_load 4 _ B4 (Box2.below Db.out hb)) (hK.out _ _ (Grows.refl _) (fun w2 h2 => ⟨_, _, _, _, rfl, (Sb.out.below hb).below h2⟩) (fun h => absurd h (by decide)))
                refine AllOps.cons (Does.plain rfl fun lq aq wq hk hr K hK => ?_) ?_
                · obtain ⟨v0, E0, -, r0⟩ := hk.dep hr 0 115 (by kernel_rfl) (by kernel_rfl)
                  have r0 : WV wq v0 c := r0 wq (Grows.refl wq)
                  obtain ⟨v1, E1, -, r1⟩ := hk.dep hr 1 116 (by kernel_rfl) (by kernel_rfl)
                  have r1 : WV wq v1 b := r1 wq (Grows.refl wq)
                  refine wp_of_call (f := 17) (vs := #[v0, v1]) (by go_simp) (mod_v wq r0 r1 hn0 (Nat.le_trans (szz_fmod c hn0 hkb) (by decide))) ?_
                  rintro e w1 ⟨u, rfl, hu, hb⟩
                  exact ⟨u, rfl, hK.out _ _ hb (fun w2 h2 => (let ⟨u0, e0, h0⟩ := hu; ⟨u0, e0, (h0).grow h2⟩)) (fun h => absurd h (by decide))⟩
                refine AllOps.cons (Does.plain rfl fun lq aq wq hk hr K hK => ?_) ?_
                · obtain ⟨v2, E2, -, r2⟩ := hk.dep hr 2 117 (by kernel_rfl) (by kernel_rfl)
                  have r2 : ∃ u0, v2 = .tuple #[u0, .int .i64 0] ∧ ZV wq u0 ((Int.fmod c b)) := r2 wq (Grows.refl wq)
                  exact wp_of_value (by go_simp) (hK.out _ _ (Grows.refl _) (fun w2 h2 => (let ⟨u0, e0, h0⟩ := r2; ⟨u0, e0, (h0).grow h2⟩)) (fun h => absurd h (by decide)))
                refine AllOps.cons (Does.plain rfl fun lq aq wq hk hr K hK => ?_) ?_
                · obtain ⟨v3, E3, -, r3⟩ := hk.dep hr 3 114 (by kernel_rfl) (by kernel_rfl)
                  have r3 : ∃ u0, v3 = .tuple #[u0, .int .i64 0] ∧ ZV wq u0 ((Int.fmod c b)) := r3 wq (Grows.refl wq)
                  obtain ⟨u0, rfl, h0⟩ := r3
                  exact wp_of_value (by go_simp) (hK.out _ _ (Grows.refl _) (fun w2 h2 => (h0).grow h2) (fun h => absurd h (by decide)))
                refine AllOps.cons (Does.plain rfl fun lq aq wq hk hr K hK => ?_) ?_
                · obtain ⟨v3, E3, -, r3⟩ := hk.dep hr 3 114 (by kernel_rfl) (by kernel_rfl)
                  have r3 : ∃ u0, v3 = .tuple #[u0, .int .i64 0] ∧ ZV wq u0 ((Int.fmod c b)) := r3 wq (Grows.refl wq)
                  obtain ⟨u0, rfl, h0⟩ := r3
                  exact wp_of_value (by go_simp) (hK.out _ _ (Grows.refl _) (fun w2 h2 => rfl) (fun h => absurd h (by decide)))
                refine AllOps.cons (Does.plain rfl fun lq aq wq hk hr K hK => ?_) ?_
                · exact wp_of_value (by go_simp) (hK.out _ _ ((Grows.refl _).alloc _) (fun w2 h2 => ⟨_, rfl, (Box2.new wq 24 _ _).below h2, hk.ext.size⟩) (fun _ => Nat.le_refl _))
                exact AllOps.nil
              case fin =>
                intro V x8 hG hV hap
                have r4 : ZV x8 (V 4) ((Int.fmod c b)) := hV 4 (by decide)
                have r5 : (V 5) = .int .i64 0 := hV 5 (by decide)
                have r6 : ∃ bq, (V 6) = .pointer (some ⟨bq, 0, none⟩) ∧ Box2 x8 bq 24 (.bool false) (.slice none 0 0) ∧ (x7).heap.size ≤ bq := hV 6 (by decide)
                clear hV
                simp only [List.take_succ_cons, List.take_zero, List.drop_succ_cons, List.drop_zero, putAll, Act.put, List.setIfInBounds_toArray, List.set_cons_zero, List.set_cons_succ]
                have hb := (show Below _ _ _ from hG)
                obtain ⟨bl, el, Dl, gl⟩ := r6
                obtain ⟨nl, Al, kl, cl, el', sl⟩ := r4
                simp only [el, el', r5]
                clear el el' hap r5
                refine wpList_of_skip rfl (op_store 10 118 _ rfl rfl Dl) ?_
                have hB := put2_below (u := .bool nl) (v := .slice Al kl cl) hb gl
                replace sl := sl.put Dl (.bool nl) (.slice Al kl cl)
                replace Dl := put2_own (u := .bool nl) (v := .slice Al kl cl) Dl
                clear hb
                generalize put2 x8 bl (.bool nl) (.slice Al kl cl) = y9 at *
                replace Da := Lib.hid (Box2.below Da.out hB)
                replace Sa := Lib.hid (Sa.out.below hB)
                replace Db := Lib.hid (Box2.below Db.out hB)
                replace Sb := Lib.hid (Sb.out.below hB)
                replace Dc := Lib.hid (Box2.below Dc.out hB)
                replace Sc := Lib.hid (Sc.out.below hB)
                replace Dq := Lib.hid (Box2.below Dq.out hB)
                replace Sq := Lib.hid (Sq.out.below hB)
                replace Dr := Lib.hid (Box2.below Dr.out hB)
                replace Sr := Lib.hid (Sr.out.below hB)
                replace HB := Lib.hid (HB.out.trans (Below.mono hB HB.out.size))
                replace Dl := Lib.hid Dl
                have Sl := Lib.hid sl
                clear hG hB gl sl
                go_upto_region 11 with fail
                refine wp_region_prompt 13 11 [12] ([fun vq wq => WV wq vq a,
                    fun vq wq => WV wq vq b,
                    fun vq wq => RowV wq vq [a, b],
                    fun vq wq => ZV wq vq ((a * b)),
                    fun vq wq => ZV wq vq ((Int.fmod c b)),
                    fun vq wq => RowV wq vq [(a * b), (Int.fmod c b)],
                    fun vq wq => ZV wq vq (((a * b) + (Int.fmod c b))),
                    fun vq wq => WV wq vq b,
                    fun vq wq => ∃ u0, vq = .tuple #[u0, .int .i64 0] ∧ ZV wq u0 ((Int.fdiv ((a * b) + (Int.fmod c b)) b)),
                    fun vq wq => ∃ u0, vq = .tuple #[u0, .int .i64 0] ∧ ZV wq u0 ((Int.fdiv ((a * b) + (Int.fmod c b)) b)),
                    fun vq wq => ZV wq vq ((Int.fdiv ((a * b) + (Int.fmod c b)) b)),
                    fun vq _ => vq = .int .i64 0,
                    fun vq wq => ∃ bq, vq = .pointer (some ⟨bq, 0, none⟩) ∧ Box2 wq bq 24 (.bool false) (.slice none 0 0) ∧ (y9).heap.size ≤ bq]) rfl (by kernel_rfl) (by kernel_rfl) (by decide) (by kernel_rfl) (by kernel_rfl) (by kernel_rfl) (by kernel_rfl) (by decide) (fun _ _ _ _ h => h) ?hF ?hy ?steps ?fin
                case hy =>
                  intro lq aq wq hk hr
                  obtain ⟨v9, E9, -, r9⟩ := hk.dep hr 9 120 (by kernel_rfl) (by kernel_rfl)
                  have r9 : ∃ u0, v9 = .tuple #[u0, .int .i64 0] ∧ ZV wq u0 ((Int.fdiv ((a * b) + (Int.fmod c b)) b)) := r9 wq (Grows.refl wq)
                  obtain ⟨u0, rfl, h0⟩ := r9
                  exact ⟨_, yields_of rfl (fun w2 => by go_simp), fun w2 h2 => rfl⟩
                case hF =>
                  intro j hj v w h
                  simp only [List.mem_cons, List.not_mem_nil, or_false] at hj
                  subst hj
                  all_goals (obtain ⟨b, rfl, hB, _⟩ := h; exact hB.lt)
                case steps =>
                  refine AllOps.cons (fun _ => Does.plain rfl fun lq aq wq hk hr K hK => ?_) ?_
                  · have B3 : ev aq (.tmp 3) = .pointer (some ⟨ba, 0, none⟩) := hk.base 3 (by kernel_rfl) rfl
                    have hb := grows_of hk.ext
                    exact wp_of_value (op_load 3 _ B3 (Box2.below Da.out hb)) (hK.out _ _ (Grows.refl _) (fun w2 h2 => ⟨_, _, _, _, rfl, (Sa.out.below hb).below h2⟩) (fun h => absurd h (by decide)))
                  refine AllOps.cons (fun _ => Does.plain rfl fun lq aq wq hk hr K hK => ?_) ?_
                  · have B4 : ev aq (.tmp 4) = .pointer (some ⟨bb, 0, none⟩) := hk.base 4 (by kernel_rfl) rfl
                    have hb := grows_of hk.ext
                    exact wp_of_value (op_load 4 _ B4 (Box2.below Db.out hb)) (hK.out _ _ (Grows.refl _) (fun w2 h2 => ⟨_, _, _, _, rfl, (Sb.out.below hb).below h2⟩) (fun h => absurd h (by decide)))
                  refine AllOps.cons (fun _ => Does.plain rfl fun lq aq wq hk hr K hK => ?_) ?_
                  · obtain ⟨v0, E0, -, r0⟩ := hk.dep hr 0 121 (by kernel_rfl) (by kernel_rfl)
                    have r0 : WV wq v0 a := r0 wq (Grows.refl wq)
                    obtain ⟨n0, A0, k0, c0, rfl, s0⟩ := r0
                    obtain ⟨v1, E1, -, r1⟩ := hk.dep hr 1 122 (by kernel_rfl) (by kernel_rfl)
                    have r1 : WV wq v1 b := r1 wq (Grows.refl wq)
                    obtain ⟨n1, A1, k1, c1, rfl, s1⟩ := r1
                    exact wp_of_value (op_row2 121 122 E0 E1) (hK.out _ _ ((Grows.refl _).alloc _) (fun w2 h2 => (RowV.two s0 s1).grow h2) (fun h => absurd h (by decide)))
                  refine AllOps.cons (fun _ => Does.plain rfl fun lq aq wq hk hr K hK => ?_) ?_
                  · obtain ⟨v2, E2, -, r2⟩ := hk.dep hr 2 123 (by kernel_rfl) (by kernel_rfl)
                    have r2 : RowV wq v2 [a, b] := r2 wq (Grows.refl wq)
                    refine wp_of_call (f := 28) (vs := #[v2]) (by go_simp) (mul2_v wq r2 (Nat.le_trans hka (by decide)) (Nat.le_trans (szz_mul hka hkb) (by decide))) ?_
                    rintro e w1 ⟨u, rfl, hu, hb⟩
                    exact ⟨u, rfl, hK.out _ _ hb (fun w2 h2 => (hu).grow h2) (fun h => absurd h (by decide))⟩
                  refine AllOps.cons (fun _ => Does.plain rfl fun lq aq wq hk hr K hK => ?_) ?_
                  · have B10 : ev aq (.tmp 10) = .pointer (some ⟨bl, 0, none⟩) := hk.base 10 (by kernel_rfl) rfl
                    have hb := grows_of hk.ext
                    exact wp_of_value (op_load 10 _ B10 (Box2.below Dl.out hb)) (hK.out _ _ (Grows.refl _) (fun w2 h2 => ⟨_, _, _, _, rfl, (Sl.out.below hb).below h2⟩) (fun h => absurd h (by decide)))
                  refine AllOps.cons (fun _ => Does.plain rfl fun lq aq wq hk hr K hK => ?_) ?_
                  · obtain ⟨v3, E3, -, r3⟩ := hk.dep hr 3 124 (by kernel_rfl) (by kernel_rfl)
                    have r3 : ZV wq v3 ((a * b)) := r3 wq (Grows.refl wq)
                    obtain ⟨n3, A3, k3, c3, rfl, s3⟩ := r3
                    obtain ⟨v4, E4, -, r4⟩ := hk.dep hr 4 125 (by kernel_rfl) (by kernel_rfl)
                    have r4 : ZV wq v4 ((Int.fmod c b)) := r4 wq (Grows.refl wq)
                    obtain ⟨n4, A4, k4, c4, rfl, s4⟩ := r4
                    exact wp_of_value (op_row2 124 125 E3 E4) (hK.out _ _ ((Grows.refl _).alloc _) (fun w2 h2 => (RowV.two s3.whole s4.whole).grow h2) (fun h => absurd h (by decide)))
                  refine AllOps.cons (fun _ => Does.plain rfl fun lq aq wq hk hr K hK => ?_) ?_
                  · obtain ⟨v5, E5, -, r5⟩ := hk.dep hr 5 126 (by kernel_rfl) (by kernel_rfl)
                    have r5 : RowV wq v5 [(a * b), (Int.fmod c b)] := r5 wq (Grows.refl wq)
                    refine wp_of_call (f := 27) (vs := #[v5]) (by go_simp) (add2_v wq r5 (Nat.le_trans (szz_mul hka hkb) (by decide)) (Nat.le_trans (szz_add (szz_mul hka hkb) (szz_fmod c hn0 hkb)) (by decide))) ?_
                    rintro e w1 ⟨u, rfl, hu, hb⟩
                    exact ⟨u, rfl, hK.out _ _ hb (fun w2 h2 => (hu).grow h2) (fun h => absurd h (by decide))⟩
                  refine AllOps.cons (fun _ => Does.plain rfl fun lq aq wq hk hr K hK => ?_) ?_
                  · have B4 : ev aq (.tmp 4) = .pointer (some ⟨bb, 0, none⟩) := hk.base 4 (by kernel_rfl) rfl
                    have hb := grows_of hk.ext
                    exact wp_of_value (op_load 4 _ B4 (Box2.below Db.out hb)) (hK.out _ _ (Grows.refl _) (fun w2 h2 => ⟨_, _, _, _, rfl, (Sb.out.below hb).below h2⟩) (fun h => absurd h (by decide)))
                  refine AllOps.cons (fun _ => Does.plain rfl fun lq aq wq hk hr K hK => ?_) ?_
                  · obtain ⟨v6, E6, -, r6⟩ := hk.dep hr 6 127 (by kernel_rfl) (by kernel_rfl)
                    have r6 : ZV wq v6 (((a * b) + (Int.fmod c b))) := r6 wq (Grows.refl wq)
                    obtain ⟨v7, E7, -, r7⟩ := hk.dep hr 7 128 (by kernel_rfl) (by kernel_rfl)
                    have r7 : WV wq v7 b := r7 wq (Grows.refl wq)
                    refine wp_of_call (f := 16) (vs := #[v6, v7]) (by go_simp) (div_v wq (r6).wv r7 hn0 (Nat.le_trans (szz_fdiv b (szz_add (szz_mul hka hkb) (szz_fmod c hn0 hkb))) (by decide))) ?_
                    rintro e w1 ⟨u, rfl, hu, hb⟩
                    exact ⟨u, rfl, hK.out _ _ hb (fun w2 h2 => (let ⟨u0, e0, h0⟩ := hu; ⟨u0, e0, (h0).grow h2⟩)) (fun h => absurd h (by decide))⟩
                  refine AllOps.cons (fun _ => Does.plain rfl fun lq aq wq hk hr K hK => ?_) ?_
                  · obtain ⟨v8, E8, -, r8⟩ := hk.dep hr 8 129 (by kernel_rfl) (by kernel_rfl)
                    have r8 : ∃ u0, v8 = .tuple #[u0, .int .i64 0] ∧ ZV wq u0 ((Int.fdiv ((a * b) + (Int.fmod c b)) b)) := r8 wq (Grows.refl wq)
                    exact wp_of_value (by go_simp) (hK.out _ _ (Grows.refl _) (fun w2 h2 => (let ⟨u0, e0, h0⟩ := r8; ⟨u0, e0, (h0).grow h2⟩)) (fun h => absurd h (by decide)))
                  refine AllOps.cons (fun _ => Does.plain rfl fun lq aq wq hk hr K hK => ?_) ?_
                  · obtain ⟨v9, E9, -, r9⟩ := hk.dep hr 9 120 (by kernel_rfl) (by kernel_rfl)
                    have r9 : ∃ u0, v9 = .tuple #[u0, .int .i64 0] ∧ ZV wq u0 ((Int.fdiv ((a * b) + (Int.fmod c b)) b)) := r9 wq (Grows.refl wq)
                    obtain ⟨u0, rfl, h0⟩ := r9
                    exact wp_of_value (by go_simp) (hK.out _ _ (Grows.refl _) (fun w2 h2 => (h0).grow h2) (fun h => absurd h (by decide)))
                  refine AllOps.cons (fun h => absurd rfl h) ?_
                  refine AllOps.cons (fun _ => Does.plain rfl fun lq aq wq hk hr K hK => ?_) ?_
                  · exact wp_of_value (by go_simp) (hK.out _ _ ((Grows.refl _).alloc _) (fun w2 h2 => ⟨_, rfl, (Box2.new wq 24 _ _).below h2, (grows_of hk.ext).size⟩) (fun _ => Nat.le_refl _))
                  exact AllOps.nil
                case fin =>
                  intro V x10 hG hV hap
                  have r10 : ZV x10 (V 10) ((Int.fdiv ((a * b) + (Int.fmod c b)) b)) := hV 10 (by decide)
                  have r11 : (V 11) = .int .i64 0 := hV 11 (by decide)
                  have r12 : ∃ bq, (V 12) = .pointer (some ⟨bq, 0, none⟩) ∧ Box2 x10 bq 24 (.bool false) (.slice none 0 0) ∧ (y9).heap.size ≤ bq := hV 12 (by decide)
                  clear hV
                  simp only [List.take_succ_cons, List.take_zero, List.drop_succ_cons, List.drop_zero, putAll, Act.put, List.setIfInBounds_toArray, List.set_cons_zero, List.set_cons_succ]
                  have hb := grows_of hG
                  obtain ⟨bp, ep, Dp, gp⟩ := r12
                  obtain ⟨np, Ap, kp, cp, ep', sp⟩ := r10
                  simp only [ep, ep', r11]
                  clear ep ep' hap r11
                  refine wpList_of_skip rfl (op_store 12 130 _ rfl rfl Dp) ?_
                  have hB := put2_below (u := .bool np) (v := .slice Ap kp cp) hb gp
                  replace sp := sp.put Dp (.bool np) (.slice Ap kp cp)
                  replace Dp := put2_own (u := .bool np) (v := .slice Ap kp cp) Dp
                  clear hb
                  generalize put2 x10 bp (.bool np) (.slice Ap kp cp) = y11 at *
                  replace Da := Lib.hid (Box2.below Da.out hB)
                  replace Sa := Lib.hid (Sa.out.below hB)
                  replace Db := Lib.hid (Box2.below Db.out hB)
                  replace Sb := Lib.hid (Sb.out.below hB)
                  replace Dc := Lib.hid (Box2.below Dc.out hB)
                  replace Sc := Lib.hid (Sc.out.below hB)
                  replace Dq := Lib.hid (Box2.below Dq.out hB)
                  replace Sq := Lib.hid (Sq.out.below hB)
                  replace Dr := Lib.hid (Box2.below Dr.out hB)
                  replace Sr := Lib.hid (Sr.out.below hB)
                  replace Dl := Lib.hid (Box2.below Dl.out hB)
                  replace Sl := Lib.hid (Sl.out.below hB)
                  replace HB := Lib.hid (HB.out.trans (Below.mono hB HB.out.size))
                  replace Dp := Lib.hid Dp
                  have Sp := Lib.hid sp
                  clear hG hB gp sp
                  go_upto_region 12 with fail
                  refine wp_region_prompt 13 11 [12] ([fun vq wq => WV wq vq a,
                      fun vq wq => WV wq vq b,
                      fun vq wq => RowV wq vq [a, b],
                      fun vq wq => ZV wq vq ((a * b)),
                      fun vq wq => ZV wq vq ((Int.fmod c b)),
                      fun vq wq => RowV wq vq [(a * b), (Int.fmod c b)],
                      fun vq wq => ZV wq vq (((a * b) + (Int.fmod c b))),
                      fun vq wq => WV wq vq b,
                      fun vq wq => ∃ u0, vq = .tuple #[u0, .int .i64 0] ∧ ZV wq u0 ((Int.fmod ((a * b) + (Int.fmod c b)) b)),
                      fun vq wq => ∃ u0, vq = .tuple #[u0, .int .i64 0] ∧ ZV wq u0 ((Int.fmod ((a * b) + (Int.fmod c b)) b)),
                      fun vq wq => ZV wq vq ((Int.fmod ((a * b) + (Int.fmod c b)) b)),
                      fun vq _ => vq = .int .i64 0,
                      fun vq wq => ∃ bq, vq = .pointer (some ⟨bq, 0, none⟩) ∧ Box2 wq bq 24 (.bool false) (.slice none 0 0) ∧ (y11).heap.size ≤ bq]) rfl (by kernel_rfl) (by kernel_rfl) (by decide) (by kernel_rfl) (by kernel_rfl) (by kernel_rfl) (by kernel_rfl) (by decide) (fun _ _ _ _ h => h) ?hF ?hy ?steps ?fin
                  case hy =>
                    intro lq aq wq hk hr
                    obtain ⟨v9, E9, -, r9⟩ := hk.dep hr 9 132 (by kernel_rfl) (by kernel_rfl)
                    have r9 : ∃ u0, v9 = .tuple #[u0, .int .i64 0] ∧ ZV wq u0 ((Int.fmod ((a * b) + (Int.fmod c b)) b)) := r9 wq (Grows.refl wq)
                    obtain ⟨u0, rfl, h0⟩ := r9
                    exact ⟨_, yields_of rfl (fun w2 => by go_simp), fun w2 h2 => rfl⟩
                  case hF =>
                    intro j hj v w h
                    simp only [List.mem_cons, List.not_mem_nil, or_false] at hj
                    subst hj
                    all_goals (obtain ⟨b, rfl, hB, _⟩ := h; exact hB.lt)
                  case steps =>
                    refine AllOps.cons (fun _ => Does.plain rfl fun lq aq wq hk hr K hK => ?_) ?_
                    · have B3 : ev aq (.tmp 3) = .pointer (some ⟨ba, 0, none⟩) := hk.base 3 (by kernel_rfl) rfl
                      have hb := grows_of hk.ext
                      exact wp_of_value (op_load 3 _ B3 (Box2.below Da.out hb)) (hK.out _ _ (Grows.refl _) (fun w2 h2 => ⟨_, _, _, _, rfl, (Sa.out.below hb).below h2⟩) (fun h => absurd h (by decide)))
                    refine AllOps.cons (fun _ => Does.plain rfl fun lq aq wq hk hr K hK => ?_) ?_
                    · have B4 : ev aq (.tmp 4) = .pointer (some ⟨bb, 0, none⟩) := hk.base 4 (by kernel_rfl) rfl
                      have hb := grows_of hk.ext
                      exact wp_of_value (op_load 4 _ B4 (Box2.below Db.out hb)) (hK.out _ _ (Grows.refl _) (fun w2 h2 => ⟨_, _, _, _, rfl, (Sb.out.below hb).below h2⟩) (fun h => absurd h (by decide)))
                    refine AllOps.cons (fun _ => Does.plain rfl fun lq aq wq hk hr K hK => ?_) ?_
                    · obtain ⟨v0, E0, -, r0⟩ := hk.dep hr 0 133 (by kernel_rfl) (by kernel_rfl)
                      have r0 : WV wq v0 a := r0 wq (Grows.refl wq)
                      obtain ⟨n0, A0, k0, c0, rfl, s0⟩ := r0
                      obtain ⟨v1, E1, -, r1⟩ := hk.dep hr 1 134 (by kernel_rfl) (by kernel_rfl)
                      have r1 : WV wq v1 b := r1 wq (Grows.refl wq)
                      obtain ⟨n1, A1, k1, c1, rfl, s1⟩ := r1
                      exact wp_of_value (op_row2 133 134 E0 E1) (hK.out _ _ ((Grows.refl _).alloc _) (fun w2 h2 => (RowV.two s0 s1).grow h2) (fun h => absurd h (by decide)))
                    refine AllOps.cons (fun _ => Does.plain rfl fun lq aq wq hk hr K hK => ?_) ?_
                    · obtain ⟨v2, E2, -, r2⟩ := hk.dep hr 2 135 (by kernel_rfl) (by kernel_rfl)
                      have r2 : RowV wq v2 [a, b] := r2 wq (Grows.refl wq)
                      refine wp_of_call (f := 28) (vs := #[v2]) (by go_simp) (mul2_v wq r2 (Nat.le_trans hka (by decide)) (Nat.le_trans (szz_mul hka hkb) (by decide))) ?_
                      rintro e w1 ⟨u, rfl, hu, hb⟩
                      exact ⟨u, rfl, hK.out _ _ hb (fun w2 h2 => (hu).grow h2) (fun h => absurd h (by decide))⟩
                    refine AllOps.cons (fun _ => Does.plain rfl fun lq aq wq hk hr K hK => ?_) ?_
                    · have B10 : ev aq (.tmp 10) = .pointer (some ⟨bl, 0, none⟩) := hk.base 10 (by kernel_rfl) rfl
                      have hb := grows_of hk.ext
                      exact wp_of_value (op_load 10 _ B10 (Box2.below Dl.out hb)) (hK.out _ _ (Grows.refl _) (fun w2 h2 => ⟨_, _, _, _, rfl, (Sl.out.below hb).below h2⟩) (fun h => absurd h (by decide)))
                    refine AllOps.cons (fun _ => Does.plain rfl fun lq aq wq hk hr K hK => ?_) ?_
                    · obtain ⟨v3, E3, -, r3⟩ := hk.dep hr 3 136 (by kernel_rfl) (by kernel_rfl)
                      have r3 : ZV wq v3 ((a * b)) := r3 wq (Grows.refl wq)
                      obtain ⟨n3, A3, k3, c3, rfl, s3⟩ := r3
                      obtain ⟨v4, E4, -, r4⟩ := hk.dep hr 4 137 (by kernel_rfl) (by kernel_rfl)
                      have r4 : ZV wq v4 ((Int.fmod c b)) := r4 wq (Grows.refl wq)
                      obtain ⟨n4, A4, k4, c4, rfl, s4⟩ := r4
                      exact wp_of_value (op_row2 136 137 E3 E4) (hK.out _ _ ((Grows.refl _).alloc _) (fun w2 h2 => (RowV.two s3.whole s4.whole).grow h2) (fun h => absurd h (by decide)))
                    refine AllOps.cons (fun _ => Does.plain rfl fun lq aq wq hk hr K hK => ?_) ?_
                    · obtain ⟨v5, E5, -, r5⟩ := hk.dep hr 5 138 (by kernel_rfl) (by kernel_rfl)
                      have r5 : RowV wq v5 [(a * b), (Int.fmod c b)] := r5 wq (Grows.refl wq)
                      refine wp_of_call (f := 27) (vs := #[v5]) (by go_simp) (add2_v wq r5 (Nat.le_trans (szz_mul hka hkb) (by decide)) (Nat.le_trans (szz_add (szz_mul hka hkb) (szz_fmod c hn0 hkb)) (by decide))) ?_
                      rintro e w1 ⟨u, rfl, hu, hb⟩
                      exact ⟨u, rfl, hK.out _ _ hb (fun w2 h2 => (hu).grow h2) (fun h => absurd h (by decide))⟩
                    refine AllOps.cons (fun _ => Does.plain rfl fun lq aq wq hk hr K hK => ?_) ?_
                    · have B4 : ev aq (.tmp 4) = .pointer (some ⟨bb, 0, none⟩) := hk.base 4 (by kernel_rfl) rfl
                      have hb := grows_of hk.ext
                      exact wp_of_value (op_load 4 _ B4 (Box2.below Db.out hb)) (hK.out _ _ (Grows.refl _) (fun w2 h2 => ⟨_, _, _, _, rfl, (Sb.out.below hb).below h2⟩) (fun h => absurd h (by decide)))
                    refine AllOps.cons (fun _ => Does.plain rfl fun lq aq wq hk hr K hK => ?_) ?_
                    · obtain ⟨v6, E6, -, r6⟩ := hk.dep hr 6 139 (by kernel_rfl) (by kernel_rfl)
                      have r6 : ZV wq v6 (((a * b) + (Int.fmod c b))) := r6 wq (Grows.refl wq)
                      obtain ⟨v7, E7, -, r7⟩ := hk.dep hr 7 140 (by kernel_rfl) (by kernel_rfl)
                      have r7 : WV wq v7 b := r7 wq (Grows.refl wq)
                      refine wp_of_call (f := 17) (vs := #[v6, v7]) (by go_simp) (mod_v wq (r6).wv r7 hn0 (Nat.le_trans (szz_fmod ((a * b) + (Int.fmod c b)) hn0 hkb) (by decide))) ?_
                      rintro e w1 ⟨u, rfl, hu, hb⟩
                      exact ⟨u, rfl, hK.out _ _ hb (fun w2 h2 => (let ⟨u0, e0, h0⟩ := hu; ⟨u0, e0, (h0).grow h2⟩)) (fun h => absurd h (by decide))⟩
                    refine AllOps.cons (fun _ => Does.plain rfl fun lq aq wq hk hr K hK => ?_) ?_
                    · obtain ⟨v8, E8, -, r8⟩ := hk.dep hr 8 141 (by kernel_rfl) (by kernel_rfl)
                      have r8 : ∃ u0, v8 = .tuple #[u0, .int .i64 0] ∧ ZV wq u0 ((Int.fmod ((a * b) + (Int.fmod c b)) b)) := r8 wq (Grows.refl wq)
                      exact wp_of_value (by go_simp) (hK.out _ _ (Grows.refl _) (fun w2 h2 => (let ⟨u0, e0, h0⟩ := r8; ⟨u0, e0, (h0).grow h2⟩)) (fun h => absurd h (by decide)))
                    refine AllOps.cons (fun _ => Does.plain rfl fun lq aq wq hk hr K hK => ?_) ?_
                    · obtain ⟨v9, E9, -, r9⟩ := hk.dep hr 9 132 (by kernel_rfl) (by kernel_rfl)
                      have r9 : ∃ u0, v9 = .tuple #[u0, .int .i64 0] ∧ ZV wq u0 ((Int.fmod ((a * b) + (Int.fmod c b)) b)) := r9 wq (Grows.refl wq)
                      obtain ⟨u0, rfl, h0⟩ := r9
                      exact wp_of_value (by go_simp) (hK.out _ _ (Grows.refl _) (fun w2 h2 => (h0).grow h2) (fun h => absurd h (by decide)))
                    refine AllOps.cons (fun h => absurd rfl h) ?_
                    refine AllOps.cons (fun _ => Does.plain rfl fun lq aq wq hk hr K hK => ?_) ?_
                    · exact wp_of_value (by go_simp) (hK.out _ _ ((Grows.refl _).alloc _) (fun w2 h2 => ⟨_, rfl, (Box2.new wq 24 _ _).below h2, (grows_of hk.ext).size⟩) (fun _ => Nat.le_refl _))
                    exact AllOps.nil
                  case fin =>
                    intro V x12 hG hV hap
                    have r10 : ZV x12 (V 10) ((Int.fmod ((a * b) + (Int.fmod c b)) b)) := hV 10 (by decide)
                    have r11 : (V 11) = .int .i64 0 := hV 11 (by decide)
                    have r12 : ∃ bq, (V 12) = .pointer (some ⟨bq, 0, none⟩) ∧ Box2 x12 bq 24 (.bool false) (.slice none 0 0) ∧ (y11).heap.size ≤ bq := hV 12 (by decide)
                    clear hV
                    simp only [List.take_succ_cons, List.take_zero, List.drop_succ_cons, List.drop_zero, putAll, Act.put, List.setIfInBounds_toArray, List.set_cons_zero, List.set_cons_succ]
                    have hb := grows_of hG
                    obtain ⟨bs, es, Ds, gs⟩ := r12
                    obtain ⟨ns, As, ks, cs, es', ss⟩ := r10
                    simp only [es, es', r11]
                    clear es es' hap r11
                    refine wpList_of_skip rfl (op_store 14 142 _ rfl rfl Ds) ?_
                    have hB := put2_below (u := .bool ns) (v := .slice As ks cs) hb gs
                    replace ss := ss.put Ds (.bool ns) (.slice As ks cs)
                    replace Ds := put2_own (u := .bool ns) (v := .slice As ks cs) Ds
                    clear hb
                    generalize put2 x12 bs (.bool ns) (.slice As ks cs) = y13 at *
                    replace Da := Lib.hid (Box2.below Da.out hB)
                    replace Sa := Lib.hid (Sa.out.below hB)
                    replace Db := Lib.hid (Box2.below Db.out hB)
                    replace Sb := Lib.hid (Sb.out.below hB)
                    replace Dc := Lib.hid (Box2.below Dc.out hB)
                    replace Sc := Lib.hid (Sc.out.below hB)
                    replace Dq := Lib.hid (Box2.below Dq.out hB)
                    replace Sq := Lib.hid (Sq.out.below hB)
                    replace Dr := Lib.hid (Box2.below Dr.out hB)
                    replace Sr := Lib.hid (Sr.out.below hB)
                    replace Dl := Lib.hid (Box2.below Dl.out hB)
                    replace Sl := Lib.hid (Sl.out.below hB)
                    replace Dp := Lib.hid (Box2.below Dp.out hB)
                    replace Sp := Lib.hid (Sp.out.below hB)
                    replace HB := Lib.hid (HB.out.trans (Below.mono hB HB.out.size))
                    replace Ds := Lib.hid Ds
                    have Ss := Lib.hid ss
                    clear hG hB gs ss
                    go_upto_region 13 with fail
                    refine wp_region_going 12 [] ([fun vq wq => ZV wq vq ((Int.fdiv ((a * b) + (Int.fmod c b)) b)),
                        fun vq wq => WV wq vq a,
                        fun vq wq => RowV wq vq [a],
                        fun vq wq => ZV wq vq a,
                        fun vq _ => vq = .bool true,
                        fun vq _ => vq = .bool false,
                        fun vq _ => vq = .bool false,
                        fun vq wq => ZV wq vq ((Int.fmod ((a * b) + (Int.fmod c b)) b)),
                        fun vq wq => ZV wq vq ((Int.fmod c b)),
                        fun vq _ => vq = .bool true,
                        fun vq _ => vq = .bool false,
                        fun vq _ => vq = .bool false]) (by kernel_rfl) (by kernel_rfl) (by decide) (by kernel_rfl) (by kernel_rfl) ?hF ?steps ?fin
                    case hF =>
                      intro j hj; cases hj
                    case steps =>
                      refine AllOps.cons (Does.plain rfl fun lq aq wq hk hr K hK => ?_) ?_
                      · have B12 : ev aq (.tmp 12) = .pointer (some ⟨bp, 0, none⟩) := hk.base 12 (by kernel_rfl) rfl
                        have hb := grows_of hk.ext
                        exact wp_of_value (op_load 12 _ B12 (Box2.below Dp.out hb)) (hK.out _ _ (Grows.refl _) (fun w2 h2 => ⟨_, _, _, _, rfl, (Sp.out.below hb).below h2⟩) (fun h => absurd h (by decide)))
                      refine AllOps.cons (Does.plain rfl fun lq aq wq hk hr K hK => ?_) ?_
                      · have B3 : ev aq (.tmp 3) = .pointer (some ⟨ba, 0, none⟩) := hk.base 3 (by kernel_rfl) rfl
                        have hb := grows_of hk.ext
                        exact wp_of_value (op_load 3 _ B3 (Box2.below Da.out hb)) (hK.out _ _ (Grows.refl _) (fun w2 h2 => ⟨_, _, _, _, rfl, (Sa.out.below hb).below h2⟩) (fun h => absurd h (by decide)))
                      refine AllOps.cons (Does.plain rfl fun lq aq wq hk hr K hK => ?_) ?_
                      · obtain ⟨v1, E1, -, r1⟩ := hk.dep hr 1 145 (by kernel_rfl) (by kernel_rfl)
                        have r1 : WV wq v1 a := r1 wq (Grows.refl wq)
                        obtain ⟨n1, A1, k1, c1, rfl, s1⟩ := r1
                        exact wp_of_value (op_row1 145 E1) (hK.out _ _ ((Grows.refl _).alloc _) (fun w2 h2 => (RowV.one s1).grow h2) (fun h => absurd h (by decide)))
                      refine AllOps.cons (Does.plain rfl fun lq aq wq hk hr K hK => ?_) ?_
                      · obtain ⟨v2, E2, -, r2⟩ := hk.dep hr 2 146 (by kernel_rfl) (by kernel_rfl)
                        have r2 : RowV wq v2 [a] := r2 wq (Grows.refl wq)
                        refine wp_of_call (f := 27) (vs := #[v2]) (by go_simp) (add1_v wq r2 (Nat.le_trans hka (by decide))) ?_
                        rintro e w1 ⟨u, rfl, hu, hb⟩
                        exact ⟨u, rfl, hK.out _ _ hb (fun w2 h2 => (hu).grow h2) (fun h => absurd h (by decide))⟩
                      refine AllOps.cons (Does.plain rfl fun lq aq wq hk hr K hK => ?_) ?_
                      · obtain ⟨v0, E0, -, r0⟩ := hk.dep hr 0 144 (by kernel_rfl) (by kernel_rfl)
                        have r0 : ZV wq v0 ((Int.fdiv ((a * b) + (Int.fmod c b)) b)) := r0 wq (Grows.refl wq)
                        obtain ⟨v3, E3, -, r3⟩ := hk.dep hr 3 147 (by kernel_rfl) (by kernel_rfl)
                        have r3 : ZV wq v3 a := r3 wq (Grows.refl wq)
                        refine wp_of_call (f := 26) (vs := #[v0, v3]) (by go_simp) (same_v wq r0 r3 (t := true) (decide_eq_true (floor_back hn0).1)) ?_
                        rintro e w1 ⟨u, rfl, hu, hb⟩
                        exact ⟨u, rfl, hK.out _ _ hb (fun w2 h2 => hu) (fun h => absurd h (by decide))⟩
                      refine AllOps.cons (Does.plain rfl fun lq aq wq hk hr K hK => ?_) ?_
                      · obtain ⟨v4, E4, -, r4⟩ := hk.dep hr 4 148 (by kernel_rfl) (by kernel_rfl)
                        replace E4 : ev aq (.tmp 148) = .bool true := E4.trans (r4 wq (Grows.refl wq))
                        exact wp_of_value (by go_simp) (hK.out _ _ (Grows.refl _) (fun w2 h2 => rfl) (fun h => absurd h (by decide)))
                      refine AllOps.cons (Does.plain rfl fun lq aq wq hk hr K hK => ?_) ?_
                      · obtain ⟨v5, E5, -, r5⟩ := hk.dep hr 5 149 (by kernel_rfl) (by kernel_rfl)
                        replace E5 : ev aq (.tmp 149) = .bool false := E5.trans (r5 wq (Grows.refl wq))
                        exact wp_of_value (by go_simp) (hK.out _ _ (Grows.refl _) (fun w2 h2 => rfl) (fun h => absurd h (by decide)))
                      refine AllOps.cons (Does.lets (g := 6) (d := 150) (t := false) rfl (by kernel_rfl) (by kernel_rfl) (fun vq wq h => h wq (Grows.refl wq)) fun lq aq wq hk hr K hK => ?_) ?_
                      · have B14 : ev aq (.tmp 14) = .pointer (some ⟨bs, 0, none⟩) := hk.base 14 (by kernel_rfl) rfl
                        have hb := grows_of hk.ext
                        exact wp_of_value (op_load 14 _ B14 (Box2.below Ds.out hb)) (hK.out _ _ (Grows.refl _) (fun w2 h2 => ⟨_, _, _, _, rfl, (Ss.out.below hb).below h2⟩) (fun h => absurd h (by decide)))
                      refine AllOps.cons (Does.lets (g := 6) (d := 150) (t := false) rfl (by kernel_rfl) (by kernel_rfl) (fun vq wq h => h wq (Grows.refl wq)) fun lq aq wq hk hr K hK => ?_) ?_
                      · have B10 : ev aq (.tmp 10) = .pointer (some ⟨bl, 0, none⟩) := hk.base 10 (by kernel_rfl) rfl
                        have hb := grows_of hk.ext
                        exact wp_of_value (op_load 10 _ B10 (Box2.below Dl.out hb)) (hK.out _ _ (Grows.refl _) (fun w2 h2 => ⟨_, _, _, _, rfl, (Sl.out.below hb).below h2⟩) (fun h => absurd h (by decide)))
                      refine AllOps.cons (Does.lets (g := 6) (d := 150) (t := false) rfl (by kernel_rfl) (by kernel_rfl) (fun vq wq h => h wq (Grows.refl wq)) fun lq aq wq hk hr K hK => ?_) ?_
                      · obtain ⟨v7, E7, -, r7⟩ := hk.dep hr 7 151 (by kernel_rfl) (by kernel_rfl)
                        have r7 : ZV wq v7 ((Int.fmod ((a * b) + (Int.fmod c b)) b)) := r7 wq (Grows.refl wq)
                        obtain ⟨v8, E8, -, r8⟩ := hk.dep hr 8 152 (by kernel_rfl) (by kernel_rfl)
                        have r8 : ZV wq v8 ((Int.fmod c b)) := r8 wq (Grows.refl wq)
                        refine wp_of_call (f := 26) (vs := #[v7, v8]) (by go_simp) (same_v wq r7 r8 (t := true) (decide_eq_true (floor_back hn0).2)) ?_
                        rintro e w1 ⟨u, rfl, hu, hb⟩
                        exact ⟨u, rfl, hK.out _ _ hb (fun w2 h2 => hu) (fun h => absurd h (by decide))⟩
                      refine AllOps.cons (Does.lets (g := 6) (d := 150) (t := false) rfl (by kernel_rfl) (by kernel_rfl) (fun vq wq h => h wq (Grows.refl wq)) fun lq aq wq hk hr K hK => ?_) ?_
                      · obtain ⟨v9, E9, -, r9⟩ := hk.dep hr 9 153 (by kernel_rfl) (by kernel_rfl)
                        replace E9 : ev aq (.tmp 153) = .bool true := E9.trans (r9 wq (Grows.refl wq))
                        exact wp_of_value (by go_simp) (hK.out _ _ (Grows.refl _) (fun w2 h2 => rfl) (fun h => absurd h (by decide)))
                      refine AllOps.cons (Does.plain rfl fun lq aq wq hk hr K hK => ?_) ?_
                      · obtain ⟨v6, E6, -, r6⟩ := hk.dep hr 6 150 (by kernel_rfl) (by kernel_rfl)
                        replace E6 : ev aq (.tmp 150) = .bool false := E6.trans (r6 wq (Grows.refl wq))
                        obtain ⟨v10, E10, -, r10⟩ := hk.dep hr 10 154 (by kernel_rfl) (by kernel_rfl)
                        replace E10 : ev aq (.tmp 154) = .bool false := E10.trans (r10 wq (Grows.refl wq))
                        exact wp_of_value (by go_simp) (hK.out _ _ (Grows.refl _) (fun w2 h2 => rfl) (fun h => absurd h (by decide)))
                      exact AllOps.nil
                    case fin =>
                      intro V x14 hG hV hap
                      have r11 : (V 11) = .bool false := hV 11 (by decide)
                      clear hV hap
                      simp only [List.take_succ_cons, List.take_nil, List.drop_succ_cons, List.drop_nil, putAll, Act.put, List.setIfInBounds_toArray, List.set_cons_zero, List.set_cons_succ]
                      have hb := grows_of hG
                      replace Da := Lib.hid (Box2.below Da.out hb)
                      replace Sa := Lib.hid (Sa.out.below hb)
                      replace Db := Lib.hid (Box2.below Db.out hb)
                      replace Sb := Lib.hid (Sb.out.below hb)
                      replace Dc := Lib.hid (Box2.below Dc.out hb)
                      replace Sc := Lib.hid (Sc.out.below hb)
                      replace Dq := Lib.hid (Box2.below Dq.out hb)
                      replace Sq := Lib.hid (Sq.out.below hb)
                      replace Dr := Lib.hid (Box2.below Dr.out hb)
                      replace Sr := Lib.hid (Sr.out.below hb)
                      replace Dl := Lib.hid (Box2.below Dl.out hb)
                      replace Sl := Lib.hid (Sl.out.below hb)
                      replace Dp := Lib.hid (Box2.below Dp.out hb)
                      replace Sp := Lib.hid (Sp.out.below hb)
                      replace Ds := Lib.hid (Box2.below Ds.out hb)
                      replace Ss := Lib.hid (Ss.out.below hb)
                      replace HB := Lib.hid (HB.out.trans (Below.mono hb HB.out.size))
                      clear hb hG
                      rw [r11]
                      clear r11
                      rcases Decidable.em (c = 0) with hc0 | hc0
                      · skip
                        go_upto_region 15 with fail
                        refine wp_region_calm 3 [] ([fun vq wq => WV wq vq c,
                            fun vq _ => vq = .int .i64 0,
                            fun vq _ => vq = .bool true]) (by kernel_rfl) (by decide) ?hF ?steps ?fin
                        case hF =>
                          intro j hj; cases hj
                        case steps =>
                          refine AllOps.cons (Does.plain rfl fun lq aq wq hk hr K hK => ?_) ?_
                          · have B5 : ev aq (.tmp 5) = .pointer (some ⟨bc, 0, none⟩) := hk.base 5 (by kernel_rfl) rfl
                            have hb : Below _ _ _ := hk.ext
                            exact wp_of_value (op_load 5 _ B5 (Box2.below Dc.out hb)) (hK.out _ _ (Grows.refl _) (fun w2 h2 => ⟨_, _, _, _, rfl, (Sc.out.below hb).below h2⟩) (fun h => absurd h (by decide)))
                          refine AllOps.cons (Does.plain rfl fun lq aq wq hk hr K hK => ?_) ?_
                          · obtain ⟨v0, E0, -, r0⟩ := hk.dep hr 0 156 (by kernel_rfl) (by kernel_rfl)
                            have r0 : WV wq v0 c := r0 wq (Grows.refl wq)
                            refine wp_of_call (f := 36) (vs := #[v0]) (by go_simp) (sign_v wq r0 (k := 0) (by rw [hc0]; rfl)) ?_
                            rintro e w1 ⟨u, rfl, hu, hb⟩
                            exact ⟨u, rfl, hK.out _ _ hb (fun w2 h2 => hu) (fun h => absurd h (by decide))⟩
                          refine AllOps.cons (Does.plain rfl fun lq aq wq hk hr K hK => ?_) ?_
                          · obtain ⟨v1, E1, -, r1⟩ := hk.dep hr 1 157 (by kernel_rfl) (by kernel_rfl)
                            replace E1 : ev aq (.tmp 157) = .int .i64 0 := E1.trans (r1 wq (Grows.refl wq))
                            exact wp_of_value (by go_simp) (hK.out _ _ (Grows.refl _) (fun w2 h2 => rfl) (fun h => absurd h (by decide)))
                          exact AllOps.nil
                        case fin =>
                          intro V x15 hG hV hap
                          have r2 : (V 2) = .bool true := hV 2 (by decide)
                          clear hV hap
                          simp only [List.take_succ_cons, List.take_nil, List.drop_succ_cons, List.drop_nil, putAll, Act.put, List.setIfInBounds_toArray, List.set_cons_zero, List.set_cons_succ]
                          have hb := (show Below _ _ _ from hG)
                          replace Da := Lib.hid (Box2.below Da.out hb)
                          replace Sa := Lib.hid (Sa.out.below hb)
                          replace Db := Lib.hid (Box2.below Db.out hb)
                          replace Sb := Lib.hid (Sb.out.below hb)
                          replace Dc := Lib.hid (Box2.below Dc.out hb)
                          replace Sc := Lib.hid (Sc.out.below hb)
                          replace Dq := Lib.hid (Box2.below Dq.out hb)
                          replace Sq := Lib.hid (Sq.out.below hb)
                          replace Dr := Lib.hid (Box2.below Dr.out hb)
                          replace Sr := Lib.hid (Sr.out.below hb)
                          replace Dl := Lib.hid (Box2.below Dl.out hb)
                          replace Sl := Lib.hid (Sl.out.below hb)
                          replace Dp := Lib.hid (Box2.below Dp.out hb)
                          replace Sp := Lib.hid (Sp.out.below hb)
                          replace Ds := Lib.hid (Box2.below Ds.out hb)
                          replace Ss := Lib.hid (Ss.out.below hb)
                          replace HB := Lib.hid (HB.out.trans (Below.mono hb HB.out.size))
                          clear hb hG
                          rw [r2]
                          go_wp2_with fail
                          go_ret
                          exact ⟨rfl, HB.out⟩
                      · skip
                        obtain ⟨j, hj⟩ : ∃ j, Int.sign c = j := ⟨_, rfl⟩
                        have hj0 : (j == 0) = false := by rw [← hj, beq_eq_false_iff_ne]; exact fun e => hc0 (Int.sign_eq_zero_iff_zero.1 e)
                        go_upto_region 15 with fail
                        refine wp_region_calm 3 [] ([fun vq wq => WV wq vq c,
                            fun vq _ => vq = .int .i64 j,
                            fun vq _ => vq = .bool false]) (by kernel_rfl) (by decide) ?hF ?steps ?fin
                        case hF =>
                          intro j hj; cases hj
                        case steps =>
                          refine AllOps.cons (Does.plain rfl fun lq aq wq hk hr K hK => ?_) ?_
                          · have B5 : ev aq (.tmp 5) = .pointer (some ⟨bc, 0, none⟩) := hk.base 5 (by kernel_rfl) rfl
                            have hb : Below _ _ _ := hk.ext
                            exact wp_of_value (op_load 5 _ B5 (Box2.below Dc.out hb)) (hK.out _ _ (Grows.refl _) (fun w2 h2 => ⟨_, _, _, _, rfl, (Sc.out.below hb).below h2⟩) (fun h => absurd h (by decide)))
                          refine AllOps.cons (Does.plain rfl fun lq aq wq hk hr K hK => ?_) ?_
                          · obtain ⟨v0, E0, -, r0⟩ := hk.dep hr 0 156 (by kernel_rfl) (by kernel_rfl)
                            have r0 : WV wq v0 c := r0 wq (Grows.refl wq)
                            refine wp_of_call (f := 36) (vs := #[v0]) (by go_simp) (sign_v wq r0 (k := j) hj) ?_
                            rintro e w1 ⟨u, rfl, hu, hb⟩
                            exact ⟨u, rfl, hK.out _ _ hb (fun w2 h2 => hu) (fun h => absurd h (by decide))⟩
                          refine AllOps.cons (Does.plain rfl fun lq aq wq hk hr K hK => ?_) ?_
                          · obtain ⟨v1, E1, -, r1⟩ := hk.dep hr 1 157 (by kernel_rfl) (by kernel_rfl)
                            replace E1 : ev aq (.tmp 157) = .int .i64 j := E1.trans (r1 wq (Grows.refl wq))
                            exact wp_of_value (by go_simp) (hK.out _ _ (Grows.refl _) (fun w2 h2 => rfl) (fun h => absurd h (by decide)))
                          exact AllOps.nil
                        case fin =>
                          intro V x15 hG hV hap
                          have r2 : (V 2) = .bool false := hV 2 (by decide)
                          clear hV hap
                          simp only [List.take_succ_cons, List.take_nil, List.drop_succ_cons, List.drop_nil, putAll, Act.put, List.setIfInBounds_toArray, List.set_cons_zero, List.set_cons_succ]
                          have hb := (show Below _ _ _ from hG)
                          replace Da := Lib.hid (Box2.below Da.out hb)
                          replace Sa := Lib.hid (Sa.out.below hb)
                          replace Db := Lib.hid (Box2.below Db.out hb)
                          replace Sb := Lib.hid (Sb.out.below hb)
                          replace Dc := Lib.hid (Box2.below Dc.out hb)
                          replace Sc := Lib.hid (Sc.out.below hb)
                          replace Dq := Lib.hid (Box2.below Dq.out hb)
                          replace Sq := Lib.hid (Sq.out.below hb)
                          replace Dr := Lib.hid (Box2.below Dr.out hb)
                          replace Sr := Lib.hid (Sr.out.below hb)
                          replace Dl := Lib.hid (Box2.below Dl.out hb)
                          replace Sl := Lib.hid (Sl.out.below hb)
                          replace Dp := Lib.hid (Box2.below Dp.out hb)
                          replace Sp := Lib.hid (Sp.out.below hb)
                          replace Ds := Lib.hid (Box2.below Ds.out hb)
                          replace Ss := Lib.hid (Ss.out.below hb)
                          replace HB := Lib.hid (HB.out.trans (Below.mono hb HB.out.size))
                          clear hb hG
                          rw [r2]
                          clear r2
                          go_upto_region 17 with fail
                          refine wp_region_prompt 13 11 [12] ([fun vq wq => WV wq vq a,
                              fun vq wq => WV wq vq c,
                              fun vq wq => RowV wq vq [a, c],
                              fun vq wq => ZV wq vq ((a * c)),
                              fun vq wq => WV wq vq b,
                              fun vq wq => WV wq vq c,
                              fun vq wq => RowV wq vq [b, c],
                              fun vq wq => ZV wq vq ((b * c)),
                              fun vq wq => ∃ u0, vq = .tuple #[u0, .int .i64 0] ∧ ZV wq u0 ((Int.fdiv (a * c) (b * c))),
                              fun vq wq => ∃ u0, vq = .tuple #[u0, .int .i64 0] ∧ ZV wq u0 ((Int.fdiv (a * c) (b * c))),
                              fun vq wq => ZV wq vq ((Int.fdiv (a * c) (b * c))),
                              fun vq _ => vq = .int .i64 0,
                              fun vq wq => ∃ bq, vq = .pointer (some ⟨bq, 0, none⟩) ∧ Box2 wq bq 24 (.bool false) (.slice none 0 0) ∧ (x15).heap.size ≤ bq]) rfl (by kernel_rfl) (by kernel_rfl) (by decide) (by kernel_rfl) (by kernel_rfl) (by kernel_rfl) (by kernel_rfl) (by decide) (fun _ _ _ _ h => h) ?hF ?hy ?steps ?fin
                          case hy =>
                            intro lq aq wq hk hr
                            obtain ⟨v9, E9, -, r9⟩ := hk.dep hr 9 159 (by kernel_rfl) (by kernel_rfl)
                            have r9 : ∃ u0, v9 = .tuple #[u0, .int .i64 0] ∧ ZV wq u0 ((Int.fdiv (a * c) (b * c))) := r9 wq (Grows.refl wq)
                            obtain ⟨u0, rfl, h0⟩ := r9
                            exact ⟨_, yields_of rfl (fun w2 => by go_simp), fun w2 h2 => rfl⟩
                          case hF =>
                            intro j hj v w h
                            simp only [List.mem_cons, List.not_mem_nil, or_false] at hj
                            subst hj
                            all_goals (obtain ⟨b, rfl, hB, _⟩ := h; exact hB.lt)
                          case steps =>
                            refine AllOps.cons (fun _ => Does.plain rfl fun lq aq wq hk hr K hK => ?_) ?_
                            · have B3 : ev aq (.tmp 3) = .pointer (some ⟨ba, 0, none⟩) := hk.base 3 (by kernel_rfl) rfl
                              have hb := grows_of hk.ext
                              exact wp_of_value (op_load 3 _ B3 (Box2.below Da.out hb)) (hK.out _ _ (Grows.refl _) (fun w2 h2 => ⟨_, _, _, _, rfl, (Sa.out.below hb).below h2⟩) (fun h => absurd h (by decide)))
                            refine AllOps.cons (fun _ => Does.plain rfl fun lq aq wq hk hr K hK => ?_) ?_
                            · have B5 : ev aq (.tmp 5) = .pointer (some ⟨bc, 0, none⟩) := hk.base 5 (by kernel_rfl) rfl
                              have hb := grows_of hk.ext
                              exact wp_of_value (op_load 5 _ B5 (Box2.below Dc.out hb)) (hK.out _ _ (Grows.refl _) (fun w2 h2 => ⟨_, _, _, _, rfl, (Sc.out.below hb).below h2⟩) (fun h => absurd h (by decide)))
                            refine AllOps.cons (fun _ => Does.plain rfl fun lq aq wq hk hr K hK => ?_) ?_
                            · obtain ⟨v0, E0, -, r0⟩ := hk.dep hr 0 160 (by kernel_rfl) (by kernel_rfl)
                              have r0 : WV wq v0 a := r0 wq (Grows.refl wq)
                              obtain ⟨n0, A0, k0, c0, rfl, s0⟩ := r0
                              obtain ⟨v1, E1, -, r1⟩ := hk.dep hr 1 161 (by kernel_rfl) (by kernel_rfl)
                              have r1 : WV wq v1 c := r1 wq (Grows.refl wq)
                              obtain ⟨n1, A1, k1, c1, rfl, s1⟩ := r1
                              exact wp_of_value (op_row2 160 161 E0 E1) (hK.out _ _ ((Grows.refl _).alloc _) (fun w2 h2 => (RowV.two s0 s1).grow h2) (fun h => absurd h (by decide)))
                            refine AllOps.cons (fun _ => Does.plain rfl fun lq aq wq hk hr K hK => ?_) ?_
                            · obtain ⟨v2, E2, -, r2⟩ := hk.dep hr 2 162 (by kernel_rfl) (by kernel_rfl)
                              have r2 : RowV wq v2 [a, c] := r2 wq (Grows.refl wq)
                              refine wp_of_call (f := 28) (vs := #[v2]) (by go_simp) (mul2_v wq r2 (Nat.le_trans hka (by decide)) (Nat.le_trans (szz_mul hka hkc) (by decide))) ?_
                              rintro e w1 ⟨u, rfl, hu, hb⟩
                              exact ⟨u, rfl, hK.out _ _ hb (fun w2 h2 => (hu).grow h2) (fun h => absurd h (by decide))⟩
                            refine AllOps.cons (fun _ => Does.plain rfl fun lq aq wq hk hr K hK => ?_) ?_
                            · have B4 : ev aq (.tmp 4) = .pointer (some ⟨bb, 0, none⟩) := hk.base 4 (by kernel_rfl) rfl
                              have hb := grows_of hk.ext
                              exact wp_of_value (op_load 4 _ B4 (Box2.below Db.out hb)) (hK.out _ _ (Grows.refl _) (fun w2 h2 => ⟨_, _, _, _, rfl, (Sb.out.below hb).below h2⟩) (fun h => absurd h (by decide)))
                            refine AllOps.cons (fun _ => Does.plain rfl fun lq aq wq hk hr K hK => ?_) ?_
                            · have B5 : ev aq (.tmp 5) = .pointer (some ⟨bc, 0, none⟩) := hk.base 5 (by kernel_rfl) rfl
                              have hb := grows_of hk.ext
                              exact wp_of_value (op_load 5 _ B5 (Box2.below Dc.out hb)) (hK.out _ _ (Grows.refl _) (fun w2 h2 => ⟨_, _, _, _, rfl, (Sc.out.below hb).below h2⟩) (fun h => absurd h (by decide)))
                            refine AllOps.cons (fun _ => Does.plain rfl fun lq aq wq hk hr K hK => ?_) ?_
                            · obtain ⟨v4, E4, -, r4⟩ := hk.dep hr 4 164 (by kernel_rfl) (by kernel_rfl)
                              have r4 : WV wq v4 b := r4 wq (Grows.refl wq)
                              obtain ⟨n4, A4, k4, c4, rfl, s4⟩ := r4
                              obtain ⟨v5, E5, -, r5⟩ := hk.dep hr 5 165 (by kernel_rfl) (by kernel_rfl)
                              have r5 : WV wq v5 c := r5 wq (Grows.refl wq)
                              obtain ⟨n5, A5, k5, c5, rfl, s5⟩ := r5
                              exact wp_of_value (op_row2 164 165 E4 E5) (hK.out _ _ ((Grows.refl _).alloc _) (fun w2 h2 => (RowV.two s4 s5).grow h2) (fun h => absurd h (by decide)))
                            refine AllOps.cons (fun _ => Does.plain rfl fun lq aq wq hk hr K hK => ?_) ?_
                            · obtain ⟨v6, E6, -, r6⟩ := hk.dep hr 6 166 (by kernel_rfl) (by kernel_rfl)
                              have r6 : RowV wq v6 [b, c] := r6 wq (Grows.refl wq)
                              refine wp_of_call (f := 28) (vs := #[v6]) (by go_simp) (mul2_v wq r6 (Nat.le_trans hkb (by decide)) (Nat.le_trans (szz_mul hkb hkc) (by decide))) ?_
                              rintro e w1 ⟨u, rfl, hu, hb⟩
                              exact ⟨u, rfl, hK.out _ _ hb (fun w2 h2 => (hu).grow h2) (fun h => absurd h (by decide))⟩
                            refine AllOps.cons (fun _ => Does.plain rfl fun lq aq wq hk hr K hK => ?_) ?_
                            · obtain ⟨v3, E3, -, r3⟩ := hk.dep hr 3 163 (by kernel_rfl) (by kernel_rfl)
                              have r3 : ZV wq v3 ((a * c)) := r3 wq (Grows.refl wq)
                              obtain ⟨v7, E7, -, r7⟩ := hk.dep hr 7 167 (by kernel_rfl) (by kernel_rfl)
                              have r7 : ZV wq v7 ((b * c)) := r7 wq (Grows.refl wq)
                              refine wp_of_call (f := 16) (vs := #[v3, v7]) (by go_simp) (div_v wq (r3).wv (r7).wv (Int.mul_ne_zero hn0 hc0) (Nat.le_trans (szz_fdiv (b * c) (szz_mul hka hkc)) (by decide))) ?_
                              rintro e w1 ⟨u, rfl, hu, hb⟩
                              exact ⟨u, rfl, hK.out _ _ hb (fun w2 h2 => (let ⟨u0, e0, h0⟩ := hu; ⟨u0, e0, (h0).grow h2⟩)) (fun h => absurd h (by decide))⟩
                            refine AllOps.cons (fun _ => Does.plain rfl fun lq aq wq hk hr K hK => ?_) ?_
                            · obtain ⟨v8, E8, -, r8⟩ := hk.dep hr 8 168 (by kernel_rfl) (by kernel_rfl)
                              have r8 : ∃ u0, v8 = .tuple #[u0, .int .i64 0] ∧ ZV wq u0 ((Int.fdiv (a * c) (b * c))) := r8 wq (Grows.refl wq)
                              exact wp_of_value (by go_simp) (hK.out _ _ (Grows.refl _) (fun w2 h2 => (let ⟨u0, e0, h0⟩ := r8; ⟨u0, e0, (h0).grow h2⟩)) (fun h => absurd h (by decide)))
                            refine AllOps.cons (fun _ => Does.plain rfl fun lq aq wq hk hr K hK => ?_) ?_
                            · obtain ⟨v9, E9, -, r9⟩ := hk.dep hr 9 159 (by kernel_rfl) (by kernel_rfl)
                              have r9 : ∃ u0, v9 = .tuple #[u0, .int .i64 0] ∧ ZV wq u0 ((Int.fdiv (a * c) (b * c))) := r9 wq (Grows.refl wq)
                              obtain ⟨u0, rfl, h0⟩ := r9
                              exact wp_of_value (by go_simp) (hK.out _ _ (Grows.refl _) (fun w2 h2 => (h0).grow h2) (fun h => absurd h (by decide)))
                            refine AllOps.cons (fun h => absurd rfl h) ?_
                            refine AllOps.cons (fun _ => Does.plain rfl fun lq aq wq hk hr K hK => ?_) ?_
                            · exact wp_of_value (by go_simp) (hK.out _ _ ((Grows.refl _).alloc _) (fun w2 h2 => ⟨_, rfl, (Box2.new wq 24 _ _).below h2, (grows_of hk.ext).size⟩) (fun _ => Nat.le_refl _))
                            exact AllOps.nil
                          case fin =>
                            intro V x16 hG hV hap
                            have r10 : ZV x16 (V 10) ((Int.fdiv (a * c) (b * c))) := hV 10 (by decide)
                            have r11 : (V 11) = .int .i64 0 := hV 11 (by decide)
                            have r12 : ∃ bq, (V 12) = .pointer (some ⟨bq, 0, none⟩) ∧ Box2 x16 bq 24 (.bool false) (.slice none 0 0) ∧ (x15).heap.size ≤ bq := hV 12 (by decide)
                            clear hV
                            simp only [List.take_succ_cons, List.take_zero, List.drop_succ_cons, List.drop_zero, putAll, Act.put, List.setIfInBounds_toArray, List.set_cons_zero, List.set_cons_succ]
                            have hb := grows_of hG
                            obtain ⟨bg, eg, Dg, gg⟩ := r12
                            obtain ⟨ng, Ag, kg, cg, eg', sg⟩ := r10
                            simp only [eg, eg', r11]
                            clear eg eg' hap r11
                            refine wpList_of_skip rfl (op_store 16 169 _ rfl rfl Dg) ?_
                            have hB := put2_below (u := .bool ng) (v := .slice Ag kg cg) hb gg
                            replace sg := sg.put Dg (.bool ng) (.slice Ag kg cg)
                            replace Dg := put2_own (u := .bool ng) (v := .slice Ag kg cg) Dg
                            clear hb
                            generalize put2 x16 bg (.bool ng) (.slice Ag kg cg) = y17 at *
                            replace Da := Lib.hid (Box2.below Da.out hB)
                            replace Sa := Lib.hid (Sa.out.below hB)
                            replace Db := Lib.hid (Box2.below Db.out hB)
                            replace Sb := Lib.hid (Sb.out.below hB)
                            replace Dc := Lib.hid (Box2.below Dc.out hB)
                            replace Sc := Lib.hid (Sc.out.below hB)
                            replace Dq := Lib.hid (Box2.below Dq.out hB)
                            replace Sq := Lib.hid (Sq.out.below hB)
                            replace Dr := Lib.hid (Box2.below Dr.out hB)
                            replace Sr := Lib.hid (Sr.out.below hB)
                            replace Dl := Lib.hid (Box2.below Dl.out hB)
                            replace Sl := Lib.hid (Sl.out.below hB)
                            replace Dp := Lib.hid (Box2.below Dp.out hB)
                            replace Sp := Lib.hid (Sp.out.below hB)
                            replace Ds := Lib.hid (Box2.below Ds.out hB)
                            replace Ss := Lib.hid (Ss.out.below hB)
                            replace HB := Lib.hid (HB.out.trans (Below.mono hB HB.out.size))
                            replace Dg := Lib.hid Dg
                            have Sg := Lib.hid sg
                            clear hG hB gg sg
                            go_upto_region 18 with fail
                            refine wp_region_calm 4 [] ([fun vq wq => ZV wq vq ((Int.fdiv (a * c) (b * c))),
                                fun vq wq => ZV wq vq ((Int.fdiv a b)),
                                fun vq _ => vq = .bool true,
                                fun vq _ => vq = .bool true]) (by kernel_rfl) (by decide) ?hF ?steps ?fin
                            case hF =>
                              intro j hj; cases hj
                            case steps =>
                              refine AllOps.cons (Does.plain rfl fun lq aq wq hk hr K hK => ?_) ?_
                              · have B16 : ev aq (.tmp 16) = .pointer (some ⟨bg, 0, none⟩) := hk.base 16 (by kernel_rfl) rfl
                                have hb : Below _ _ _ := hk.ext
                                exact wp_of_value (op_load 16 _ B16 (Box2.below Dg.out hb)) (hK.out _ _ (Grows.refl _) (fun w2 h2 => ⟨_, _, _, _, rfl, (Sg.out.below hb).below h2⟩) (fun h => absurd h (by decide)))
                              refine AllOps.cons (Does.plain rfl fun lq aq wq hk hr K hK => ?_) ?_
                              · have B6 : ev aq (.tmp 6) = .pointer (some ⟨bq, 0, none⟩) := hk.base 6 (by kernel_rfl) rfl
                                have hb : Below _ _ _ := hk.ext
                                exact wp_of_value (op_load 6 _ B6 (Box2.below Dq.out hb)) (hK.out _ _ (Grows.refl _) (fun w2 h2 => ⟨_, _, _, _, rfl, (Sq.out.below hb).below h2⟩) (fun h => absurd h (by decide)))
                              refine AllOps.cons (Does.plain rfl fun lq aq wq hk hr K hK => ?_) ?_
                              · obtain ⟨v0, E0, -, r0⟩ := hk.dep hr 0 171 (by kernel_rfl) (by kernel_rfl)
                                have r0 : ZV wq v0 ((Int.fdiv (a * c) (b * c))) := r0 wq (Grows.refl wq)
                                obtain ⟨v1, E1, -, r1⟩ := hk.dep hr 1 172 (by kernel_rfl) (by kernel_rfl)
                                have r1 : ZV wq v1 ((Int.fdiv a b)) := r1 wq (Grows.refl wq)
                                refine wp_of_call (f := 26) (vs := #[v0, v1]) (by go_simp) (same_v wq r0 r1 (t := true) (decide_eq_true (floor_times hn0 hc0))) ?_
                                rintro e w1 ⟨u, rfl, hu, hb⟩
                                exact ⟨u, rfl, hK.out _ _ hb (fun w2 h2 => hu) (fun h => absurd h (by decide))⟩
                              refine AllOps.cons (Does.plain rfl fun lq aq wq hk hr K hK => ?_) ?_
                              · obtain ⟨v2, E2, -, r2⟩ := hk.dep hr 2 173 (by kernel_rfl) (by kernel_rfl)
                                replace E2 : ev aq (.tmp 173) = .bool true := E2.trans (r2 wq (Grows.refl wq))
                                exact wp_of_value (by go_simp) (hK.out _ _ (Grows.refl _) (fun w2 h2 => rfl) (fun h => absurd h (by decide)))
                              exact AllOps.nil
                            case fin =>
                              intro V x18 hG hV hap
                              have r3 : (V 3) = .bool true := hV 3 (by decide)
                              clear hV hap
                              simp only [List.take_succ_cons, List.take_nil, List.drop_succ_cons, List.drop_nil, putAll, Act.put, List.setIfInBounds_toArray, List.set_cons_zero, List.set_cons_succ]
                              have hb := (show Below _ _ _ from hG)
                              replace Da := Lib.hid (Box2.below Da.out hb)
                              replace Sa := Lib.hid (Sa.out.below hb)
                              replace Db := Lib.hid (Box2.below Db.out hb)
                              replace Sb := Lib.hid (Sb.out.below hb)
                              replace Dc := Lib.hid (Box2.below Dc.out hb)
                              replace Sc := Lib.hid (Sc.out.below hb)
                              replace Dq := Lib.hid (Box2.below Dq.out hb)
                              replace Sq := Lib.hid (Sq.out.below hb)
                              replace Dr := Lib.hid (Box2.below Dr.out hb)
                              replace Sr := Lib.hid (Sr.out.below hb)
                              replace Dl := Lib.hid (Box2.below Dl.out hb)
                              replace Sl := Lib.hid (Sl.out.below hb)
                              replace Dp := Lib.hid (Box2.below Dp.out hb)
                              replace Sp := Lib.hid (Sp.out.below hb)
                              replace Ds := Lib.hid (Box2.below Ds.out hb)
                              replace Ss := Lib.hid (Ss.out.below hb)
                              replace Dg := Lib.hid (Box2.below Dg.out hb)
                              replace Sg := Lib.hid (Sg.out.below hb)
                              replace HB := Lib.hid (HB.out.trans (Below.mono hb HB.out.size))
                              clear hb hG
                              rw [r3]
                              go_wp2_with fail
                              go_ret
                              exact ⟨rfl, HB.out⟩
          · skip
            go_upto_region 8 with fail
            refine wp_region_going 54 [] ([fun vq _ => vq = .int .i64 0,
                fun vq _ => vq = .bool false,
                fun vq _ => vq = .bool false,
                fun vq _ => vq = .int .i64 0,
                fun vq _ => vq = .bool false,
                fun vq _ => vq = .bool false,
                fun vq _ => vq = .bool false,
                fun vq wq => WV wq vq b,
                fun vq wq => ZV wq vq ((Int.fdiv a b)),
                fun vq wq => RowV wq vq [b, (Int.fdiv a b)],
                fun vq wq => ZV wq vq ((b * (Int.fdiv a b))),
                fun vq wq => ZV wq vq ((Int.fmod a b)),
                fun vq wq => RowV wq vq [(b * (Int.fdiv a b)), (Int.fmod a b)],
                fun vq wq => ZV wq vq (((b * (Int.fdiv a b)) + (Int.fmod a b))),
                fun vq wq => WV wq vq a,
                fun vq wq => RowV wq vq [a],
                fun vq wq => ZV wq vq a,
                fun vq _ => vq = .bool true,
                fun vq _ => vq = .bool false,
                fun vq _ => vq = .bool false,
                fun vq _ => vq = .bool false,
                fun vq wq => ZV wq vq ((Int.fmod a b)),
                fun vq _ => vq = .int .i64 1,
                fun vq _ => vq = .bool true,
                fun vq _ => vq = .bool true,
                fun vq wq => ZV wq vq ((Int.fmod a b)),
                fun vq _ => vq = .int .i64 1,
                fun vq wq => WV wq vq b,
                fun vq _ => vq = .int .i64 1,
                fun vq _ => vq = .bool false,
                fun vq _ => vq = .bool false,
                fun vq _ => vq = .bool false,
                fun vq _ => vq = .bool false,
                fun vq wq => WV wq vq b,
                fun vq _ => vq = .int .i64 1,
                fun vq _ => vq = .bool true,
                fun vq _ => vq = .bool true,
                fun vq wq => ZV wq vq ((Int.fmod a b)),
                fun vq wq => WV wq vq b,
                fun vq _ => vq = .int .i64 ((-1)),
                fun vq _ => vq = .bool false,
                fun vq _ => vq = .bool false,
                fun vq _ => vq = .bool false,
                fun vq _ => vq = .bool false,
                fun vq wq => WV wq vq b,
                fun vq _ => vq = .int .i64 1,
                fun vq _ => vq = .bool false,
                fun vq _ => vq = .bool false,
                fun vq _ => vq = undef,
                fun vq _ => vq = undef,
                fun vq _ => vq = undef,
                fun vq _ => vq = undef,
                fun vq _ => vq = .bool false,
                fun vq _ => vq = .bool false]) (by kernel_rfl) (by kernel_rfl) (by decide) (by kernel_rfl) (by kernel_rfl) ?hF ?steps ?fin
            case hF =>
              intro j hj; cases hj
            case steps =>
              refine AllOps.cons (Does.plain rfl fun lq aq wq hk hr K hK => ?_) ?_
              · have B7 : ev aq (.tmp 7) = .int .i64 0 := hk.base 7 (by kernel_rfl) rfl
                exact wp_of_value (by go_simp) (hK.out _ _ (Grows.refl _) (fun w2 h2 => rfl) (fun h => absurd h (by decide)))
              refine AllOps.cons (Does.plain rfl fun lq aq wq hk hr K hK => ?_) ?_
              · obtain ⟨v0, E0, -, r0⟩ := hk.dep hr 0 60 (by kernel_rfl) (by kernel_rfl)
                replace E0 : ev aq (.tmp 60) = .int .i64 0 := E0.trans (r0 wq (Grows.refl wq))
                exact wp_of_value (by go_simp) (hK.out _ _ (Grows.refl _) (fun w2 h2 => rfl) (fun h => absurd h (by decide)))
              refine AllOps.cons (Does.plain rfl fun lq aq wq hk hr K hK => ?_) ?_
              · obtain ⟨v1, E1, -, r1⟩ := hk.dep hr 1 61 (by kernel_rfl) (by kernel_rfl)
                replace E1 : ev aq (.tmp 61) = .bool false := E1.trans (r1 wq (Grows.refl wq))
                exact wp_of_value (by go_simp) (hK.out _ _ (Grows.refl _) (fun w2 h2 => rfl) (fun h => absurd h (by decide)))
              refine AllOps.cons (Does.lets (g := 2) (d := 62) (t := false) rfl (by kernel_rfl) (by kernel_rfl) (fun vq wq h => h wq (Grows.refl wq)) fun lq aq wq hk hr K hK => ?_) ?_
              · have B9 : ev aq (.tmp 9) = .int .i64 0 := hk.base 9 (by kernel_rfl) rfl
                exact wp_of_value (by go_simp) (hK.out _ _ (Grows.refl _) (fun w2 h2 => rfl) (fun h => absurd h (by decide)))
              refine AllOps.cons (Does.lets (g := 2) (d := 62) (t := false) rfl (by kernel_rfl) (by kernel_rfl) (fun vq wq h => h wq (Grows.refl wq)) fun lq aq wq hk hr K hK => ?_) ?_
              · obtain ⟨v3, E3, -, r3⟩ := hk.dep hr 3 63 (by kernel_rfl) (by kernel_rfl)
                replace E3 : ev aq (.tmp 63) = .int .i64 0 := E3.trans (r3 wq (Grows.refl wq))
                exact wp_of_value (by go_simp) (hK.out _ _ (Grows.refl _) (fun w2 h2 => rfl) (fun h => absurd h (by decide)))
              refine AllOps.cons (Does.plain rfl fun lq aq wq hk hr K hK => ?_) ?_
              · obtain ⟨v2, E2, -, r2⟩ := hk.dep hr 2 62 (by kernel_rfl) (by kernel_rfl)
                replace E2 : ev aq (.tmp 62) = .bool false := E2.trans (r2 wq (Grows.refl wq))
                obtain ⟨v4, E4, -, r4⟩ := hk.dep hr 4 64 (by kernel_rfl) (by kernel_rfl)
                replace E4 : ev aq (.tmp 64) = .bool false := E4.trans (r4 wq (Grows.refl wq))
                exact wp_of_value (by go_simp) (hK.out _ _ (Grows.refl _) (fun w2 h2 => rfl) (fun h => absurd h (by decide)))
              refine AllOps.cons (Does.plain rfl fun lq aq wq hk hr K hK => ?_) ?_
              · obtain ⟨v5, E5, -, r5⟩ := hk.dep hr 5 65 (by kernel_rfl) (by kernel_rfl)
                replace E5 : ev aq (.tmp 65) = .bool false := E5.trans (r5 wq (Grows.refl wq))
                exact wp_of_value (by go_simp) (hK.out _ _ (Grows.refl _) (fun w2 h2 => rfl) (fun h => absurd h (by decide)))
              refine AllOps.cons (Does.lets (g := 6) (d := 66) (t := false) rfl (by kernel_rfl) (by kernel_rfl) (fun vq wq h => h wq (Grows.refl wq)) fun lq aq wq hk hr K hK => ?_) ?_
              · have B4 : ev aq (.tmp 4) = .pointer (some ⟨bb, 0, none⟩) := hk.base 4 (by kernel_rfl) rfl
                have hb := grows_of hk.ext
                exact wp_of_value (op_load 4 _ B4 (Box2.below Db.out hb)) (hK.out _ _ (Grows.refl _) (fun w2 h2 => ⟨_, _, _, _, rfl, (Sb.out.below hb).below h2⟩) (fun h => absurd h (by decide)))
              refine AllOps.cons (Does.lets (g := 6) (d := 66) (t := false) rfl (by kernel_rfl) (by kernel_rfl) (fun vq wq h => h wq (Grows.refl wq)) fun lq aq wq hk hr K hK => ?_) ?_
              · have B6 : ev aq (.tmp 6) = .pointer (some ⟨bq, 0, none⟩) := hk.base 6 (by kernel_rfl) rfl
                have hb := grows_of hk.ext
                exact wp_of_value (op_load 6 _ B6 (Box2.below Dq.out hb)) (hK.out _ _ (Grows.refl _) (fun w2 h2 => ⟨_, _, _, _, rfl, (Sq.out.below hb).below h2⟩) (fun h => absurd h (by decide)))
              refine AllOps.cons (Does.lets (g := 6) (d := 66) (t := false) rfl (by kernel_rfl) (by kernel_rfl) (fun vq wq h => h wq (Grows.refl wq)) fun lq aq wq hk hr K hK => ?_) ?_
              · obtain ⟨v7, E7, -, r7⟩ := hk.dep hr 7 67 (by kernel_rfl) (by kernel_rfl)
                have r7 : WV wq v7 b := r7 wq (Grows.refl wq)
                obtain ⟨n7, A7, k7, c7, rfl, s7⟩ := r7
                obtain ⟨v8, E8, -, r8⟩ := hk.dep hr 8 68 (by kernel_rfl) (by kernel_rfl)
                have r8 : ZV wq v8 ((Int.fdiv a b)) := r8 wq (Grows.refl wq)
                obtain ⟨n8, A8, k8, c8, rfl, s8⟩ := r8
                exact wp_of_value (op_row2 67 68 E7 E8) (hK.out _ _ ((Grows.refl _).alloc _) (fun w2 h2 => (RowV.two s7 s8.whole).grow h2) (fun h => absurd h (by decide)))
              refine AllOps.cons (Does.lets (g := 6) (d := 66) (t := false) rfl (by kernel_rfl) (by kernel_rfl) (fun vq wq h => h wq (Grows.refl wq)) fun lq aq wq hk hr K hK => ?_) ?_
              · obtain ⟨v9, E9, -, r9⟩ := hk.dep hr 9 69 (by kernel_rfl) (by kernel_rfl)
                have r9 : RowV wq v9 [b, (Int.fdiv a b)] := r9 wq (Grows.refl wq)
                refine wp_of_call (f := 28) (vs := #[v9]) (by go_simp) (mul2_v wq r9 (Nat.le_trans hkb (by decide)) (Nat.le_trans (szz_mul hkb (szz_fdiv b hka)) (by decide))) ?_
                rintro e w1 ⟨u, rfl, hu, hb⟩
                exact ⟨u, rfl, hK.out _ _ hb (fun w2 h2 => (hu).grow h2) (fun h => absurd h (by decide))⟩
              refine AllOps.cons (Does.lets (g := 6) (d := 66) (t := false) rfl (by kernel_rfl) (by kernel_rfl) (fun vq wq h => h wq (Grows.refl wq)) fun lq aq wq hk hr K hK => ?_) ?_
              · have B8 : ev aq (.tmp 8) = .pointer (some ⟨br, 0, none⟩) := hk.base 8 (by kernel_rfl) rfl
                have hb := grows_of hk.ext
                exact wp_of_value (op_load 8 _ B8 (Box2.below Dr.out hb)) (hK.out _ _ (Grows.refl _) (fun w2 h2 => ⟨_, _, _, _, rfl, (Sr.out.below hb).below h2⟩) (fun h => absurd h (by decide)))
              refine AllOps.cons (Does.lets (g := 6) (d := 66) (t := false) rfl (by kernel_rfl) (by kernel_rfl) (fun vq wq h => h wq (Grows.refl wq)) fun lq aq wq hk hr K hK => ?_) ?_
              · obtain ⟨v10, E10, -, r10⟩ := hk.dep hr 10 70 (by kernel_rfl) (by kernel_rfl)
                have r10 : ZV wq v10 ((b * (Int.fdiv a b))) := r10 wq (Grows.refl wq)
                obtain ⟨n10, A10, k10, c10, rfl, s10⟩ := r10
                obtain ⟨v11, E11, -, r11⟩ := hk.dep hr 11 71 (by kernel_rfl) (by kernel_rfl)
                have r11 : ZV wq v11 ((Int.fmod a b)) := r11 wq (Grows.refl wq)
                obtain ⟨n11, A11, k11, c11, rfl, s11⟩ := r11
                exact wp_of_value (op_row2 70 71 E10 E11) (hK.out _ _ ((Grows.refl _).alloc _) (fun w2 h2 => (RowV.two s10.whole s11.whole).grow h2) (fun h => absurd h (by decide)))
              refine AllOps.cons (Does.lets (g := 6) (d := 66) (t := false) rfl (by kernel_rfl) (by kernel_rfl) (fun vq wq h => h wq (Grows.refl wq)) fun lq aq wq hk hr K hK => ?_) ?_
              · obtain ⟨v12, E12, -, r12⟩ := hk.dep hr 12 72 (by kernel_rfl) (by kernel_rfl)
                have r12 : RowV wq v12 [(b * (Int.fdiv a b)), (Int.fmod a b)] := r12 wq (Grows.refl wq)
                refine wp_of_call (f := 27) (vs := #[v12]) (by go_simp) (add2_v wq r12 (Nat.le_trans (szz_mul hkb (szz_fdiv b hka)) (by decide)) (Nat.le_trans (szz_add (szz_mul hkb (szz_fdiv b hka)) (szz_fmod a hn0 hkb)) (by decide))) ?_
                rintro e w1 ⟨u, rfl, hu, hb⟩
                exact ⟨u, rfl, hK.out _ _ hb (fun w2 h2 => (hu).grow h2) (fun h => absurd h (by decide))⟩
              refine AllOps.cons (Does.lets (g := 6) (d := 66) (t := false) rfl (by kernel_rfl) (by kernel_rfl) (fun vq wq h => h wq (Grows.refl wq)) fun lq aq wq hk hr K hK => ?_) ?_
              · have B3 : ev aq (.tmp 3) = .pointer (some ⟨ba, 0, none⟩) := hk.base 3 (by kernel_rfl) rfl
                have hb := grows_of hk.ext
                exact wp_of_value (op_load 3 _ B3 (Box2.below Da.out hb)) (hK.out _ _ (Grows.refl _) (fun w2 h2 => ⟨_, _, _, _, rfl, (Sa.out.below hb).below h2⟩) (fun h => absurd h (by decide)))
              refine AllOps.cons (Does.lets (g := 6) (d := 66) (t := false) rfl (by kernel_rfl) (by kernel_rfl) (fun vq wq h => h wq (Grows.refl wq)) fun lq aq wq hk hr K hK => ?_) ?_
              · obtain ⟨v14, E14, -, r14⟩ := hk.dep hr 14 74 (by kernel_rfl) (by kernel_rfl)
                have r14 : WV wq v14 a := r14 wq (Grows.refl wq)
                obtain ⟨n14, A14, k14, c14, rfl, s14⟩ := r14
                exact wp_of_value (op_row1 74 E14) (hK.out _ _ ((Grows.refl _).alloc _) (fun w2 h2 => (RowV.one s14).grow h2) (fun h => absurd h (by decide)))
              refine AllOps.cons (Does.lets (g := 6) (d := 66) (t := false) rfl (by kernel_rfl) (by kernel_rfl) (fun vq wq h => h wq (Grows.refl wq)) fun lq aq wq hk hr K hK => ?_) ?_
              · obtain ⟨v15, E15, -, r15⟩ := hk.dep hr 15 75 (by kernel_rfl) (by kernel_rfl)
                have r15 : RowV wq v15 [a] := r15 wq (Grows.refl wq)
                refine wp_of_call (f := 27) (vs := #[v15]) (by go_simp) (add1_v wq r15 (Nat.le_trans hka (by decide))) ?_
                rintro e w1 ⟨u, rfl, hu, hb⟩
                exact ⟨u, rfl, hK.out _ _ hb (fun w2 h2 => (hu).grow h2) (fun h => absurd h (by decide))⟩
              refine AllOps.cons (Does.lets (g := 6) (d := 66) (t := false) rfl (by kernel_rfl) (by kernel_rfl) (fun vq wq h => h wq (Grows.refl wq)) fun lq aq wq hk hr K hK => ?_) ?_
              · obtain ⟨v13, E13, -, r13⟩ := hk.dep hr 13 73 (by kernel_rfl) (by kernel_rfl)
                have r13 : ZV wq v13 (((b * (Int.fdiv a b)) + (Int.fmod a b))) := r13 wq (Grows.refl wq)
                obtain ⟨v16, E16, -, r16⟩ := hk.dep hr 16 76 (by kernel_rfl) (by kernel_rfl)
                have r16 : ZV wq v16 a := r16 wq (Grows.refl wq)
                refine wp_of_call (f := 26) (vs := #[v13, v16]) (by go_simp) (same_v wq r13 r16 (t := true) floor_ok) ?_
                rintro e w1 ⟨u, rfl, hu, hb⟩
                exact ⟨u, rfl, hK.out _ _ hb (fun w2 h2 => hu) (fun h => absurd h (by decide))⟩
              refine AllOps.cons (Does.lets (g := 6) (d := 66) (t := false) rfl (by kernel_rfl) (by kernel_rfl) (fun vq wq h => h wq (Grows.refl wq)) fun lq aq wq hk hr K hK => ?_) ?_
              · obtain ⟨v17, E17, -, r17⟩ := hk.dep hr 17 77 (by kernel_rfl) (by kernel_rfl)
                replace E17 : ev aq (.tmp 77) = .bool true := E17.trans (r17 wq (Grows.refl wq))
                exact wp_of_value (by go_simp) (hK.out _ _ (Grows.refl _) (fun w2 h2 => rfl) (fun h => absurd h (by decide)))
              refine AllOps.cons (Does.plain rfl fun lq aq wq hk hr K hK => ?_) ?_
              · obtain ⟨v6, E6, -, r6⟩ := hk.dep hr 6 66 (by kernel_rfl) (by kernel_rfl)
                replace E6 : ev aq (.tmp 66) = .bool false := E6.trans (r6 wq (Grows.refl wq))
                obtain ⟨v18, E18, -, r18⟩ := hk.dep hr 18 78 (by kernel_rfl) (by kernel_rfl)
                replace E18 : ev aq (.tmp 78) = .bool false := E18.trans (r18 wq (Grows.refl wq))
                exact wp_of_value (by go_simp) (hK.out _ _ (Grows.refl _) (fun w2 h2 => rfl) (fun h => absurd h (by decide)))
              refine AllOps.cons (Does.plain rfl fun lq aq wq hk hr K hK => ?_) ?_
              · obtain ⟨v19, E19, -, r19⟩ := hk.dep hr 19 79 (by kernel_rfl) (by kernel_rfl)
                replace E19 : ev aq (.tmp 79) = .bool false := E19.trans (r19 wq (Grows.refl wq))
                exact wp_of_value (by go_simp) (hK.out _ _ (Grows.refl _) (fun w2 h2 => rfl) (fun h => absurd h (by decide)))
              refine AllOps.cons (Does.lets (g := 20) (d := 80) (t := false) rfl (by kernel_rfl) (by kernel_rfl) (fun vq wq h => h wq (Grows.refl wq)) fun lq aq wq hk hr K hK => ?_) ?_
              · have B8 : ev aq (.tmp 8) = .pointer (some ⟨br, 0, none⟩) := hk.base 8 (by kernel_rfl) rfl
                have hb := grows_of hk.ext
                exact wp_of_value (op_load 8 _ B8 (Box2.below Dr.out hb)) (hK.out _ _ (Grows.refl _) (fun w2 h2 => ⟨_, _, _, _, rfl, (Sr.out.below hb).below h2⟩) (fun h => absurd h (by decide)))
              refine AllOps.cons (Does.lets (g := 20) (d := 80) (t := false) rfl (by kernel_rfl) (by kernel_rfl) (fun vq wq h => h wq (Grows.refl wq)) fun lq aq wq hk hr K hK => ?_) ?_
              · obtain ⟨v21, E21, -, r21⟩ := hk.dep hr 21 81 (by kernel_rfl) (by kernel_rfl)
                have r21 : ZV wq v21 ((Int.fmod a b)) := r21 wq (Grows.refl wq)
                refine wp_of_call (f := 36) (vs := #[v21]) (by go_simp) (sign_v wq (r21).wv (k := 1) ((fmod_sign hn0 hr0).trans (Int.sign_eq_one_of_pos h0))) ?_
                rintro e w1 ⟨u, rfl, hu, hb⟩
                exact ⟨u, rfl, hK.out _ _ hb (fun w2 h2 => hu) (fun h => absurd h (by decide))⟩
              refine AllOps.cons (Does.lets (g := 20) (d := 80) (t := false) rfl (by kernel_rfl) (by kernel_rfl) (fun vq wq h => h wq (Grows.refl wq)) fun lq aq wq hk hr K hK => ?_) ?_
              · obtain ⟨v22, E22, -, r22⟩ := hk.dep hr 22 82 (by kernel_rfl) (by kernel_rfl)
                replace E22 : ev aq (.tmp 82) = .int .i64 1 := E22.trans (r22 wq (Grows.refl wq))
                exact wp_of_value (by go_simp) (hK.out _ _ (Grows.refl _) (fun w2 h2 => rfl) (fun h => absurd h (by decide)))
              refine AllOps.cons (Does.lets (g := 20) (d := 80) (t := false) rfl (by kernel_rfl) (by kernel_rfl) (fun vq wq h => h wq (Grows.refl wq)) fun lq aq wq hk hr K hK => ?_) ?_
              · obtain ⟨v23, E23, -, r23⟩ := hk.dep hr 23 83 (by kernel_rfl) (by kernel_rfl)
                replace E23 : ev aq (.tmp 83) = .bool true := E23.trans (r23 wq (Grows.refl wq))
                exact wp_of_value (by go_simp) (hK.out _ _ (Grows.refl _) (fun w2 h2 => rfl) (fun h => absurd h (by decide)))
              refine AllOps.cons (Does.lets (g := 24) (d := 84) (t := true) rfl (by kernel_rfl) (by kernel_rfl) (fun vq wq h => h wq (Grows.refl wq)) fun lq aq wq hk hr K hK => ?_) ?_
              · have B8 : ev aq (.tmp 8) = .pointer (some ⟨br, 0, none⟩) := hk.base 8 (by kernel_rfl) rfl
                have hb := grows_of hk.ext
                exact wp_of_value (op_load 8 _ B8 (Box2.below Dr.out hb)) (hK.out _ _ (Grows.refl _) (fun w2 h2 => ⟨_, _, _, _, rfl, (Sr.out.below hb).below h2⟩) (fun h => absurd h (by decide)))
              refine AllOps.cons (Does.lets (g := 24) (d := 84) (t := true) rfl (by kernel_rfl) (by kernel_rfl) (fun vq wq h => h wq (Grows.refl wq)) fun lq aq wq hk hr K hK => ?_) ?_
              · obtain ⟨v25, E25, -, r25⟩ := hk.dep hr 25 85 (by kernel_rfl) (by kernel_rfl)
                have r25 : ZV wq v25 ((Int.fmod a b)) := r25 wq (Grows.refl wq)
                refine wp_of_call (f := 36) (vs := #[v25]) (by go_simp) (sign_v wq (r25).wv (k := 1) ((fmod_sign hn0 hr0).trans (Int.sign_eq_one_of_pos h0))) ?_
                rintro e w1 ⟨u, rfl, hu, hb⟩
                exact ⟨u, rfl, hK.out _ _ hb (fun w2 h2 => hu) (fun h => absurd h (by decide))⟩
              refine AllOps.cons (Does.lets (g := 24) (d := 84) (t := true) rfl (by kernel_rfl) (by kernel_rfl) (fun vq wq h => h wq (Grows.refl wq)) fun lq aq wq hk hr K hK => ?_) ?_
              · have B4 : ev aq (.tmp 4) = .pointer (some ⟨bb, 0, none⟩) := hk.base 4 (by kernel_rfl) rfl
                have hb := grows_of hk.ext
                exact wp_of_value (op_load 4 _ B4 (Box2.below Db.out hb)) (hK.out _ _ (Grows.refl _) (fun w2 h2 => ⟨_, _, _, _, rfl, (Sb.out.below hb).below h2⟩) (fun h => absurd h (by decide)))
              refine AllOps.cons (Does.lets (g := 24) (d := 84) (t := true) rfl (by kernel_rfl) (by kernel_rfl) (fun vq wq h => h wq (Grows.refl wq)) fun lq aq wq hk hr K hK => ?_) ?_
              · obtain ⟨v27, E27, -, r27⟩ := hk.dep hr 27 87 (by kernel_rfl) (by kernel_rfl)
                have r27 : WV wq v27 b := r27 wq (Grows.refl wq)
                refine wp_of_call (f := 36) (vs := #[v27]) (by go_simp) (sign_v wq r27 (k := 1) (Int.sign_eq_one_of_pos h0)) ?_
                rintro e w1 ⟨u, rfl, hu, hb⟩
                exact ⟨u, rfl, hK.out _ _ hb (fun w2 h2 => hu) (fun h => absurd h (by decide))⟩
              refine AllOps.cons (Does.lets (g := 24) (d := 84) (t := true) rfl (by kernel_rfl) (by kernel_rfl) (fun vq wq h => h wq (Grows.refl wq)) fun lq aq wq hk hr K hK => ?_) ?_
              · obtain ⟨v26, E26, -, r26⟩ := hk.dep hr 26 86 (by kernel_rfl) (by kernel_rfl)
                replace E26 : ev aq (.tmp 86) = .int .i64 1 := E26.trans (r26 wq (Grows.refl wq))
                obtain ⟨v28, E28, -, r28⟩ := hk.dep hr 28 88 (by kernel_rfl) (by kernel_rfl)
                replace E28 : ev aq (.tmp 88) = .int .i64 1 := E28.trans (r28 wq (Grows.refl wq))
                exact wp_of_value (by go_simp) (hK.out _ _ (Grows.refl _) (fun w2 h2 => rfl) (fun h => absurd h (by decide)))
              refine AllOps.cons (Does.lets (g := 20) (d := 80) (t := false) rfl (by kernel_rfl) (by kernel_rfl) (fun vq wq h => h wq (Grows.refl wq)) fun lq aq wq hk hr K hK => ?_) ?_
              · obtain ⟨v24, E24, -, r24⟩ := hk.dep hr 24 84 (by kernel_rfl) (by kernel_rfl)
                replace E24 : ev aq (.tmp 84) = .bool true := E24.trans (r24 wq (Grows.refl wq))
                obtain ⟨v29, E29, -, r29⟩ := hk.dep hr 29 89 (by kernel_rfl) (by kernel_rfl)
                replace E29 : ev aq (.tmp 89) = .bool false := E29.trans (r29 wq (Grows.refl wq))
                exact wp_of_value (by go_simp) (hK.out _ _ (Grows.refl _) (fun w2 h2 => rfl) (fun h => absurd h (by decide)))
              refine AllOps.cons (Does.plain rfl fun lq aq wq hk hr K hK => ?_) ?_
              · obtain ⟨v20, E20, -, r20⟩ := hk.dep hr 20 80 (by kernel_rfl) (by kernel_rfl)
                replace E20 : ev aq (.tmp 80) = .bool false := E20.trans (r20 wq (Grows.refl wq))
                obtain ⟨v30, E30, -, r30⟩ := hk.dep hr 30 90 (by kernel_rfl) (by kernel_rfl)
                replace E30 : ev aq (.tmp 90) = .bool false := E30.trans (r30 wq (Grows.refl wq))
                exact wp_of_value (by go_simp) (hK.out _ _ (Grows.refl _) (fun w2 h2 => rfl) (fun h => absurd h (by decide)))
              refine AllOps.cons (Does.plain rfl fun lq aq wq hk hr K hK => ?_) ?_
              · obtain ⟨v31, E31, -, r31⟩ := hk.dep hr 31 91 (by kernel_rfl) (by kernel_rfl)
                replace E31 : ev aq (.tmp 91) = .bool false := E31.trans (r31 wq (Grows.refl wq))
                exact wp_of_value (by go_simp) (hK.out _ _ (Grows.refl _) (fun w2 h2 => rfl) (fun h => absurd h (by decide)))
              refine AllOps.cons (Does.lets (g := 32) (d := 92) (t := false) rfl (by kernel_rfl) (by kernel_rfl) (fun vq wq h => h wq (Grows.refl wq)) fun lq aq wq hk hr K hK => ?_) ?_
              · have B4 : ev aq (.tmp 4) = .pointer (some ⟨bb, 0, none⟩) := hk.base 4 (by kernel_rfl) rfl
                have hb := grows_of hk.ext
                exact wp_of_value (op_load 4 _ B4 (Box2.below Db.out hb)) (hK.out _ _ (Grows.refl _) (fun w2 h2 => ⟨_, _, _, _, rfl, (Sb.out.below hb).below h2⟩) (fun h => absurd h (by decide)))
              refine AllOps.cons (Does.lets (g := 32) (d := 92) (t := false) rfl (by kernel_rfl) (by kernel_rfl) (fun vq wq h => h wq (Grows.refl wq)) fun lq aq wq hk hr K hK => ?_) ?_
              · obtain ⟨v33, E33, -, r33⟩ := hk.dep hr 33 93 (by kernel_rfl) (by kernel_rfl)
                have r33 : WV wq v33 b := r33 wq (Grows.refl wq)
                refine wp_of_call (f := 36) (vs := #[v33]) (by go_simp) (sign_v wq r33 (k := 1) (Int.sign_eq_one_of_pos h0)) ?_
                rintro e w1 ⟨u, rfl, hu, hb⟩
                exact ⟨u, rfl, hK.out _ _ hb (fun w2 h2 => hu) (fun h => absurd h (by decide))⟩
              refine AllOps.cons (Does.lets (g := 32) (d := 92) (t := false) rfl (by kernel_rfl) (by kernel_rfl) (fun vq wq h => h wq (Grows.refl wq)) fun lq aq wq hk hr K hK => ?_) ?_
              · obtain ⟨v34, E34, -, r34⟩ := hk.dep hr 34 94 (by kernel_rfl) (by kernel_rfl)
                replace E34 : ev aq (.tmp 94) = .int .i64 1 := E34.trans (r34 wq (Grows.refl wq))
                exact wp_of_value (by go_simp) (hK.out _ _ (Grows.refl _) (fun w2 h2 => rfl) (fun h => absurd h (by decide)))
              refine AllOps.cons (Does.lets (g := 32) (d := 92) (t := false) rfl (by kernel_rfl) (by kernel_rfl) (fun vq wq h => h wq (Grows.refl wq)) fun lq aq wq hk hr K hK => ?_) ?_
              · obtain ⟨v35, E35, -, r35⟩ := hk.dep hr 35 95 (by kernel_rfl) (by kernel_rfl)
                replace E35 : ev aq (.tmp 95) = .bool true := E35.trans (r35 wq (Grows.refl wq))
                exact wp_of_value (by go_simp) (hK.out _ _ (Grows.refl _) (fun w2 h2 => rfl) (fun h => absurd h (by decide)))
              refine AllOps.cons (Does.lets (g := 36) (d := 96) (t := true) rfl (by kernel_rfl) (by kernel_rfl) (fun vq wq h => h wq (Grows.refl wq)) fun lq aq wq hk hr K hK => ?_) ?_
              · have B8 : ev aq (.tmp 8) = .pointer (some ⟨br, 0, none⟩) := hk.base 8 (by kernel_rfl) rfl
                have hb := grows_of hk.ext
                exact wp_of_value (op_load 8 _ B8 (Box2.below Dr.out hb)) (hK.out _ _ (Grows.refl _) (fun w2 h2 => ⟨_, _, _, _, rfl, (Sr.out.below hb).below h2⟩) (fun h => absurd h (by decide)))
              refine AllOps.cons (Does.lets (g := 36) (d := 96) (t := true) rfl (by kernel_rfl) (by kernel_rfl) (fun vq wq h => h wq (Grows.refl wq)) fun lq aq wq hk hr K hK => ?_) ?_
              · have B4 : ev aq (.tmp 4) = .pointer (some ⟨bb, 0, none⟩) := hk.base 4 (by kernel_rfl) rfl
                have hb := grows_of hk.ext
                exact wp_of_value (op_load 4 _ B4 (Box2.below Db.out hb)) (hK.out _ _ (Grows.refl _) (fun w2 h2 => ⟨_, _, _, _, rfl, (Sb.out.below hb).below h2⟩) (fun h => absurd h (by decide)))
              refine AllOps.cons (Does.lets (g := 36) (d := 96) (t := true) rfl (by kernel_rfl) (by kernel_rfl) (fun vq wq h => h wq (Grows.refl wq)) fun lq aq wq hk hr K hK => ?_) ?_
              · obtain ⟨v37, E37, -, r37⟩ := hk.dep hr 37 97 (by kernel_rfl) (by kernel_rfl)
                have r37 : ZV wq v37 ((Int.fmod a b)) := r37 wq (Grows.refl wq)
                obtain ⟨v38, E38, -, r38⟩ := hk.dep hr 38 98 (by kernel_rfl) (by kernel_rfl)
                have r38 : WV wq v38 b := r38 wq (Grows.refl wq)
                refine wp_of_call (f := 37) (vs := #[v37, v38]) (by go_simp) (cmp_v wq (r37).wv r38 (k := (-1)) (fmod_cmp h0)) ?_
                rintro e w1 ⟨u, rfl, hu, hb⟩
                exact ⟨u, rfl, hK.out _ _ hb (fun w2 h2 => hu) (fun h => absurd h (by decide))⟩
              refine AllOps.cons (Does.lets (g := 36) (d := 96) (t := true) rfl (by kernel_rfl) (by kernel_rfl) (fun vq wq h => h wq (Grows.refl wq)) fun lq aq wq hk hr K hK => ?_) ?_
              · obtain ⟨v39, E39, -, r39⟩ := hk.dep hr 39 99 (by kernel_rfl) (by kernel_rfl)
                replace E39 : ev aq (.tmp 99) = .int .i64 ((-1)) := E39.trans (r39 wq (Grows.refl wq))
                exact wp_of_value (by go_simp) (hK.out _ _ (Grows.refl _) (fun w2 h2 => rfl) (fun h => absurd h (by decide)))
              refine AllOps.cons (Does.lets (g := 32) (d := 92) (t := false) rfl (by kernel_rfl) (by kernel_rfl) (fun vq wq h => h wq (Grows.refl wq)) fun lq aq wq hk hr K hK => ?_) ?_
              · obtain ⟨v36, E36, -, r36⟩ := hk.dep hr 36 96 (by kernel_rfl) (by kernel_rfl)
                replace E36 : ev aq (.tmp 96) = .bool true := E36.trans (r36 wq (Grows.refl wq))
                obtain ⟨v40, E40, -, r40⟩ := hk.dep hr 40 100 (by kernel_rfl) (by kernel_rfl)
                replace E40 : ev aq (.tmp 100) = .bool false := E40.trans (r40 wq (Grows.refl wq))
                exact wp_of_value (by go_simp) (hK.out _ _ (Grows.refl _) (fun w2 h2 => rfl) (fun h => absurd h (by decide)))
              refine AllOps.cons (Does.plain rfl fun lq aq wq hk hr K hK => ?_) ?_
              · obtain ⟨v32, E32, -, r32⟩ := hk.dep hr 32 92 (by kernel_rfl) (by kernel_rfl)
                replace E32 : ev aq (.tmp 92) = .bool false := E32.trans (r32 wq (Grows.refl wq))
                obtain ⟨v41, E41, -, r41⟩ := hk.dep hr 41 101 (by kernel_rfl) (by kernel_rfl)
                replace E41 : ev aq (.tmp 101) = .bool false := E41.trans (r41 wq (Grows.refl wq))
                exact wp_of_value (by go_simp) (hK.out _ _ (Grows.refl _) (fun w2 h2 => rfl) (fun h => absurd h (by decide)))
              refine AllOps.cons (Does.plain rfl fun lq aq wq hk hr K hK => ?_) ?_
              · obtain ⟨v42, E42, -, r42⟩ := hk.dep hr 42 102 (by kernel_rfl) (by kernel_rfl)
                replace E42 : ev aq (.tmp 102) = .bool false := E42.trans (r42 wq (Grows.refl wq))
                exact wp_of_value (by go_simp) (hK.out _ _ (Grows.refl _) (fun w2 h2 => rfl) (fun h => absurd h (by decide)))
              refine AllOps.cons (Does.lets (g := 43) (d := 103) (t := false) rfl (by kernel_rfl) (by kernel_rfl) (fun vq wq h => h wq (Grows.refl wq)) fun lq aq wq hk hr K hK => ?_) ?_
              · have B4 : ev aq (.tmp 4) = .pointer (some ⟨bb, 0, none⟩) := hk.base 4 (by kernel_rfl) rfl
                have hb := grows_of hk.ext
                exact wp_of_value (op_load 4 _ B4 (Box2.below Db.out hb)) (hK.out _ _ (Grows.refl _) (fun w2 h2 => ⟨_, _, _, _, rfl, (Sb.out.below hb).below h2⟩) (fun h => absurd h (by decide)))
              refine AllOps.cons (Does.lets (g := 43) (d := 103) (t := false) rfl (by kernel_rfl) (by kernel_rfl) (fun vq wq h => h wq (Grows.refl wq)) fun lq aq wq hk hr K hK => ?_) ?_
              · obtain ⟨v44, E44, -, r44⟩ := hk.dep hr 44 104 (by kernel_rfl) (by kernel_rfl)
                have r44 : WV wq v44 b := r44 wq (Grows.refl wq)
                refine wp_of_call (f := 36) (vs := #[v44]) (by go_simp) (sign_v wq r44 (k := 1) (Int.sign_eq_one_of_pos h0)) ?_
                rintro e w1 ⟨u, rfl, hu, hb⟩
                exact ⟨u, rfl, hK.out _ _ hb (fun w2 h2 => hu) (fun h => absurd h (by decide))⟩
              refine AllOps.cons (Does.lets (g := 43) (d := 103) (t := false) rfl (by kernel_rfl) (by kernel_rfl) (fun vq wq h => h wq (Grows.refl wq)) fun lq aq wq hk hr K hK => ?_) ?_
              · obtain ⟨v45, E45, -, r45⟩ := hk.dep hr 45 105 (by kernel_rfl) (by kernel_rfl)
                replace E45 : ev aq (.tmp 105) = .int .i64 1 := E45.trans (r45 wq (Grows.refl wq))
                exact wp_of_value (by go_simp) (hK.out _ _ (Grows.refl _) (fun w2 h2 => rfl) (fun h => absurd h (by decide)))
              refine AllOps.cons (Does.lets (g := 43) (d := 103) (t := false) rfl (by kernel_rfl) (by kernel_rfl) (fun vq wq h => h wq (Grows.refl wq)) fun lq aq wq hk hr K hK => ?_) ?_
              · obtain ⟨v46, E46, -, r46⟩ := hk.dep hr 46 106 (by kernel_rfl) (by kernel_rfl)
                replace E46 : ev aq (.tmp 106) = .bool false := E46.trans (r46 wq (Grows.refl wq))
                exact wp_of_value (by go_simp) (hK.out _ _ (Grows.refl _) (fun w2 h2 => rfl) (fun h => absurd h (by decide)))
              refine AllOps.cons (Does.bars (g := 47) (d := 107) (t := true) (u := false) rfl (by kernel_rfl) (by kernel_rfl) (fun vq wq h => h wq (Grows.refl wq)) (by decide) (fun _ _ _ => rfl) rfl) ?_
              refine AllOps.cons (Does.bars (g := 47) (d := 107) (t := true) (u := false) rfl (by kernel_rfl) (by kernel_rfl) (fun vq wq h => h wq (Grows.refl wq)) (by decide) (fun _ _ _ => rfl) rfl) ?_
              refine AllOps.cons (Does.bars (g := 47) (d := 107) (t := true) (u := false) rfl (by kernel_rfl) (by kernel_rfl) (fun vq wq h => h wq (Grows.refl wq)) (by decide) (fun _ _ _ => rfl) rfl) ?_
              refine AllOps.cons (Does.bars (g := 47) (d := 107) (t := true) (u := false) rfl (by kernel_rfl) (by kernel_rfl) (fun vq wq h => h wq (Grows.refl wq)) (by decide) (fun _ _ _ => rfl) rfl) ?_
              refine AllOps.cons (Does.lets (g := 43) (d := 103) (t := false) rfl (by kernel_rfl) (by kernel_rfl) (fun vq wq h => h wq (Grows.refl wq)) fun lq aq wq hk hr K hK => ?_) ?_
              · obtain ⟨v47, E47, -, r47⟩ := hk.dep hr 47 107 (by kernel_rfl) (by kernel_rfl)
                replace E47 : ev aq (.tmp 107) = .bool false := E47.trans (r47 wq (Grows.refl wq))
                exact wp_of_value (by go_simp) (hK.out _ _ (Grows.refl _) (fun w2 h2 => rfl) (fun h => absurd h (by decide)))
              refine AllOps.cons (Does.plain rfl fun lq aq wq hk hr K hK => ?_) ?_
              · obtain ⟨v43, E43, -, r43⟩ := hk.dep hr 43 103 (by kernel_rfl) (by kernel_rfl)
                replace E43 : ev aq (.tmp 103) = .bool false := E43.trans (r43 wq (Grows.refl wq))
                obtain ⟨v52, E52, -, r52⟩ := hk.dep hr 52 112 (by kernel_rfl) (by kernel_rfl)
                replace E52 : ev aq (.tmp 112) = .bool false := E52.trans (r52 wq (Grows.refl wq))
                exact wp_of_value (by go_simp) (hK.out _ _ (Grows.refl _) (fun w2 h2 => rfl) (fun h => absurd h (by decide)))
              exact AllOps.nil
            case fin =>
              intro V x7 hG hV hap
              have r53 : (V 53) = .bool false := hV 53 (by decide)
              clear hV hap
              simp only [List.take_succ_cons, List.take_nil, List.drop_succ_cons, List.drop_nil, putAll, Act.put, List.setIfInBounds_toArray, List.set_cons_zero, List.set_cons_succ]
              have hb := grows_of hG
              replace Da := Lib.hid (Box2.below Da.out hb)
              replace Sa := Lib.hid (Sa.out.below hb)
              replace Db := Lib.hid (Box2.below Db.out hb)
              replace Sb := Lib.hid (Sb.out.below hb)
              replace Dc := Lib.hid (Box2.below Dc.out hb)
              replace Sc := Lib.hid (Sc.out.below hb)
              replace Dq := Lib.hid (Box2.below Dq.out hb)
              replace Sq := Lib.hid (Sq.out.below hb)
              replace Dr := Lib.hid (Box2.below Dr.out hb)
              replace Sr := Lib.hid (Sr.out.below hb)
              replace HB := Lib.hid (HB.out.trans (Below.mono hb HB.out.size))
              clear hb hG
              rw [r53]
              clear r53
              go_upto_region 10 with fail
              refine wp_region_calm 7 [6] ([fun vq wq => WV wq vq c,
                  fun vq wq => WV wq vq b,
                  fun vq wq => ∃ u0, vq = .tuple #[u0, .int .i64 0] ∧ ZV wq u0 ((Int.fmod c b)),
                  fun vq wq => ∃ u0, vq = .tuple #[u0, .int .i64 0] ∧ ZV wq u0 ((Int.fmod c b)),
                  fun vq wq => ZV wq vq ((Int.fmod c b)),
                  fun vq _ => vq = .int .i64 0,
                  fun vq wq => ∃ bq, vq = .pointer (some ⟨bq, 0, none⟩) ∧ Box2 wq bq 24 (.bool false) (.slice none 0 0) ∧ (x7).heap.size ≤ bq]) (by kernel_rfl) (by decide) ?hF ?steps ?fin
              case hF =>
                intro j hj v w h
                simp only [List.mem_cons, List.not_mem_nil, or_false] at hj
                subst hj
                all_goals (obtain ⟨b, rfl, hB, _⟩ := h; exact hB.lt)
              case steps =>
                refine AllOps.cons (Does.plain rfl fun lq aq wq hk hr K hK => ?_) ?_
                · have B5 : ev aq (.tmp 5) = .pointer (some ⟨bc, 0, none⟩) := hk.base 5 (by kernel_rfl) rfl
                  have hb : Below _ _ _ := hk.ext
                  exact wp_of_value (op_load 5 _ B5 (Box2.below Dc.out hb)) (hK.out _ _ (Grows.refl _) (fun w2 h2 => ⟨_, _, _, _, rfl, (Sc.out.below hb).below h2⟩) (fun h => absurd h (by decide)))
                refine AllOps.cons (Does.plain rfl fun lq aq wq hk hr K hK => ?_) ?_
                · have B4 : ev aq (.tmp 4) = .pointer (some ⟨bb, 0, none⟩) := hk.base 4 (by kernel_rfl) rfl
                  have hb : Below _ _ _ := hk.ext
                  exact wp_of_value (op_load 4 _ B4 (Box2.below Db.out hb)) (hK.out _ _ (Grows.refl _) (fun w2 h2 => ⟨_, _, _, _, rfl, (Sb.out.below hb).below h2⟩) (fun h => absurd h (by decide)))
                refine AllOps.cons (Does.plain rfl fun lq aq wq hk hr K hK => ?_) ?_
                · obtain ⟨v0, E0, -, r0⟩ := hk.dep hr 0 115 (by kernel_rfl) (by kernel_rfl)
                  have r0 : WV wq v0 c := r0 wq (Grows.refl wq)
                  obtain ⟨v1, E1, -, r1⟩ := hk.dep hr 1 116 (by kernel_rfl) (by kernel_rfl)
                  have r1 : WV wq v1 b := r1 wq (Grows.refl wq)
                  refine wp_of_call (f := 17) (vs := #[v0, v1]) (by go_simp) (mod_v wq r0 r1 hn0 (Nat.le_trans (szz_fmod c hn0 hkb) (by decide))) ?_
                  rintro e w1 ⟨u, rfl, hu, hb⟩
                  exact ⟨u, rfl, hK.out _ _ hb (fun w2 h2 => (let ⟨u0, e0, h0⟩ := hu; ⟨u0, e0, (h0).grow h2⟩)) (fun h => absurd h (by decide))⟩
                refine AllOps.cons (Does.plain rfl fun lq aq wq hk hr K hK => ?_) ?_
                · obtain ⟨v2, E2, -, r2⟩ := hk.dep hr 2 117 (by kernel_rfl) (by kernel_rfl)
                  have r2 : ∃ u0, v2 = .tuple #[u0, .int .i64 0] ∧ ZV wq u0 ((Int.fmod c b)) := r2 wq (Grows.refl wq)
                  exact wp_of_value (by go_simp) (hK.out _ _ (Grows.refl _) (fun w2 h2 => (let ⟨u0, e0, h0⟩ := r2; ⟨u0, e0, (h0).grow h2⟩)) (fun h => absurd h (by decide)))
                refine AllOps.cons (Does.plain rfl fun lq aq wq hk hr K hK => ?_) ?_
                · obtain ⟨v3, E3, -, r3⟩ := hk.dep hr 3 114 (by kernel_rfl) (by kernel_rfl)
                  have r3 : ∃ u0, v3 = .tuple #[u0, .int .i64 0] ∧ ZV wq u0 ((Int.fmod c b)) := r3 wq (Grows.refl wq)
                  obtain ⟨u0, rfl, h0⟩ := r3
                  exact wp_of_value (by go_simp) (hK.out _ _ (Grows.refl _) (fun w2 h2 => (h0).grow h2) (fun h => absurd h (by decide)))
                refine AllOps.cons (Does.plain rfl fun lq aq wq hk hr K hK => ?_) ?_
                · obtain ⟨v3, E3, -, r3⟩ := hk.dep hr 3 114 (by kernel_rfl) (by kernel_rfl)
                  have r3 : ∃ u0, v3 = .tuple #[u0, .int .i64 0] ∧ ZV wq u0 ((Int.fmod c b)) := r3 wq (Grows.refl wq)
                  obtain ⟨u0, rfl, h0⟩ := r3
                  exact wp_of_value (by go_simp) (hK.out _ _ (Grows.refl _) (fun w2 h2 => rfl) (fun h => absurd h (by decide)))
                refine AllOps.cons (Does.plain rfl fun lq aq wq hk hr K hK => ?_) ?_
                · exact wp_of_value (by go_simp) (hK.out _ _ ((Grows.refl _).alloc _) (fun w2 h2 => ⟨_, rfl, (Box2.new wq 24 _ _).below h2, hk.ext.size⟩) (fun _ => Nat.le_refl _))
                exact AllOps.nil
              case fin =>
                intro V x8 hG hV hap
                have r4 : ZV x8 (V 4) ((Int.fmod c b)) := hV 4 (by decide)
                have r5 : (V 5) = .int .i64 0 := hV 5 (by decide)
                have r6 : ∃ bq, (V 6) = .pointer (some ⟨bq, 0, none⟩) ∧ Box2 x8 bq 24 (.bool false) (.slice none 0 0) ∧ (x7).heap.size ≤ bq := hV 6 (by decide)
                clear hV
                simp only [List.take_succ_cons, List.take_zero, List.drop_succ_cons, List.drop_zero, putAll, Act.put, List.setIfInBounds_toArray, List.set_cons_zero, List.set_cons_succ]
                have hb := (show Below _ _ _ from hG)
                obtain ⟨bl, el, Dl, gl⟩ := r6
                obtain ⟨nl, Al, kl, cl, el', sl⟩ := r4
                simp only [el, el', r5]
                clear el el' hap r5
                refine wpList_of_skip rfl (op_store 10 118 _ rfl rfl Dl) ?_
                have hB := put2_below (u := .bool nl) (v := .slice Al kl cl) hb gl
                replace sl := sl.put Dl (.bool nl) (.slice Al kl cl)
                replace Dl := put2_own (u := .bool nl) (v := .slice Al kl cl) Dl
                clear hb
                generalize put2 x8 bl (.bool nl) (.slice Al kl cl) = y9 at *
                replace Da := Lib.hid (Box2.below Da.out hB)
                replace Sa := Lib.hid (Sa.out.below hB)
                replace Db := Lib.hid (Box2.below Db.out hB)
                replace Sb := Lib.hid (Sb.out.below hB)
                replace Dc := Lib.hid (Box2.below Dc.out hB)
                replace Sc := Lib.hid (Sc.out.below hB)
                replace Dq := Lib.hid (Box2.below Dq.out hB)
                replace Sq := Lib.hid (Sq.out.below hB)
                replace Dr := Lib.hid (Box2.below Dr.out hB)
                replace Sr := Lib.hid (Sr.out.below hB)
                replace HB := Lib.hid (HB.out.trans (Below.mono hB HB.out.size))
                replace Dl := Lib.hid Dl
                have Sl := Lib.hid sl
                clear hG hB gl sl
                go_upto_region 11 with fail
                refine wp_region_prompt 13 11 [12] ([fun vq wq => WV wq vq a,
                    fun vq wq => WV wq vq b,
                    fun vq wq => RowV wq vq [a, b],
                    fun vq wq => ZV wq vq ((a * b)),
                    fun vq wq => ZV wq vq ((Int.fmod c b)),
                    fun vq wq => RowV wq vq [(a * b), (Int.fmod c b)],
                    fun vq wq => ZV wq vq (((a * b) + (Int.fmod c b))),
                    fun vq wq => WV wq vq b,
                    fun vq wq => ∃ u0, vq = .tuple #[u0, .int .i64 0] ∧ ZV wq u0 ((Int.fdiv ((a * b) + (Int.fmod c b)) b)),
                    fun vq wq => ∃ u0, vq = .tuple #[u0, .int .i64 0] ∧ ZV wq u0 ((Int.fdiv ((a * b) + (Int.fmod c b)) b)),
                    fun vq wq => ZV wq vq ((Int.fdiv ((a * b) + (Int.fmod c b)) b)),
                    fun vq _ => vq = .int .i64 0,
                    fun vq wq => ∃ bq, vq = .pointer (some ⟨bq, 0, none⟩) ∧ Box2 wq bq 24 (.bool false) (.slice none 0 0) ∧ (y9).heap.size ≤ bq]) rfl (by kernel_rfl) (by kernel_rfl) (by decide) (by kernel_rfl) (by kernel_rfl) (by kernel_rfl) (by kernel_rfl) (by decide) (fun _ _ _ _ h => h) ?hF ?hy ?steps ?fin
                case hy =>
                  intro lq aq wq hk hr
                  obtain ⟨v9, E9, -, r9⟩ := hk.dep hr 9 120 (by kernel_rfl) (by kernel_rfl)
                  have r9 : ∃ u0, v9 = .tuple #[u0, .int .i64 0] ∧ ZV wq u0 ((Int.fdiv ((a * b) + (Int.fmod c b)) b)) := r9 wq (Grows.refl wq)
                  obtain ⟨u0, rfl, h0⟩ := r9
                  exact ⟨_, yields_of rfl (fun w2 => by go_simp), fun w2 h2 => rfl⟩
                case hF =>
                  intro j hj v w h
                  simp only [List.mem_cons, List.not_mem_nil, or_false] at hj
                  subst hj
                  all_goals (obtain ⟨b, rfl, hB, _⟩ := h; exact hB.lt)
                case steps =>
                  refine AllOps.cons (fun _ => Does.plain rfl fun lq aq wq hk hr K hK => ?_) ?_
                  · have B3 : ev aq (.tmp 3) = .pointer (some ⟨ba, 0, none⟩) := hk.base 3 (by kernel_rfl) rfl
                    have hb := grows_of hk.ext
                    exact wp_of_value (op_load 3 _ B3 (Box2.below Da.out hb)) (hK.out _ _ (Grows.refl _) (fun w2 h2 => ⟨_, _, _, _, rfl, (Sa.out.below hb).below h2⟩) (fun h => absurd h (by decide)))
                  refine AllOps.cons (fun _ => Does.plain rfl fun lq aq wq hk hr K hK => ?_) ?_
                  · have B4 : ev aq (.tmp 4) = .pointer (some ⟨bb, 0, none⟩) := hk.base 4 (by kernel_rfl) rfl
                    have hb := grows_of hk.ext
                    exact wp_of_value (op_load 4 _ B4 (Box2.below Db.out hb)) (hK.out _ _ (Grows.refl _) (fun w2 h2 => ⟨_, _, _, _, rfl, (Sb.out.below hb).below h2⟩) (fun h => absurd h (by decide)))
                  refine AllOps.cons (fun _ => Does.plain rfl fun lq aq wq hk hr K hK => ?_) ?_
                  · obtain ⟨v0, E0, -, r0⟩ := hk.dep hr 0 121 (by kernel_rfl) (by kernel_rfl)
                    have r0 : WV wq v0 a := r0 wq (Grows.refl wq)
                    obtain ⟨n0, A0, k0, c0, rfl, s0⟩ := r0
                    obtain ⟨v1, E1, -, r1⟩ := hk.dep hr 1 122 (by kernel_rfl) (by kernel_rfl)
                    have r1 : WV wq v1 b := r1 wq (Grows.refl wq)
                    obtain ⟨n1, A1, k1, c1, rfl, s1⟩ := r1
                    exact wp_of_value (op_row2 121 122 E0 E1) (hK.out _ _ ((Grows.refl _).alloc _) (fun w2 h2 => (RowV.two s0 s1).grow h2) (fun h => absurd h (by decide)))
                  refine AllOps.cons (fun _ => Does.plain rfl fun lq aq wq hk hr K hK => ?_) ?_
                  · obtain ⟨v2, E2, -, r2⟩ := hk.dep hr 2 123 (by kernel_rfl) (by kernel_rfl)
                    have r2 : RowV wq v2 [a, b] := r2 wq (Grows.refl wq)
                    refine wp_of_call (f := 28) (vs := #[v2]) (by go_simp) (mul2_v wq r2 (Nat.le_trans hka (by decide)) (Nat.le_trans (szz_mul hka hkb) (by decide))) ?_
                    rintro e w1 ⟨u, rfl, hu, hb⟩
                    exact ⟨u, rfl, hK.out _ _ hb (fun w2 h2 => (hu).grow h2) (fun h => absurd h (by decide))⟩
                  refine AllOps.cons (fun _ => Does.plain rfl fun lq aq wq hk hr K hK => ?_) ?_
                  · have B10 : ev aq (.tmp 10) = .pointer (some ⟨bl, 0, none⟩) := hk.base 10 (by kernel_rfl) rfl
                    have hb := grows_of hk.ext
                    exact wp_of_value (op_load 10 _ B10 (Box2.below Dl.out hb)) (hK.out _ _ (Grows.refl _) (fun w2 h2 => ⟨_, _, _, _, rfl, (Sl.out.below hb).below h2⟩) (fun h => absurd h (by decide)))
                  refine AllOps.cons (fun _ => Does.plain rfl fun lq aq wq hk hr K hK => ?_) ?_
                  · obtain ⟨v3, E3, -, r3⟩ := hk.dep hr 3 124 (by kernel_rfl) (by kernel_rfl)
                    have r3 : ZV wq v3 ((a * b)) := r3 wq (Grows.refl wq)
                    obtain ⟨n3, A3, k3, c3, rfl, s3⟩ := r3
                    obtain ⟨v4, E4, -, r4⟩ := hk.dep hr 4 125 (by kernel_rfl) (by kernel_rfl)
                    have r4 : ZV wq v4 ((Int.fmod c b)) := r4 wq (Grows.refl wq)
                    obtain ⟨n4, A4, k4, c4, rfl, s4⟩ := r4
                    exact wp_of_value (op_row2 124 125 E3 E4) (hK.out _ _ ((Grows.refl _).alloc _) (fun w2 h2 => (RowV.two s3.whole s4.whole).grow h2) (fun h => absurd h (by decide)))
                  refine AllOps.cons (fun _ => Does.plain rfl fun lq aq wq hk hr K hK => ?_) ?_
                  · obtain ⟨v5, E5, -, r5⟩ := hk.dep hr 5 126 (by kernel_rfl) (by kernel_rfl)
                    have r5 : RowV wq v5 [(a * b), (Int.fmod c b)] := r5 wq (Grows.refl wq)
                    refine wp_of_call (f := 27) (vs := #[v5]) (by go_simp) (add2_v wq r5 (Nat.le_trans (szz_mul hka hkb) (by decide)) (Nat.le_trans (szz_add (szz_mul hka hkb) (szz_fmod c hn0 hkb)) (by decide))) ?_
                    rintro e w1 ⟨u, rfl, hu, hb⟩
                    exact ⟨u, rfl, hK.out _ _ hb (fun w2 h2 => (hu).grow h2) (fun h => absurd h (by decide))⟩
                  refine AllOps.cons (fun _ => Does.plain rfl fun lq aq wq hk hr K hK => ?_) ?_
                  · have B4 : ev aq (.tmp 4) = .pointer (some ⟨bb, 0, none⟩) := hk.base 4 (by kernel_rfl) rfl
                    have hb := grows_of hk.ext
                    exact wp_of_value (op_load 4 _ B4 (Box2.below Db.out hb)) (hK.out _ _ (Grows.refl _) (fun w2 h2 => ⟨_, _, _, _, rfl, (Sb.out.below hb).below h2⟩) (fun h => absurd h (by decide)))
                  refine AllOps.cons (fun _ => Does.plain rfl fun lq aq wq hk hr K hK => ?_) ?_
                  · obtain ⟨v6, E6, -, r6⟩ := hk.dep hr 6 127 (by kernel_rfl) (by kernel_rfl)
                    have r6 : ZV wq v6 (((a * b) + (Int.fmod c b))) := r6 wq (Grows.refl wq)
                    obtain ⟨v7, E7, -, r7⟩ := hk.dep hr 7 128 (by kernel_rfl) (by kernel_rfl)
                    have r7 : WV wq v7 b := r7 wq (Grows.refl wq)
                    refine wp_of_call (f := 16) (vs := #[v6, v7]) (by go_simp) (div_v wq (r6).wv r7 hn0 (Nat.le_trans (szz_fdiv b (szz_add (szz_mul hka hkb) (szz_fmod c hn0 hkb))) (by decide))) ?_
                    rintro e w1 ⟨u, rfl, hu, hb⟩
                    exact ⟨u, rfl, hK.out _ _ hb (fun w2 h2 => (let ⟨u0, e0, h0⟩ := hu; ⟨u0, e0, (h0).grow h2⟩)) (fun h => absurd h (by decide))⟩
                  refine AllOps.cons (fun _ => Does.plain rfl fun lq aq wq hk hr K hK => ?_) ?_
                  · obtain ⟨v8, E8, -, r8⟩ := hk.dep hr 8 129 (by kernel_rfl) (by kernel_rfl)
                    have r8 : ∃ u0, v8 = .tuple #[u0, .int .i64 0] ∧ ZV wq u0 ((Int.fdiv ((a * b) + (Int.fmod c b)) b)) := r8 wq (Grows.refl wq)
                    exact wp_of_value (by go_simp) (hK.out _ _ (Grows.refl _) (fun w2 h2 => (let ⟨u0, e0, h0⟩ := r8; ⟨u0, e0, (h0).grow h2⟩)) (fun h => absurd h (by decide)))
                  refine AllOps.cons (fun _ => Does.plain rfl fun lq aq wq hk hr K hK => ?_) ?_
                  · obtain ⟨v9, E9, -, r9⟩ := hk.dep hr 9 120 (by kernel_rfl) (by kernel_rfl)
                    have r9 : ∃ u0, v9 = .tuple #[u0, .int .i64 0] ∧ ZV wq u0 ((Int.fdiv ((a * b) + (Int.fmod c b)) b)) := r9 wq (Grows.refl wq)
                    obtain ⟨u0, rfl, h0⟩ := r9
                    exact wp_of_value (by go_simp) (hK.out _ _ (Grows.refl _) (fun w2 h2 => (h0).grow h2) (fun h => absurd h (by decide)))
                  refine AllOps.cons (fun h => absurd rfl h) ?_
                  refine AllOps.cons (fun _ => Does.plain rfl fun lq aq wq hk hr K hK => ?_) ?_
                  · exact wp_of_value (by go_simp) (hK.out _ _ ((Grows.refl _).alloc _) (fun w2 h2 => ⟨_, rfl, (Box2.new wq 24 _ _).below h2, (grows_of hk.ext).size⟩) (fun _ => Nat.le_refl _))
                  exact AllOps.nil
                case fin =>
                  intro V x10 hG hV hap
                  have r10 : ZV x10 (V 10) ((Int.fdiv ((a * b) + (Int.fmod c b)) b)) := hV 10 (by decide)
                  have r11 : (V 11) = .int .i64 0 := hV 11 (by decide)
                  have r12 : ∃ bq, (V 12) = .pointer (some ⟨bq, 0, none⟩) ∧ Box2 x10 bq 24 (.bool false) (.slice none 0 0) ∧ (y9).heap.size ≤ bq := hV 12 (by decide)
                  clear hV
                  simp only [List.take_succ_cons, List.take_zero, List.drop_succ_cons, List.drop_zero, putAll, Act.put, List.setIfInBounds_toArray, List.set_cons_zero, List.set_cons_succ]
                  have hb := grows_of hG
                  obtain ⟨bp, ep, Dp, gp⟩ := r12
                  obtain ⟨np, Ap, kp, cp, ep', sp⟩ := r10
                  simp only [ep, ep', r11]
                  clear ep ep' hap r11
                  refine wpList_of_skip rfl (op_store 12 130 _ rfl rfl Dp) ?_
                  have hB := put2_below (u := .bool np) (v := .slice Ap kp cp) hb gp
                  replace sp := sp.put Dp (.bool np) (.slice Ap kp cp)
                  replace Dp := put2_own (u := .bool np) (v := .slice Ap kp cp) Dp
                  clear hb
                  generalize put2 x10 bp (.bool np) (.slice Ap kp cp) = y11 at *
                  replace Da := Lib.hid (Box2.below Da.out hB)
                  replace Sa := Lib.hid (Sa.out.below hB)
                  replace Db := Lib.hid (Box2.below Db.out hB)
                  replace Sb := Lib.hid (Sb.out.below hB)
                  replace Dc := Lib.hid (Box2.below Dc.out hB)
                  replace Sc := Lib.hid (Sc.out.below hB)
                  replace Dq := Lib.hid (Box2.below Dq.out hB)
                  replace Sq := Lib.hid (Sq.out.below hB)
                  replace Dr := Lib.hid (Box2.below Dr.out hB)
                  replace Sr := Lib.hid (Sr.out.below hB)
                  replace Dl := Lib.hid (Box2.below Dl.out hB)
                  replace Sl := Lib.hid (Sl.out.below hB)
                  replace HB := Lib.hid (HB.out.trans (Below.mono hB HB.out.size))
                  replace Dp := Lib.hid Dp
                  have Sp := Lib.hid sp
                  clear hG hB gp sp
                  go_upto_region 12 with fail
                  refine wp_region_prompt 13 11 [12] ([fun vq wq => WV wq vq a,
                      fun vq wq => WV wq vq b,
                      fun vq wq => RowV wq vq [a, b],
                      fun vq wq => ZV wq vq ((a * b)),
                      fun vq wq => ZV wq vq ((Int.fmod c b)),
                      fun vq wq => RowV wq vq [(a * b), (Int.fmod c b)],
                      fun vq wq => ZV wq vq (((a * b) + (Int.fmod c b))),
                      fun vq wq => WV wq vq b,
                      fun vq wq => ∃ u0, vq = .tuple #[u0, .int .i64 0] ∧ ZV wq u0 ((Int.fmod ((a * b) + (Int.fmod c b)) b)),
                      fun vq wq => ∃ u0, vq = .tuple #[u0, .int .i64 0] ∧ ZV wq u0 ((Int.fmod ((a * b) + (Int.fmod c b)) b)),
                      fun vq wq => ZV wq vq ((Int.fmod ((a * b) + (Int.fmod c b)) b)),
                      fun vq _ => vq = .int .i64 0,
                      fun vq wq => ∃ bq, vq = .pointer (some ⟨bq, 0, none⟩) ∧ Box2 wq bq 24 (.bool false) (.slice none 0 0) ∧ (y11).heap.size ≤ bq]) rfl (by kernel_rfl) (by kernel_rfl) (by decide) (by kernel_rfl) (by kernel_rfl) (by kernel_rfl) (by kernel_rfl) (by decide) (fun _ _ _ _ h => h) ?hF ?hy ?steps ?fin
                  case hy =>
                    intro lq aq wq hk hr
                    obtain ⟨v9, E9, -, r9⟩ := hk.dep hr 9 132 (by kernel_rfl) (by kernel_rfl)
                    have r9 : ∃ u0, v9 = .tuple #[u0, .int .i64 0] ∧ ZV wq u0 ((Int.fmod ((a * b) + (Int.fmod c b)) b)) := r9 wq (Grows.refl wq)
                    obtain ⟨u0, rfl, h0⟩ := r9
                    exact ⟨_, yields_of rfl (fun w2 => by go_simp), fun w2 h2 => rfl⟩
                  case hF =>
                    intro j hj v w h
                    simp only [List.mem_cons, List.not_mem_nil, or_false] at hj
                    subst hj
                    all_goals (obtain ⟨b, rfl, hB, _⟩ := h; exact hB.lt)
                  case steps =>
                    refine AllOps.cons (fun _ => Does.plain rfl fun lq aq wq hk hr K hK => ?_) ?_
                    · have B3 : ev aq (.tmp 3) = .pointer (some ⟨ba, 0, none⟩) := hk.base 3 (by kernel_rfl) rfl
                      have hb := grows_of hk.ext
                      exact wp_of_value (op_load 3 _ B3 (Box2.below Da.out hb)) (hK.out _ _ (Grows.refl _) (fun w2 h2 => ⟨_, _, _, _, rfl, (Sa.out.below hb).below h2⟩) (fun h => absurd h (by decide)))
                    refine AllOps.cons (fun _ => Does.plain rfl fun lq aq wq hk hr K hK => ?_) ?_
                    · have B4 : ev aq (.tmp 4) = .pointer (some ⟨bb, 0, none⟩) := hk.base 4 (by kernel_rfl) rfl
                      have hb := grows_of hk.ext
                      exact wp_of_value (op_load 4 _ B4 (Box2.below Db.out hb)) (hK.out _ _ (Grows.refl _) (fun w2 h2 => ⟨_, _, _, _, rfl, (Sb.out.below hb).below h2⟩) (fun h => absurd h (by decide)))
                    refine AllOps.cons (fun _ => Does.plain rfl fun lq aq wq hk hr K hK => ?_) ?_
                    · obtain ⟨v0, E0, -, r0⟩ := hk.dep hr 0 133 (by kernel_rfl) (by kernel_rfl)
                      have r0 : WV wq v0 a := r0 wq (Grows.refl wq)
                      obtain ⟨n0, A0, k0, c0, rfl, s0⟩ := r0
                      obtain ⟨v1, E1, -, r1⟩ := hk.dep hr 1 134 (by kernel_rfl) (by kernel_rfl)
                      have r1 : WV wq v1 b := r1 wq (Grows.refl wq)
                      obtain ⟨n1, A1, k1, c1, rfl, s1⟩ := r1
                      exact wp_of_value (op_row2 133 134 E0 E1) (hK.out _ _ ((Grows.refl _).alloc _) (fun w2 h2 => (RowV.two s0 s1).grow h2) (fun h => absurd h (by decide)))
                    refine AllOps.cons (fun _ => Does.plain rfl fun lq aq wq hk hr K hK => ?_) ?_
                    · obtain ⟨v2, E2, -, r2⟩ := hk.dep hr 2 135 (by kernel_rfl) (by kernel_rfl)
                      have r2 : RowV wq v2 [a, b] := r2 wq (Grows.refl wq)
                      refine wp_of_call (f := 28) (vs := #[v2]) (by go_simp) (mul2_v wq r2 (Nat.le_trans hka (by decide)) (Nat.le_trans (szz_mul hka hkb) (by decide))) ?_
                      rintro e w1 ⟨u, rfl, hu, hb⟩
                      exact ⟨u, rfl, hK.out _ _ hb (fun w2 h2 => (hu).grow h2) (fun h => absurd h (by decide))⟩
                    refine AllOps.cons (fun _ => Does.plain rfl fun lq aq wq hk hr K hK => ?_) ?_
                    · have B10 : ev aq (.tmp 10) = .pointer (some ⟨bl, 0, none⟩) := hk.base 10 (by kernel_rfl) rfl
                      have hb := grows_of hk.ext
                      exact wp_of_value (op_load 10 _ B10 (Box2.below Dl.out hb)) (hK.out _ _ (Grows.refl _) (fun w2 h2 => ⟨_, _, _, _, rfl, (Sl.out.below hb).below h2⟩) (fun h => absurd h (by decide)))
                    refine AllOps.cons (fun _ => Does.plain rfl fun lq aq wq hk hr K hK => ?_) ?_
                    · obtain ⟨v3, E3, -, r3⟩ := hk.dep hr 3 136 (by kernel_rfl) (by kernel_rfl)
                      have r3 : ZV wq v3 ((a * b)) := r3 wq (Grows.refl wq)
                      obtain ⟨n3, A3, k3, c3, rfl, s3⟩ := r3
                      obtain ⟨v4, E4, -, r4⟩ := hk.dep hr 4 137 (by kernel_rfl) (by kernel_rfl)
                      have r4 : ZV wq v4 ((Int.fmod c b)) := r4 wq (Grows.refl wq)
                      obtain ⟨n4, A4, k4, c4, rfl, s4⟩ := r4
                      exact wp_of_value (op_row2 136 137 E3 E4) (hK.out _ _ ((Grows.refl _).alloc _) (fun w2 h2 => (RowV.two s3.whole s4.whole).grow h2) (fun h => absurd h (by decide)))
                    refine AllOps.cons (fun _ => Does.plain rfl fun lq aq wq hk hr K hK => ?_) ?_
                    · obtain ⟨v5, E5, -, r5⟩ := hk.dep hr 5 138 (by kernel_rfl) (by kernel_rfl)
                      have r5 : RowV wq v5 [(a * b), (Int.fmod c b)] := r5 wq (Grows.refl wq)
                      refine wp_of_call (f := 27) (vs := #[v5]) (by go_simp) (add2_v wq r5 (Nat.le_trans (szz_mul hka hkb) (by decide)) (Nat.le_trans (szz_add (szz_mul hka hkb) (szz_fmod c hn0 hkb)) (by decide))) ?_
                      rintro e w1 ⟨u, rfl, hu, hb⟩
                      exact ⟨u, rfl, hK.out _ _ hb (fun w2 h2 => (hu).grow h2) (fun h => absurd h (by decide))⟩
                    refine AllOps.cons (fun _ => Does.plain rfl fun lq aq wq hk hr K hK => ?_) ?_
                    · have B4 : ev aq (.tmp 4) = .pointer (some ⟨bb, 0, none⟩) := hk.base 4 (by kernel_rfl) rfl
                      have hb := grows_of hk.ext
                      exact wp_of_value (op_load 4 _ B4 (Box2.below Db.out hb)) (hK.out _ _ (Grows.refl _) (fun w2 h2 => ⟨_, _, _, _, rfl, (Sb.out.below hb).below h2⟩) (fun h => absurd h (by decide)))
                    refine AllOps.cons (fun _ => Does.plain rfl fun lq aq wq hk hr K hK => ?_) ?_
                    · obtain ⟨v6, E6, -, r6⟩ := hk.dep hr 6 139 (by kernel_rfl) (by kernel_rfl)
                      have r6 : ZV wq v6 (((a * b) + (Int.fmod c b))) := r6 wq (Grows.refl wq)
                      obtain ⟨v7, E7, -, r7⟩ := hk.dep hr 7 140 (by kernel_rfl) (by kernel_rfl)
                      have r7 : WV wq v7 b := r7 wq (Grows.refl wq)
                      refine wp_of_call (f := 17) (vs := #[v6, v7]) (by go_simp) (mod_v wq (r6).wv r7 hn0 (Nat.le_trans (szz_fmod ((a * b) + (Int.fmod c b)) hn0 hkb) (by decide))) ?_
                      rintro e w1 ⟨u, rfl, hu, hb⟩
                      exact ⟨u, rfl, hK.out _ _ hb (fun w2 h2 => (let ⟨u0, e0, h0⟩ := hu; ⟨u0, e0, (h0).grow h2⟩)) (fun h => absurd h (by decide))⟩
                    refine AllOps.cons (fun _ => Does.plain rfl fun lq aq wq hk hr K hK => ?_) ?_
                    · obtain ⟨v8, E8, -, r8⟩ := hk.dep hr 8 141 (by kernel_rfl) (by kernel_rfl)
                      have r8 : ∃ u0, v8 = .tuple #[u0, .int .i64 0] ∧ ZV wq u0 ((Int.fmod ((a * b) + (Int.fmod c b)) b)) := r8 wq (Grows.refl wq)
                      exact wp_of_value (by go_simp) (hK.out _ _ (Grows.refl _) (fun w2 h2 => (let ⟨u0, e0, h0⟩ := r8; ⟨u0, e0, (h0).grow h2⟩)) (fun h => absurd h (by decide)))
                    refine AllOps.cons (fun _ => Does.plain rfl fun lq aq wq hk hr K hK => ?_) ?_
                    · obtain ⟨v9, E9, -, r9⟩ := hk.dep hr 9 132 (by kernel_rfl) (by kernel_rfl)
                      have r9 : ∃ u0, v9 = .tuple #[u0, .int .i64 0] ∧ ZV wq u0 ((Int.fmod ((a * b) + (Int.fmod c b)) b)) := r9 wq (Grows.refl wq)
                      obtain ⟨u0, rfl, h0⟩ := r9
                      exact wp_of_value (by go_simp) (hK.out _ _ (Grows.refl _) (fun w2 h2 => (h0).grow h2) (fun h => absurd h (by decide)))
                    refine AllOps.cons (fun h => absurd rfl h) ?_
                    refine AllOps.cons (fun _ => Does.plain rfl fun lq aq wq hk hr K hK => ?_) ?_
                    · exact wp_of_value (by go_simp) (hK.out _ _ ((Grows.refl _).alloc _) (fun w2 h2 => ⟨_, rfl, (Box2.new wq 24 _ _).below h2, (grows_of hk.ext).size⟩) (fun _ => Nat.le_refl _))
                    exact AllOps.nil
                  case fin =>
                    intro V x12 hG hV hap
                    have r10 : ZV x12 (V 10) ((Int.fmod ((a * b) + (Int.fmod c b)) b)) := hV 10 (by decide)
                    have r11 : (V 11) = .int .i64 0 := hV 11 (by decide)
                    have r12 : ∃ bq, (V 12) = .pointer (some ⟨bq, 0, none⟩) ∧ Box2 x12 bq 24 (.bool false) (.slice none 0 0) ∧ (y11).heap.size ≤ bq := hV 12 (by decide)
                    clear hV
                    simp only [List.take_succ_cons, List.take_zero, List.drop_succ_cons, List.drop_zero, putAll, Act.put, List.setIfInBounds_toArray, List.set_cons_zero, List.set_cons_succ]
                    have hb := grows_of hG
                    obtain ⟨bs, es, Ds, gs⟩ := r12
                    obtain ⟨ns, As, ks, cs, es', ss⟩ := r10
                    simp only [es, es', r11]
                    clear es es' hap r11
                    refine wpList_of_skip rfl (op_store 14 142 _ rfl rfl Ds) ?_
                    have hB := put2_below (u := .bool ns) (v := .slice As ks cs) hb gs
                    replace ss := ss.put Ds (.bool ns) (.slice As ks cs)
                    replace Ds := put2_own (u := .bool ns) (v := .slice As ks cs) Ds
                    clear hb
                    generalize put2 x12 bs (.bool ns) (.slice As ks cs) = y13 at *
                    replace Da := Lib.hid (Box2.below Da.out hB)
                    replace Sa := Lib.hid (Sa.out.below hB)
                    replace Db := Lib.hid (Box2.below Db.out hB)
                    replace Sb := Lib.hid (Sb.out.below hB)
                    replace Dc := Lib.hid (Box2.below Dc.out hB)
                    replace Sc := Lib.hid (Sc.out.below hB)
                    replace Dq := Lib.hid (Box2.below Dq.out hB)
                    replace Sq := Lib.hid (Sq.out.below hB)
                    replace Dr := Lib.hid (Box2.below Dr.out hB)
                    replace Sr := Lib.hid (Sr.out.below hB)
                    replace Dl := Lib.hid (Box2.below Dl.out hB)
                    replace Sl := Lib.hid (Sl.out.below hB)
                    replace Dp := Lib.hid (Box2.below Dp.out hB)
                    replace Sp := Lib.hid (Sp.out.below hB)
                    replace HB := Lib.hid (HB.out.trans (Below.mono hB HB.out.size))
                    replace Ds := Lib.hid Ds
                    have Ss := Lib.hid ss
                    clear hG hB gs ss
                    go_upto_region 13 with fail
                    refine wp_region_going 12 [] ([fun vq wq => ZV wq vq ((Int.fdiv ((a * b) + (Int.fmod c b)) b)),
                        fun vq wq => WV wq vq a,
                        fun vq wq => RowV wq vq [a],
                        fun vq wq => ZV wq vq a,
                        fun vq _ => vq = .bool true,
                        fun vq _ => vq = .bool false,
                        fun vq _ => vq = .bool false,
                        fun vq wq => ZV wq vq ((Int.fmod ((a * b) + (Int.fmod c b)) b)),
                        fun vq wq => ZV wq vq ((Int.fmod c b)),
                        fun vq _ => vq = .bool true,
                        fun vq _ => vq = .bool false,
                        fun vq _ => vq = .bool false]) (by kernel_rfl) (by kernel_rfl) (by decide) (by kernel_rfl) (by kernel_rfl) ?hF ?steps ?fin
                    case hF =>
                      intro j hj; cases hj
                    case steps =>
                      refine AllOps.cons (Does.plain rfl fun lq aq wq hk hr K hK => ?_) ?_
                      · have B12 : ev aq (.tmp 12) = .pointer (some ⟨bp, 0, none⟩) := hk.base 12 (by kernel_rfl) rfl
                        have hb := grows_of hk.ext
                        exact wp_of_value (op_load 12 _ B12 (Box2.below Dp.out hb)) (hK.out _ _ (Grows.refl _) (fun w2 h2 => ⟨_, _, _, _, rfl, (Sp.out.below hb).below h2⟩) (fun h => absurd h (by decide)))
                      refine AllOps.cons (Does.plain rfl fun lq aq wq hk hr K hK => ?_) ?_
                      · have B3 : ev aq (.tmp 3) = .pointer (some ⟨ba, 0, none⟩) := hk.base 3 (by kernel_rfl) rfl
                        have hb := grows_of hk.ext
                        exact wp_of_value (op_load 3 _ B3 (Box2.below Da.out hb)) (hK.out _ _ (Grows.refl _) (fun w2 h2 => ⟨_, _, _, _, rfl, (Sa.out.below hb).below h2⟩) (fun h => absurd h (by decide)))
                      refine AllOps.cons (Does.plain rfl fun lq aq wq hk hr K hK => ?_) ?_
                      · obtain ⟨v1, E1, -, r1⟩ := hk.dep hr 1 145 (by kernel_rfl) (by kernel_rfl)
                        have r1 : WV wq v1 a := r1 wq (Grows.refl wq)
                        obtain ⟨n1, A1, k1, c1, rfl, s1⟩ := r1
                        exact wp_of_value (op_row1 145 E1) (hK.out _ _ ((Grows.refl _).alloc _) (fun w2 h2 => (RowV.one s1).grow h2) (fun h => absurd h (by decide)))
                      refine AllOps.cons (Does.plain rfl fun lq aq wq hk hr K hK => ?_) ?_
                      · obtain ⟨v2, E2, -, r2⟩ := hk.dep hr 2 146 (by kernel_rfl) (by kernel_rfl)
                        have r2 : RowV wq v2 [a] := r2 wq (Grows.refl wq)
                        refine wp_of_call (f := 27) (vs := #[v2]) (by go_simp) (add1_v wq r2 (Nat.le_trans hka (by decide))) ?_
                        rintro e w1 ⟨u, rfl, hu, hb⟩
                        exact ⟨u, rfl, hK.out _ _ hb (fun w2 h2 => (hu).grow h2) (fun h => absurd h (by decide))⟩
                      refine AllOps.cons (Does.plain rfl fun lq aq wq hk hr K hK => ?_) ?_
                      · obtain ⟨v0, E0, -, r0⟩ := hk.dep hr 0 144 (by kernel_rfl) (by kernel_rfl)
                        have r0 : ZV wq v0 ((Int.fdiv ((a * b) + (Int.fmod c b)) b)) := r0 wq (Grows.refl wq)
                        obtain ⟨v3, E3, -, r3⟩ := hk.dep hr 3 147 (by kernel_rfl) (by kernel_rfl)
                        have r3 : ZV wq v3 a := r3 wq (Grows.refl wq)
                        refine wp_of_call (f := 26) (vs := #[v0, v3]) (by go_simp) (same_v wq r0 r3 (t := true) (decide_eq_true (floor_back hn0).1)) ?_
                        rintro e w1 ⟨u, rfl, hu, hb⟩
                        exact ⟨u, rfl, hK.out _ _ hb (fun w2 h2 => hu) (fun h => absurd h (by decide))⟩
                      refine AllOps.cons (Does.plain rfl fun lq aq wq hk hr K hK => ?_) ?_
                      · obtain ⟨v4, E4, -, r4⟩ := hk.dep hr 4 148 (by kernel_rfl) (by kernel_rfl)
                        replace E4 : ev aq (.tmp 148) = .bool true := E4.trans (r4 wq (Grows.refl wq))
                        exact wp_of_value (by go_simp) (hK.out _ _ (Grows.refl _) (fun w2 h2 => rfl) (fun h => absurd h (by decide)))
                      refine AllOps.cons (Does.plain rfl fun lq aq wq hk hr K hK => ?_) ?_
                      · obtain ⟨v5, E5, -, r5⟩ := hk.dep hr 5 149 (by kernel_rfl) (by kernel_rfl)
                        replace E5 : ev aq (.tmp 149) = .bool false := E5.trans (r5 wq (Grows.refl wq))
                        exact wp_of_value (by go_simp) (hK.out _ _ (Grows.refl _) (fun w2 h2 => rfl) (fun h => absurd h (by decide)))
                      refine AllOps.cons (Does.lets (g := 6) (d := 150) (t := false) rfl (by kernel_rfl) (by kernel_rfl) (fun vq wq h => h wq (Grows.refl wq)) fun lq aq wq hk hr K hK => ?_) ?_
                      · have B14 : ev aq (.tmp 14) = .pointer (some ⟨bs, 0, none⟩) := hk.base 14 (by kernel_rfl) rfl
                        have hb := grows_of hk.ext
                        exact wp_of_value (op_load 14 _ B14 (Box2.below Ds.out hb)) (hK.out _ _ (Grows.refl _) (fun w2 h2 => ⟨_, _, _, _, rfl, (Ss.out.below hb).below h2⟩) (fun h => absurd h (by decide)))
                      refine AllOps.cons (Does.lets (g := 6) (d := 150) (t := false) rfl (by kernel_rfl) (by kernel_rfl) (fun vq wq h => h wq (Grows.refl wq)) fun lq aq wq hk hr K hK => ?_) ?_
                      · have B10 : ev aq (.tmp 10) = .pointer (some ⟨bl, 0, none⟩) := hk.base 10 (by kernel_rfl) rfl
                        have hb := grows_of hk.ext
                        exact wp_of_value (op_load 10 _ B10 (Box2.below Dl.out hb)) (hK.out _ _ (Grows.refl _) (fun w2 h2 => ⟨_, _, _, _, rfl, (Sl.out.below hb).below h2⟩) (fun h => absurd h (by decide)))
                      refine AllOps.cons (Does.lets (g := 6) (d := 150) (t := false) rfl (by kernel_rfl) (by kernel_rfl) (fun vq wq h => h wq (Grows.refl wq)) fun lq aq wq hk hr K hK => ?_) ?_
                      · obtain ⟨v7, E7, -, r7⟩ := hk.dep hr 7 151 (by kernel_rfl) (by kernel_rfl)
                        have r7 : ZV wq v7 ((Int.fmod ((a * b) + (Int.fmod c b)) b)) := r7 wq (Grows.refl wq)
                        obtain ⟨v8, E8, -, r8⟩ := hk.dep hr 8 152 (by kernel_rfl) (by kernel_rfl)
                        have r8 : ZV wq v8 ((Int.fmod c b)) := r8 wq (Grows.refl wq)
                        refine wp_of_call (f := 26) (vs := #[v7, v8]) (by go_simp) (same_v wq r7 r8 (t := true) (decide_eq_true (floor_back hn0).2)) ?_
                        rintro e w1 ⟨u, rfl, hu, hb⟩
                        exact ⟨u, rfl, hK.out _ _ hb (fun w2 h2 => hu) (fun h => absurd h (by decide))⟩
                      refine AllOps.cons (Does.lets (g := 6) (d := 150) (t := false) rfl (by kernel_rfl) (by kernel_rfl) (fun vq wq h => h wq (Grows.refl wq)) fun lq aq wq hk hr K hK => ?_) ?_
                      · obtain ⟨v9, E9, -, r9⟩ := hk.dep hr 9 153 (by kernel_rfl) (by kernel_rfl)
                        replace E9 : ev aq (.tmp 153) = .bool true := E9.trans (r9 wq (Grows.refl wq))
                        exact wp_of_value (by go_simp) (hK.out _ _ (Grows.refl _) (fun w2 h2 => rfl) (fun h => absurd h (by decide)))
                      refine AllOps.cons (Does.plain rfl fun lq aq wq hk hr K hK => ?_) ?_
                      · obtain ⟨v6, E6, -, r6⟩ := hk.dep hr 6 150 (by kernel_rfl) (by kernel_rfl)
                        replace E6 : ev aq (.tmp 150) = .bool false := E6.trans (r6 wq (Grows.refl wq))
                        obtain ⟨v10, E10, -, r10⟩ := hk.dep hr 10 154 (by kernel_rfl) (by kernel_rfl)
                        replace E10 : ev aq (.tmp 154) = .bool false := E10.trans (r10 wq (Grows.refl wq))
                        exact wp_of_value (by go_simp) (hK.out _ _ (Grows.refl _) (fun w2 h2 => rfl) (fun h => absurd h (by decide)))
                      exact AllOps.nil
                    case fin =>
                      intro V x14 hG hV hap
                      have r11 : (V 11) = .bool false := hV 11 (by decide)
                      clear hV hap
                      simp only [List.take_succ_cons, List.take_nil, List.drop_succ_cons, List.drop_nil, putAll, Act.put, List.setIfInBounds_toArray, List.set_cons_zero, List.set_cons_succ]
                      have hb := grows_of hG
                      replace Da := Lib.hid (Box2.below Da.out hb)
                      replace Sa := Lib.hid (Sa.out.below hb)
                      replace Db := Lib.hid (Box2.below Db.out hb)
                      replace Sb := Lib.hid (Sb.out.below hb)
                      replace Dc := Lib.hid (Box2.below Dc.out hb)
                      replace Sc := Lib.hid (Sc.out.below hb)
                      replace Dq := Lib.hid (Box2.below Dq.out hb)
                      replace Sq := Lib.hid (Sq.out.below hb)
                      replace Dr := Lib.hid (Box2.below Dr.out hb)
                      replace Sr := Lib.hid (Sr.out.below hb)
                      replace Dl := Lib.hid (Box2.below Dl.out hb)
                      replace Sl := Lib.hid (Sl.out.below hb)
                      replace Dp := Lib.hid (Box2.below Dp.out hb)
                      replace Sp := Lib.hid (Sp.out.below hb)
                      replace Ds := Lib.hid (Box2.below Ds.out hb)
                      replace Ss := Lib.hid (Ss.out.below hb)
                      replace HB := Lib.hid (HB.out.trans (Below.mono hb HB.out.size))
                      clear hb hG
                      rw [r11]
                      clear r11
                      rcases Decidable.em (c = 0) with hc0 | hc0
                      · skip
                        go_upto_region 15 with fail
                        refine wp_region_calm 3 [] ([fun vq wq => WV wq vq c,
                            fun vq _ => vq = .int .i64 0,
                            fun vq _ => vq = .bool true]) (by kernel_rfl) (by decide) ?hF ?steps ?fin
                        case hF =>
                          intro j hj; cases hj
                        case steps =>
                          refine AllOps.cons (Does.plain rfl fun lq aq wq hk hr K hK => ?_) ?_
                          · have B5 : ev aq (.tmp 5) = .pointer (some ⟨bc, 0, none⟩) := hk.base 5 (by kernel_rfl) rfl
                            have hb : Below _ _ _ := hk.ext
                            exact wp_of_value (op_load 5 _ B5 (Box2.below Dc.out hb)) (hK.out _ _ (Grows.refl _) (fun w2 h2 => ⟨_, _, _, _, rfl, (Sc.out.below hb).below h2⟩) (fun h => absurd h (by decide)))
                          refine AllOps.cons (Does.plain rfl fun lq aq wq hk hr K hK => ?_) ?_
                          · obtain ⟨v0, E0, -, r0⟩ := hk.dep hr 0 156 (by kernel_rfl) (by kernel_rfl)
                            have r0 : WV wq v0 c := r0 wq (Grows.refl wq)
                            refine wp_of_call (f := 36) (vs := #[v0]) (by go_simp) (sign_v wq r0 (k := 0) (by rw [hc0]; rfl)) ?_
                            rintro e w1 ⟨u, rfl, hu, hb⟩
                            exact ⟨u, rfl, hK.out _ _ hb (fun w2 h2 => hu) (fun h => absurd h (by decide))⟩
                          refine AllOps.cons (Does.plain rfl fun lq aq wq hk hr K hK => ?_) ?_
                          · obtain ⟨v1, E1, -, r1⟩ := hk.dep hr 1 157 (by kernel_rfl) (by kernel_rfl)
                            replace E1 : ev aq (.tmp 157) = .int .i64 0 := E1.trans (r1 wq (Grows.refl wq))
                            exact wp_of_value (by go_simp) (hK.out _ _ (Grows.refl _) (fun w2 h2 => rfl) (fun h => absurd h (by decide)))
                          exact AllOps.nil
                        case fin =>
                          intro V x15 hG hV hap
                          have r2 : (V 2) = .bool true := hV 2 (by decide)
                          clear hV hap
                          simp only [List.take_succ_cons, List.take_nil, List.drop_succ_cons, List.drop_nil, putAll, Act.put, List.setIfInBounds_toArray, List.set_cons_zero, List.set_cons_succ]
                          have hb := (show Below _ _ _ from hG)
                          replace Da := Lib.hid (Box2.below Da.out hb)
                          replace Sa := Lib.hid (Sa.out.below hb)
                          replace Db := Lib.hid (Box2.below Db.out hb)
                          replace Sb := Lib.hid (Sb.out.below hb)
                          replace Dc := Lib.hid (Box2.below Dc.out hb)
                          replace Sc := Lib.hid (Sc.out.below hb)
                          replace Dq := Lib.hid (Box2.below Dq.out hb)
                          replace Sq := Lib.hid (Sq.out.below hb)
                          replace Dr := Lib.hid (Box2.below Dr.out hb)
                          replace Sr := Lib.hid (Sr.out.below hb)
                          replace Dl := Lib.hid (Box2.below Dl.out hb)
                          replace Sl := Lib.hid (Sl.out.below hb)
                          replace Dp := Lib.hid (Box2.below Dp.out hb)
                          replace Sp := Lib.hid (Sp.out.below hb)
                          replace Ds := Lib.hid (Box2.below Ds.out hb)
                          replace Ss := Lib.hid (Ss.out.below hb)
                          replace HB := Lib.hid (HB.out.trans (Below.mono hb HB.out.size))
                          clear hb hG
                          rw [r2]
                          go_wp2_with fail
                          go_ret
                          exact ⟨rfl, HB.out⟩
                      · skip
                        obtain ⟨j, hj⟩ : ∃ j, Int.sign c = j := ⟨_, rfl⟩
                        have hj0 : (j == 0) = false := by rw [← hj, beq_eq_false_iff_ne]; exact fun e => hc0 (Int.sign_eq_zero_iff_zero.1 e)
                        go_upto_region 15 with fail
                        refine wp_region_calm 3 [] ([fun vq wq => WV wq vq c,
                            fun vq _ => vq = .int .i64 j,
                            fun vq _ => vq = .bool false]) (by kernel_rfl) (by decide) ?hF ?steps ?fin
                        case hF =>
                          intro j hj; cases hj
                        case steps =>
                          refine AllOps.cons (Does.plain rfl fun lq aq wq hk hr K hK => ?_) ?_
                          · have B5 : ev aq (.tmp 5) = .pointer (some ⟨bc, 0, none⟩) := hk.base 5 (by kernel_rfl) rfl
                            have hb : Below _ _ _ := hk.ext
                            exact wp_of_value (op_load 5 _ B5 (Box2.below Dc.out hb)) (hK.out _ _ (Grows.refl _) (fun w2 h2 => ⟨_, _, _, _, rfl, (Sc.out.below hb).below h2⟩) (fun h => absurd h (by decide)))
                          refine AllOps.cons (Does.plain rfl fun lq aq wq hk hr K hK => ?_) ?_
                          · obtain ⟨v0, E0, -, r0⟩ := hk.dep hr 0 156 (by kernel_rfl) (by kernel_rfl)
                            have r0 : WV wq v0 c := r0 wq (Grows.refl wq)
                            refine wp_of_call (f := 36) (vs := #[v0]) (by go_simp) (sign_v wq r0 (k := j) hj) ?_
                            rintro e w1 ⟨u, rfl, hu, hb⟩
                            exact ⟨u, rfl, hK.out _ _ hb (fun w2 h2 => hu) (fun h => absurd h (by decide))⟩
                          refine AllOps.cons (Does.plain rfl fun lq aq wq hk hr K hK => ?_) ?_
                          · obtain ⟨v1, E1, -, r1⟩ := hk.dep hr 1 157 (by kernel_rfl) (by kernel_rfl)
                            replace E1 : ev aq (.tmp 157) = .int .i64 j := E1.trans (r1 wq (Grows.refl wq))
                            exact wp_of_value (by go_simp) (hK.out _ _ (Grows.refl _) (fun w2 h2 => rfl) (fun h => absurd h (by decide)))
                          exact AllOps.nil
                        case fin =>
                          intro V x15 hG hV hap
                          have r2 : (V 2) = .bool false := hV 2 (by decide)
                          clear hV hap
                          simp only [List.take_succ_cons, List.take_nil, List.drop_succ_cons, List.drop_nil, putAll, Act.put, List.setIfInBounds_toArray, List.set_cons_zero, List.set_cons_succ]
                          have hb := (show Below _ _ _ from hG)
                          replace Da := Lib.hid (Box2.below Da.out hb)
                          replace Sa := Lib.hid (Sa.out.below hb)
                          replace Db := Lib.hid (Box2.below Db.out hb)
                          replace Sb := Lib.hid (Sb.out.below hb)
                          replace Dc := Lib.hid (Box2.below Dc.out hb)
                          replace Sc := Lib.hid (Sc.out.below hb)
                          replace Dq := Lib.hid (Box2.below Dq.out hb)
                          replace Sq := Lib.hid (Sq.out.below hb)
                          replace Dr := Lib.hid (Box2.below Dr.out hb)
                          replace Sr := Lib.hid (Sr.out.below hb)
                          replace Dl := Lib.hid (Box2.below Dl.out hb)
                          replace Sl := Lib.hid (Sl.out.below hb)
                          replace Dp := Lib.hid (Box2.below Dp.out hb)
                          replace Sp := Lib.hid (Sp.out.below hb)
                          replace Ds := Lib.hid (Box2.below Ds.out hb)
                          replace Ss := Lib.hid (Ss.out.below hb)
                          replace HB := Lib.hid (HB.out.trans (Below.mono hb HB.out.size))
                          clear hb hG
                          rw [r2]
                          clear r2
                          go_upto_region 17 with fail
                          refine wp_region_prompt 13 11 [12] ([fun vq wq => WV wq vq a,
                              fun vq wq => WV wq vq c,
                              fun vq wq => RowV wq vq [a, c],
                              fun vq wq => ZV wq vq ((a * c)),
                              fun vq wq => WV wq vq b,
                              fun vq wq => WV wq vq c,
                              fun vq wq => RowV wq vq [b, c],
                              fun vq wq => ZV wq vq ((b * c)),
                              fun vq wq => ∃ u0, vq = .tuple #[u0, .int .i64 0] ∧ ZV wq u0 ((Int.fdiv (a * c) (b * c))),
                              fun vq wq => ∃ u0, vq = .tuple #[u0, .int .i64 0] ∧ ZV wq u0 ((Int.fdiv (a * c) (b * c))),
                              fun vq wq => ZV wq vq ((Int.fdiv (a * c) (b * c))),
                              fun vq _ => vq = .int .i64 0,
                              fun vq wq => ∃ bq, vq = .pointer (some ⟨bq, 0, none⟩) ∧ Box2 wq bq 24 (.bool false) (.slice none 0 0) ∧ (x15).heap.size ≤ bq]) rfl (by kernel_rfl) (by kernel_rfl) (by decide) (by kernel_rfl) (by kernel_rfl) (by kernel_rfl) (by kernel_rfl) (by decide) (fun _ _ _ _ h => h) ?hF ?hy ?steps ?fin
                          case hy =>
                            intro lq aq wq hk hr
                            obtain ⟨v9, E9, -, r9⟩ := hk.dep hr 9 159 (by kernel_rfl) (by kernel_rfl)
                            have r9 : ∃ u0, v9 = .tuple #[u0, .int .i64 0] ∧ ZV wq u0 ((Int.fdiv (a * c) (b * c))) := r9 wq (Grows.refl wq)
                            obtain ⟨u0, rfl, h0⟩ := r9
                            exact ⟨_, yields_of rfl (fun w2 => by go_simp), fun w2 h2 => rfl⟩
                          case hF =>
                            intro j hj v w h
                            simp only [List.mem_cons, List.not_mem_nil, or_false] at hj
                            subst hj
                            all_goals (obtain ⟨b, rfl, hB, _⟩ := h; exact hB.lt)
                          case steps =>
                            refine AllOps.cons (fun _ => Does.plain rfl fun lq aq wq hk hr K hK => ?_) ?_
                            · have B3 : ev aq (.tmp 3) = .pointer (some ⟨ba, 0, none⟩) := hk.base 3 (by kernel_rfl) rfl
                              have hb := grows_of hk.ext
                              exact wp_of_value (op_load 3 _ B3 (Box2.below Da.out hb)) (hK.out _ _ (Grows.refl _) (fun w2 h2 => ⟨_, _, _, _, rfl, (Sa.out.below hb).below h2⟩) (fun h => absurd h (by decide)))
                            refine AllOps.cons (fun _ => Does.plain rfl fun lq aq wq hk hr K hK => ?_) ?_
                            · have B5 : ev aq (.tmp 5) = .pointer (some ⟨bc, 0, none⟩) := hk.base 5 (by kernel_rfl) rfl
                              have hb := grows_of hk.ext
                              exact wp_of_value (op_load 5 _ B5 (Box2.below Dc.out hb)) (hK.out _ _ (Grows.refl _) (fun w2 h2 => ⟨_, _, _, _, rfl, (Sc.out.below hb).below h2⟩) (fun h => absurd h (by decide)))
                            refine AllOps.cons (fun _ => Does.plain rfl fun lq aq wq hk hr K hK => ?_) ?_
                            · obtain ⟨v0, E0, -, r0⟩ := hk.dep hr 0 160 (by kernel_rfl) (by kernel_rfl)
                              have r0 : WV wq v0 a := r0 wq (Grows.refl wq)
                              obtain ⟨n0, A0, k0, c0, rfl, s0⟩ := r0
                              obtain ⟨v1, E1, -, r1⟩ := hk.dep hr 1 161 (by kernel_rfl) (by kernel_rfl)
                              have r1 : WV wq v1 c := r1 wq (Grows.refl wq)
                              obtain ⟨n1, A1, k1, c1, rfl, s1⟩ := r1
                              exact wp_of_value (op_row2 160 161 E0 E1) (hK.out _ _ ((Grows.refl _).alloc _) (fun w2 h2 => (RowV.two s0 s1).grow h2) (fun h => absurd h (by decide)))
                            refine AllOps.cons (fun _ => Does.plain rfl fun lq aq wq hk hr K hK => ?_) ?_
                            · obtain ⟨v2, E2, -, r2⟩ := hk.dep hr 2 162 (by kernel_rfl) (by kernel_rfl)
                              have r2 : RowV wq v2 [a, c] := r2 wq (Grows.refl wq)
                              refine wp_of_call (f := 28) (vs := #[v2]) (by go_simp) (mul2_v wq r2 (Nat.le_trans hka (by decide)) (Nat.le_trans (szz_mul hka hkc) (by decide))) ?_
                              rintro e w1 ⟨u, rfl, hu, hb⟩
                              exact ⟨u, rfl, hK.out _ _ hb (fun w2 h2 => (hu).grow h2) (fun h => absurd h (by decide))⟩
                            refine AllOps.cons (fun _ => Does.plain rfl fun lq aq wq hk hr K hK => ?_) ?_
                            · have B4 : ev aq (.tmp 4) = .pointer (some ⟨bb, 0, none⟩) := hk.base 4 (by kernel_rfl) rfl
                              have hb := grows_of hk.ext
                              exact wp_of_value (op_load 4 _ B4 (Box2.below Db.out hb)) (hK.out _ _ (Grows.refl _) (fun w2 h2 => ⟨_, _, _, _, rfl, (Sb.out.below hb).below h2⟩) (fun h => absurd h (by decide)))
                            refine AllOps.cons (fun _ => Does.plain rfl fun lq aq wq hk hr K hK => ?_) ?_
                            · have B5 : ev aq (.tmp 5) = .pointer (some ⟨bc, 0, none⟩) := hk.base 5 (by kernel_rfl) rfl
                              have hb := grows_of hk.ext
                              exact wp_of_value (op_load 5 _ B5 (Box2.below Dc.out hb)) (hK.out _ _ (Grows.refl _) (fun w2 h2 => ⟨_, _, _, _, rfl, (Sc.out.below hb).below h2⟩) (fun h => absurd h (by decide)))
                            refine AllOps.cons (fun _ => Does.plain rfl fun lq aq wq hk hr K hK => ?_) ?_
                            · obtain ⟨v4, E4, -, r4⟩ := hk.dep hr 4 164 (by kernel_rfl) (by kernel_rfl)
                              have r4 : WV wq v4 b := r4 wq (Grows.refl wq)
                              obtain ⟨n4, A4, k4, c4, rfl, s4⟩ := r4
                              obtain ⟨v5, E5, -, r5⟩ := hk.dep hr 5 165 (by kernel_rfl) (by kernel_rfl)
                              have r5 : WV wq v5 c := r5 wq (Grows.refl wq)
                              obtain ⟨n5, A5, k5, c5, rfl, s5⟩ := r5
                              exact wp_of_value (op_row2 164 165 E4 E5) (hK.out _ _ ((Grows.refl _).alloc _) (fun w2 h2 => (RowV.two s4 s5).grow h2) (fun h => absurd h (by decide)))
                            refine AllOps.cons (fun _ => Does.plain rfl fun lq aq wq hk hr K hK => ?_) ?_
                            · obtain ⟨v6, E6, -, r6⟩ := hk.dep hr 6 166 (by kernel_rfl) (by kernel_rfl)
                              have r6 : RowV wq v6 [b, c] := r6 wq (Grows.refl wq)
                              refine wp_of_call (f := 28) (vs := #[v6]) (by go_simp) (mul2_v wq r6 (Nat.le_trans hkb (by decide)) (Nat.le_trans (szz_mul hkb hkc) (by decide))) ?_
                              rintro e w1 ⟨u, rfl, hu, hb⟩
                              exact ⟨u, rfl, hK.out _ _ hb (fun w2 h2 => (hu).grow h2) (fun h => absurd h (by decide))⟩
                            refine AllOps.cons (fun _ => Does.plain rfl fun lq aq wq hk hr K hK => ?_) ?_
                            · obtain ⟨v3, E3, -, r3⟩ := hk.dep hr 3 163 (by kernel_rfl) (by kernel_rfl)
                              have r3 : ZV wq v3 ((a * c)) := r3 wq (Grows.refl wq)
                              obtain ⟨v7, E7, -, r7⟩ := hk.dep hr 7 167 (by kernel_rfl) (by kernel_rfl)
                              have r7 : ZV wq v7 ((b * c)) := r7 wq (Grows.refl wq)
                              refine wp_of_call (f := 16) (vs := #[v3, v7]) (by go_simp) (div_v wq (r3).wv (r7).wv (Int.mul_ne_zero hn0 hc0) (Nat.le_trans (szz_fdiv (b * c) (szz_mul hka hkc)) (by decide))) ?_
                              rintro e w1 ⟨u, rfl, hu, hb⟩
                              exact ⟨u, rfl, hK.out _ _ hb (fun w2 h2 => (let ⟨u0, e0, h0⟩ := hu; ⟨u0, e0, (h0).grow h2⟩)) (fun h => absurd h (by decide))⟩
                            refine AllOps.cons (fun _ => Does.plain rfl fun lq aq wq hk hr K hK => ?_) ?_
                            · obtain ⟨v8, E8, -, r8⟩ := hk.dep hr 8 168 (by kernel_rfl) (by kernel_rfl)
                              have r8 : ∃ u0, v8 = .tuple #[u0, .int .i64 0] ∧ ZV wq u0 ((Int.fdiv (a * c) (b * c))) := r8 wq (Grows.refl wq)
                              exact wp_of_value (by go_simp) (hK.out _ _ (Grows.refl _) (fun w2 h2 => (let ⟨u0, e0, h0⟩ := r8; ⟨u0, e0, (h0).grow h2⟩)) (fun h => absurd h (by decide)))
                            refine AllOps.cons (fun _ => Does.plain rfl fun lq aq wq hk hr K hK => ?_) ?_
                            · obtain ⟨v9, E9, -, r9⟩ := hk.dep hr 9 159 (by kernel_rfl) (by kernel_rfl)
                              have r9 : ∃ u0, v9 = .tuple #[u0, .int .i64 0] ∧ ZV wq u0 ((Int.fdiv (a * c) (b * c))) := r9 wq (Grows.refl wq)
                              obtain ⟨u0, rfl, h0⟩ := r9
                              exact wp_of_value (by go_simp) (hK.out _ _ (Grows.refl _) (fun w2 h2 => (h0).grow h2) (fun h => absurd h (by decide)))
                            refine AllOps.cons (fun h => absurd rfl h) ?_
                            refine AllOps.cons (fun _ => Does.plain rfl fun lq aq wq hk hr K hK => ?_) ?_
                            · exact wp_of_value (by go_simp) (hK.out _ _ ((Grows.refl _).alloc _) (fun w2 h2 => ⟨_, rfl, (Box2.new wq 24 _ _).below h2, (grows_of hk.ext).size⟩) (fun _ => Nat.le_refl _))
                            exact AllOps.nil
                          case fin =>
                            intro V x16 hG hV hap
                            have r10 : ZV x16 (V 10) ((Int.fdiv (a * c) (b * c))) := hV 10 (by decide)
                            have r11 : (V 11) = .int .i64 0 := hV 11 (by decide)
                            have r12 : ∃ bq, (V 12) = .pointer (some ⟨bq, 0, none⟩) ∧ Box2 x16 bq 24 (.bool false) (.slice none 0 0) ∧ (x15).heap.size ≤ bq := hV 12 (by decide)
                            clear hV
                            simp only [List.take_succ_cons, List.take_zero, List.drop_succ_cons, List.drop_zero, putAll, Act.put, List.setIfInBounds_toArray, List.set_cons_zero, List.set_cons_succ]
                            have hb := grows_of hG
                            obtain ⟨bg, eg, Dg, gg⟩ := r12
                            obtain ⟨ng, Ag, kg, cg, eg', sg⟩ := r10
                            simp only [eg, eg', r11]
                            clear eg eg' hap r11
                            refine wpList_of_skip rfl (op_store 16 169 _ rfl rfl Dg) ?_
                            have hB := put2_below (u := .bool ng) (v := .slice Ag kg cg) hb gg
                            replace sg := sg.put Dg (.bool ng) (.slice Ag kg cg)
                            replace Dg := put2_own (u := .bool ng) (v := .slice Ag kg cg) Dg
                            clear hb
                            generalize put2 x16 bg (.bool ng) (.slice Ag kg cg) = y17 at *
                            replace Da := Lib.hid (Box2.below Da.out hB)
                            replace Sa := Lib.hid (Sa.out.below hB)
                            replace Db := Lib.hid (Box2.below Db.out hB)
                            replace Sb := Lib.hid (Sb.out.below hB)
                            replace Dc := Lib.hid (Box2.below Dc.out hB)
                            replace Sc := Lib.hid (Sc.out.below hB)
                            replace Dq := Lib.hid (Box2.below Dq.out hB)
                            replace Sq := Lib.hid (Sq.out.below hB)
                            replace Dr := Lib.hid (Box2.below Dr.out hB)
                            replace Sr := Lib.hid (Sr.out.below hB)
                            replace Dl := Lib.hid (Box2.below Dl.out hB)
                            replace Sl := Lib.hid (Sl.out.below hB)
                            replace Dp := Lib.hid (Box2.below Dp.out hB)
                            replace Sp := Lib.hid (Sp.out.below hB)
                            replace Ds := Lib.hid (Box2.below Ds.out hB)
                            replace Ss := Lib.hid (Ss.out.below hB)
                            replace HB := Lib.hid (HB.out.trans (Below.mono hB HB.out.size))
                            replace Dg := Lib.hid Dg
                            have Sg := Lib.hid sg
                            clear hG hB gg sg
                            go_upto_region 18 with fail
                            refine wp_region_calm 4 [] ([fun vq wq => ZV wq vq ((Int.fdiv (a * c) (b * c))),
                                fun vq wq => ZV wq vq ((Int.fdiv a b)),
                                fun vq _ => vq = .bool true,
                                fun vq _ => vq = .bool true]) (by kernel_rfl) (by decide) ?hF ?steps ?fin
                            case hF =>
                              intro j hj; cases hj
                            case steps =>
                              refine AllOps.cons (Does.plain rfl fun lq aq wq hk hr K hK => ?_) ?_
                              · have B16 : ev aq (.tmp 16) = .pointer (some ⟨bg, 0, none⟩) := hk.base 16 (by kernel_rfl) rfl
                                have hb : Below _ _ _ := hk.ext
                                exact wp_of_value (op_load 16 _ B16 (Box2.below Dg.out hb)) (hK.out _ _ (Grows.refl _) (fun w2 h2 => ⟨_, _, _, _, rfl, (Sg.out.below hb).below h2⟩) (fun h => absurd h (by decide)))
                              refine AllOps.cons (Does.plain rfl fun lq aq wq hk hr K hK => ?_) ?_
                              · have B6 : ev aq (.tmp 6) = .pointer (some ⟨bq, 0, none⟩) := hk.base 6 (by kernel_rfl) rfl
                                have hb : Below _ _ _ := hk.ext
                                exact wp_of_value (op_load 6 _ B6 (Box2.below Dq.out hb)) (hK.out _ _ (Grows.refl _) (fun w2 h2 => ⟨_, _, _, _, rfl, (Sq.out.below hb).below h2⟩) (fun h => absurd h (by decide)))
                              refine AllOps.cons (Does.plain rfl fun lq aq wq hk hr K hK => ?_) ?_
                              · obtain ⟨v0, E0, -, r0⟩ := hk.dep hr 0 171 (by kernel_rfl) (by kernel_rfl)
                                have r0 : ZV wq v0 ((Int.fdiv (a * c) (b * c))) := r0 wq (Grows.refl wq)
                                obtain ⟨v1, E1, -, r1⟩ := hk.dep hr 1 172 (by kernel_rfl) (by kernel_rfl)
                                have r1 : ZV wq v1 ((Int.fdiv a b)) := r1 wq (Grows.refl wq)
                                refine wp_of_call (f := 26) (vs := #[v0, v1]) (by go_simp) (same_v wq r0 r1 (t := true) (decide_eq_true (floor_times hn0 hc0))) ?_
                                rintro e w1 ⟨u, rfl, hu, hb⟩
                                exact ⟨u, rfl, hK.out _ _ hb (fun w2 h2 => hu) (fun h => absurd h (by decide))⟩
                              refine AllOps.cons (Does.plain rfl fun lq aq wq hk hr K hK => ?_) ?_
                              · obtain ⟨v2, E2, -, r2⟩ := hk.dep hr 2 173 (by kernel_rfl) (by kernel_rfl)
                                replace E2 : ev aq (.tmp 173) = .bool true := E2.trans (r2 wq (Grows.refl wq))
                                exact wp_of_value (by go_simp) (hK.out _ _ (Grows.refl _) (fun w2 h2 => rfl) (fun h => absurd h (by decide)))
                              exact AllOps.nil
                            case fin =>
                              intro V x18 hG hV hap
                              have r3 : (V 3) = .bool true := hV 3 (by decide)
                              clear hV hap
                              simp only [List.take_succ_cons, List.take_nil, List.drop_succ_cons, List.drop_nil, putAll, Act.put, List.setIfInBounds_toArray, List.set_cons_zero, List.set_cons_succ]
                              have hb := (show Below _ _ _ from hG)
                              replace Da := Lib.hid (Box2.below Da.out hb)
                              replace Sa := Lib.hid (Sa.out.below hb)
                              replace Db := Lib.hid (Box2.below Db.out hb)
                              replace Sb := Lib.hid (Sb.out.below hb)
                              replace Dc := Lib.hid (Box2.below Dc.out hb)
                              replace Sc := Lib.hid (Sc.out.below hb)
                              replace Dq := Lib.hid (Box2.below Dq.out hb)
                              replace Sq := Lib.hid (Sq.out.below hb)
                              replace Dr := Lib.hid (Box2.below Dr.out hb)
                              replace Sr := Lib.hid (Sr.out.below hb)
                              replace Dl := Lib.hid (Box2.below Dl.out hb)
                              replace Sl := Lib.hid (Sl.out.below hb)
                              replace Dp := Lib.hid (Box2.below Dp.out hb)
                              replace Sp := Lib.hid (Sp.out.below hb)
                              replace Ds := Lib.hid (Box2.below Ds.out hb)
                              replace Ss := Lib.hid (Ss.out.below hb)
                              replace Dg := Lib.hid (Box2.below Dg.out hb)
                              replace Sg := Lib.hid (Sg.out.below hb)
                              replace HB := Lib.hid (HB.out.trans (Below.mono hb HB.out.size))
                              clear hb hG
                              rw [r3]
                              go_wp2_with fail
                              go_ret
                              exact ⟨rfl, HB.out⟩
end Go.Proofs.YtmajcjdhhnhmmaaDoor
