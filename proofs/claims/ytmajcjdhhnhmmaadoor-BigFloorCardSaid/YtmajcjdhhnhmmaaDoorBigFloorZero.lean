import Derived.Test.YtmajcjdhhnhmmaaDoorGVal
import Derived.Test.YtmajcjdhhnhmmaaDoorGKept
import Derived.Test.YtmajcjdhhnhmmaaDoorBigWorks
import Derived.Test.YtmajcjdhhnhmmaaDoorBigFloorL
/- litmuslaw02.BigFloor returns true: a case. -/
namespace Go.Proofs.YtmajcjdhhnhmmaaDoor
open Go.RowKit Go.Num Go.Kp
attribute [local go_sem] Oper.semAt_some u64_mask ev_const ev_func ev_global
set_option maxHeartbeats 16000000 in
set_option maxRecDepth 100000 in
theorem bigFloor_zero (w : World) (n0 : Bool) (m0 : Value) (l0 : List Nat) (n1 : Bool) (m1 : Value) (l1 : List Nat) (n2 : Bool) (m2 : Value) (l2 : List Nat) (h0 : Arg encU w m0 l0) (hl0 : Lim l0) (hn0 : l0.length ≤ 9223372036854775807) (h1 : Arg encU w m1 l1) (hl1 : Lim l1) (hn1 : l1.length ≤ 9223372036854775807) (h2 : Arg encU w m2 l2) (hl2 : Lim l2) (hn2 : l2.length ≤ 9223372036854775807) (hcase : sg n1 (val (l1.take 20)) = 0) :
    Calls Tryd.prog 7 #[.agg #[.bool n0, m0, .bool n1, m1, .bool n2, m2]] w fun e w' => e = .returned (.bool true) ∧ Below w.heap.size w w' := by
  go_enter Tryd.func7, Tryd.ntmps7
  replace hcase := Lib.hid hcase
  obtain ⟨a, ha⟩ : ∃ z, sg n0 (val (l0.take 20)) = z := ⟨_, rfl⟩
  have hka : szz a ≤ 20 := ha ▸ few_szz n0 20 hl0
  obtain ⟨b, hb⟩ : ∃ z, sg n1 (val (l1.take 20)) = z := ⟨_, rfl⟩
  have hkb : szz b ≤ 20 := hb ▸ few_szz n1 20 hl1
  obtain ⟨c, hc⟩ : ∃ z, sg n2 (val (l2.take 20)) = z := ⟨_, rfl⟩
  have hkc : szz c ≤ 20 := hc ▸ few_szz n2 20 hl2
  have HB0 : Hid (Below w.heap.size w (w.alloc (.cells #[.bool n0, m0, .bool n1, m1, .bool n2, m2] 44))) := Lib.hid ((Below.refl _ w).alloc (Nat.le_refl _) _)
  have X0 := Lib.hid (BoxN.new w 44 #[.bool n0, m0, .bool n1, m1, .bool n2, m2])
  go_wp2_with fail
  refine (works_any _).mono ?_
  rintro e x0 ⟨rfl, q0⟩
  have HB := Lib.hid (HB0.out.trans (Below.mono q0 HB0.out.size))
  have X := Lib.hid (BoxN.below X0.out q0)
  replace h0 := h0.below HB.out
  replace h1 := h1.below HB.out
  replace h2 := h2.below HB.out
  clear HB0 X0 q0
  go_upto_region 3 with fail
  refine wp_region_going 12 [9, 10, 11] ([fun vq _ => vq = .pointer (some ⟨w.heap.size, 0, none⟩),
      fun vq _ => vq = .agg #[.bool n0, m0],
      fun vq wq => WV x0 vq a,
      fun vq _ => vq = .pointer (some ⟨w.heap.size, 2, none⟩),
      fun vq _ => vq = .agg #[.bool n1, m1],
      fun vq wq => WV x0 vq b,
      fun vq _ => vq = .pointer (some ⟨w.heap.size, 4, none⟩),
      fun vq _ => vq = .agg #[.bool n2, m2],
      fun vq wq => WV x0 vq c,
      fun vq wq => ∃ bq, vq = .pointer (some ⟨bq, 0, none⟩) ∧ Box2 wq bq 24 (.bool false) (.slice none 0 0) ∧ (x0).heap.size ≤ bq,
      fun vq wq => ∃ bq, vq = .pointer (some ⟨bq, 0, none⟩) ∧ Box2 wq bq 24 (.bool false) (.slice none 0 0) ∧ (x0).heap.size ≤ bq,
      fun vq wq => ∃ bq, vq = .pointer (some ⟨bq, 0, none⟩) ∧ Box2 wq bq 24 (.bool false) (.slice none 0 0) ∧ (x0).heap.size ≤ bq]) (by kernel_rfl) (by kernel_rfl) (by decide) (by kernel_rfl) (by kernel_rfl) ?hF ?steps ?fin
  case hF =>
    intro j hj v w h
    simp only [List.mem_cons, List.not_mem_nil, or_false] at hj
    rcases hj with rfl | rfl | rfl
    all_goals (obtain ⟨b, rfl, hB, _⟩ := h; exact hB.lt)
  case steps =>
    refine AllOps.cons (Does.plain rfl fun lq aq wq hk hr K hK => ?_) ?_
    · have B1 : ev aq (.tmp 1) = .pointer (some ⟨w.heap.size, 0, none⟩) := hk.base 1 (by kernel_rfl) rfl
      exact wp_of_value (by go_simp) (hK.out _ _ (Grows.refl _) (fun w2 h2 => rfl) (fun h => absurd h (by decide)))
    refine AllOps.cons (Does.plain rfl fun lq aq wq hk hr K hK => ?_) ?_
    · obtain ⟨v0, E0, -, r0⟩ := hk.dep hr 0 20 (by kernel_rfl) (by kernel_rfl)
      replace E0 : ev aq (.tmp 20) = .pointer (some ⟨w.heap.size, 0, none⟩) := E0.trans (r0 wq (Grows.refl wq))
      have hb := grows_of hk.ext
      have hb := grows_of hk.ext
      have c0 := (BoxN.below X.out hb).cell 0 rfl
      have c1 := (BoxN.below X.out hb).cell 1 rfl
      exact wp_of_value (by go_simp) (hK.out _ _ (Grows.refl _) (fun w2 h2 => rfl) (fun h => absurd h (by decide)))
    refine AllOps.cons (Does.plain rfl fun lq aq wq hk hr K hK => ?_) ?_
    · obtain ⟨v1, E1, -, r1⟩ := hk.dep hr 1 21 (by kernel_rfl) (by kernel_rfl)
      replace E1 : ev aq (.tmp 21) = .agg #[.bool n0, m0] := E1.trans (r1 wq (Grows.refl wq))
      refine wp_of_call (f := 13) (vs := #[.agg #[.bool n0, m0], .int .i64 20]) (by go_simp) (few_v x0 wq 20 (h0) hl0 hn0 (by decide) ha) ?_
      rintro e w1 ⟨u, rfl, hu, hb⟩
      exact ⟨u, rfl, hK.out _ _ hb (fun w2 h2 => hu) (fun h => absurd h (by decide))⟩
    refine AllOps.cons (Does.plain rfl fun lq aq wq hk hr K hK => ?_) ?_
    · have B1 : ev aq (.tmp 1) = .pointer (some ⟨w.heap.size, 0, none⟩) := hk.base 1 (by kernel_rfl) rfl
      exact wp_of_value (by go_simp) (hK.out _ _ (Grows.refl _) (fun w2 h2 => rfl) (fun h => absurd h (by decide)))
    refine AllOps.cons (Does.plain rfl fun lq aq wq hk hr K hK => ?_) ?_
    · obtain ⟨v3, E3, -, r3⟩ := hk.dep hr 3 23 (by kernel_rfl) (by kernel_rfl)
      replace E3 : ev aq (.tmp 23) = .pointer (some ⟨w.heap.size, 2, none⟩) := E3.trans (r3 wq (Grows.refl wq))
      have hb := grows_of hk.ext
      have hb := grows_of hk.ext
      have c0 := (BoxN.below X.out hb).cell 2 rfl
      have c1 := (BoxN.below X.out hb).cell 3 rfl
      exact wp_of_value (by go_simp) (hK.out _ _ (Grows.refl _) (fun w2 h2 => rfl) (fun h => absurd h (by decide)))
    refine AllOps.cons (Does.plain rfl fun lq aq wq hk hr K hK => ?_) ?_
    · obtain ⟨v4, E4, -, r4⟩ := hk.dep hr 4 24 (by kernel_rfl) (by kernel_rfl)
      replace E4 : ev aq (.tmp 24) = .agg #[.bool n1, m1] := E4.trans (r4 wq (Grows.refl wq))
      refine wp_of_call (f := 13) (vs := #[.agg #[.bool n1, m1], .int .i64 20]) (by go_simp) (few_v x0 wq 20 (h1) hl1 hn1 (by decide) hb) ?_
      rintro e w1 ⟨u, rfl, hu, hb⟩
      exact ⟨u, rfl, hK.out _ _ hb (fun w2 h2 => hu) (fun h => absurd h (by decide))⟩
    refine AllOps.cons (Does.plain rfl fun lq aq wq hk hr K hK => ?_) ?_
    · have B1 : ev aq (.tmp 1) = .pointer (some ⟨w.heap.size, 0, none⟩) := hk.base 1 (by kernel_rfl) rfl
      exact wp_of_value (by go_simp) (hK.out _ _ (Grows.refl _) (fun w2 h2 => rfl) (fun h => absurd h (by decide)))
    refine AllOps.cons (Does.plain rfl fun lq aq wq hk hr K hK => ?_) ?_
    · obtain ⟨v6, E6, -, r6⟩ := hk.dep hr 6 26 (by kernel_rfl) (by kernel_rfl)
      replace E6 : ev aq (.tmp 26) = .pointer (some ⟨w.heap.size, 4, none⟩) := E6.trans (r6 wq (Grows.refl wq))
      have hb := grows_of hk.ext
      have hb := grows_of hk.ext
      have c0 := (BoxN.below X.out hb).cell 4 rfl
      have c1 := (BoxN.below X.out hb).cell 5 rfl
      exact wp_of_value (by go_simp) (hK.out _ _ (Grows.refl _) (fun w2 h2 => rfl) (fun h => absurd h (by decide)))
    refine AllOps.cons (Does.plain rfl fun lq aq wq hk hr K hK => ?_) ?_
    · obtain ⟨v7, E7, -, r7⟩ := hk.dep hr 7 27 (by kernel_rfl) (by kernel_rfl)
      replace E7 : ev aq (.tmp 27) = .agg #[.bool n2, m2] := E7.trans (r7 wq (Grows.refl wq))
      refine wp_of_call (f := 13) (vs := #[.agg #[.bool n2, m2], .int .i64 20]) (by go_simp) (few_v x0 wq 20 (h2) hl2 hn2 (by decide) hc) ?_
      rintro e w1 ⟨u, rfl, hu, hb⟩
      exact ⟨u, rfl, hK.out _ _ hb (fun w2 h2 => hu) (fun h => absurd h (by decide))⟩
    refine AllOps.cons (Does.plain rfl fun lq aq wq hk hr K hK => ?_) ?_
    · exact wp_of_value (by go_simp) (hK.out _ _ ((Grows.refl _).alloc _) (fun w2 h2 => ⟨_, rfl, (Box2.new wq 24 _ _).below h2, (grows_of hk.ext).size⟩) (fun _ => Nat.le_refl _))
    refine AllOps.cons (Does.plain rfl fun lq aq wq hk hr K hK => ?_) ?_
    · exact wp_of_value (by go_simp) (hK.out _ _ ((Grows.refl _).alloc _) (fun w2 h2 => ⟨_, rfl, (Box2.new wq 24 _ _).below h2, (grows_of hk.ext).size⟩) (fun _ => Nat.le_refl _))
    refine AllOps.cons (Does.plain rfl fun lq aq wq hk hr K hK => ?_) ?_
    · exact wp_of_value (by go_simp) (hK.out _ _ ((Grows.refl _).alloc _) (fun w2 h2 => ⟨_, rfl, (Box2.new wq 24 _ _).below h2, (grows_of hk.ext).size⟩) (fun _ => Nat.le_refl _))
    exact AllOps.nil
  case fin =>
    intro V x1 hG hV hap
    have r2 : WV x0 (V 2) a := hV 2 (by decide)
    have r5 : WV x0 (V 5) b := hV 5 (by decide)
    have r8 : WV x0 (V 8) c := hV 8 (by decide)
    have r9 : ∃ bq, (V 9) = .pointer (some ⟨bq, 0, none⟩) ∧ Box2 x1 bq 24 (.bool false) (.slice none 0 0) ∧ (x0).heap.size ≤ bq := hV 9 (by decide)
    have r10 : ∃ bq, (V 10) = .pointer (some ⟨bq, 0, none⟩) ∧ Box2 x1 bq 24 (.bool false) (.slice none 0 0) ∧ (x0).heap.size ≤ bq := hV 10 (by decide)
    have r11 : ∃ bq, (V 11) = .pointer (some ⟨bq, 0, none⟩) ∧ Box2 x1 bq 24 (.bool false) (.slice none 0 0) ∧ (x0).heap.size ≤ bq := hV 11 (by decide)
    clear hV
    simp only [List.take_succ_cons, List.take_zero, List.drop_succ_cons, List.drop_zero, putAll, Act.put, List.setIfInBounds_toArray, List.set_cons_zero, List.set_cons_succ]
    have hb := grows_of hG
    obtain ⟨ba, ea, Da, ga⟩ := r9
    obtain ⟨na, Aa, ka, ca, ea', sa⟩ := r2
    obtain ⟨bb, eb, Db, gb⟩ := r10
    obtain ⟨nb, Ab, kb, cb, eb', sb⟩ := r5
    obtain ⟨bc, ec, Dc, gc⟩ := r11
    obtain ⟨nc, Ac, kc, cc, ec', sc⟩ := r8
    have nab : ba ≠ bb := by
      have h := hap 9 10 (by decide) (by decide) (by decide) (by decide) (by decide) rfl rfl
      rw [ea, eb] at h
      exact h
    have nac : ba ≠ bc := by
      have h := hap 9 11 (by decide) (by decide) (by decide) (by decide) (by decide) rfl rfl
      rw [ea, ec] at h
      exact h
    have nbc : bb ≠ bc := by
      have h := hap 10 11 (by decide) (by decide) (by decide) (by decide) (by decide) rfl rfl
      rw [eb, ec] at h
      exact h
    simp only [ea, ea', eb, eb', ec, ec']
    clear hap ea ea' eb eb' ec ec'
    refine wpList_of_skip rfl (op_store 3 22 _ rfl rfl Da) ?_
    refine wpList_of_skip rfl (op_store 4 25 _ rfl rfl (put2_far Db (Ne.symm nab))) ?_
    refine wpList_of_skip rfl (op_store 5 28 _ rfl rfl (put2_far (put2_far Dc (Ne.symm nac)) (Ne.symm nbc))) ?_
    obtain ⟨hB, Pa, Pb, Pc⟩ := put2_three (na := na) (nb := nb) (nc := nc) (ma := .slice Aa ka ca) (mb := .slice Ab kb cb) (mc := .slice Ac kc cc) hb Da Db Dc ga gb gc nab nac nbc
    generalize put2 (put2 (put2 x1 ba (.bool na) (.slice Aa ka ca)) bb (.bool nb) (.slice Ab kb cb)) bc (.bool nc) (.slice Ac kc cc) = y1 at *
    replace HB := Lib.hid (HB.out.trans (Below.mono hB HB.out.size))
    have Sa := Lib.hid (sa.below hB)
    replace Da := Lib.hid Pa
    have Sb := Lib.hid (sb.below hB)
    replace Db := Lib.hid Pb
    have Sc := Lib.hid (sc.below hB)
    replace Dc := Lib.hid Pc
    clear hb hG hB h0 h1 h2 hl0 hl1 hl2 hn0 hn1 hn2 X sa sb sc Pa Pb Pc ga gb gc nab nac nbc
    have h0 : b = 0 := hb ▸ hcase.out
    subst h0
    go_upto_region 4 with fail
    refine wp_region_calm 7 [6] ([fun vq wq => WV wq vq a,
        fun vq wq => WV wq vq 0,
        fun vq wq => ∃ u0, vq = .tuple #[u0, .int .i64 3] ∧ ZV wq u0 0,
        fun vq wq => ∃ u0, vq = .tuple #[u0, .int .i64 3] ∧ ZV wq u0 0,
        fun vq wq => ZV wq vq 0,
        fun vq _ => vq = .int .i64 3,
        fun vq wq => ∃ bq, vq = .pointer (some ⟨bq, 0, none⟩) ∧ Box2 wq bq 24 (.bool false) (.slice none 0 0) ∧ (y1).heap.size ≤ bq]) (by kernel_rfl) (by decide) ?hF ?steps ?fin
    case hF =>
      intro j hj v w h
      simp only [List.mem_cons, List.not_mem_nil, or_false] at hj
      subst hj
      all_goals (obtain ⟨b, rfl, hB, _⟩ := h; exact hB.lt)
    case steps =>
      refine AllOps.cons (Does.plain rfl fun lq aq wq hk hr K hK => ?_) ?_
      · have B3 : ev aq (.tmp 3) = .pointer (some ⟨ba, 0, none⟩) := hk.base 3 (by kernel_rfl) rfl
        have hb : Below _ _ _ := hk.ext
        exact wp_of_value (op_load 3 _ B3 (Box2.below Da.out hb)) (hK.out _ _ (Grows.refl _) (fun w2 h2 => ⟨_, _, _, _, rfl, (Sa.out.below hb).below h2⟩) (fun h => absurd h (by decide)))
      refine AllOps.cons (Does.plain rfl fun lq aq wq hk hr K hK => ?_) ?_
      · have B4 : ev aq (.tmp 4) = .pointer (some ⟨bb, 0, none⟩) := hk.base 4 (by kernel_rfl) rfl
        have hb : Below _ _ _ := hk.ext
        exact wp_of_value (op_load 4 _ B4 (Box2.below Db.out hb)) (hK.out _ _ (Grows.refl _) (fun w2 h2 => ⟨_, _, _, _, rfl, (Sb.out.below hb).below h2⟩) (fun h => absurd h (by decide)))
      refine AllOps.cons (Does.plain rfl fun lq aq wq hk hr K hK => ?_) ?_
      · obtain ⟨v0, E0, -, r0⟩ := hk.dep hr 0 30 (by kernel_rfl) (by kernel_rfl)
        have r0 : WV wq v0 a := r0 wq (Grows.refl wq)
        obtain ⟨v1, E1, -, r1⟩ := hk.dep hr 1 31 (by kernel_rfl) (by kernel_rfl)
        have r1 : WV wq v1 0 := r1 wq (Grows.refl wq)
        refine wp_of_call (f := 16) (vs := #[v0, v1]) (by go_simp) (div0_v wq r0 (r1)) ?_
        rintro e w1 ⟨u, rfl, hu, hb⟩
        exact ⟨u, rfl, hK.out _ _ hb (fun w2 h2 => (let ⟨u0, e0, h0⟩ := hu; ⟨u0, e0, (h0).grow h2⟩)) (fun h => absurd h (by decide))⟩
      refine AllOps.cons (Does.plain rfl fun lq aq wq hk hr K hK => ?_) ?_
      · obtain ⟨v2, E2, -, r2⟩ := hk.dep hr 2 32 (by kernel_rfl) (by kernel_rfl)
        have r2 : ∃ u0, v2 = .tuple #[u0, .int .i64 3] ∧ ZV wq u0 0 := r2 wq (Grows.refl wq)
        exact wp_of_value (by go_simp) (hK.out _ _ (Grows.refl _) (fun w2 h2 => (let ⟨u0, e0, h0⟩ := r2; ⟨u0, e0, (h0).grow h2⟩)) (fun h => absurd h (by decide)))
      refine AllOps.cons (Does.plain rfl fun lq aq wq hk hr K hK => ?_) ?_
      · obtain ⟨v3, E3, -, r3⟩ := hk.dep hr 3 29 (by kernel_rfl) (by kernel_rfl)
        have r3 : ∃ u0, v3 = .tuple #[u0, .int .i64 3] ∧ ZV wq u0 0 := r3 wq (Grows.refl wq)
        obtain ⟨u0, rfl, h0⟩ := r3
        exact wp_of_value (by go_simp) (hK.out _ _ (Grows.refl _) (fun w2 h2 => (h0).grow h2) (fun h => absurd h (by decide)))
      refine AllOps.cons (Does.plain rfl fun lq aq wq hk hr K hK => ?_) ?_
      · obtain ⟨v3, E3, -, r3⟩ := hk.dep hr 3 29 (by kernel_rfl) (by kernel_rfl)
        have r3 : ∃ u0, v3 = .tuple #[u0, .int .i64 3] ∧ ZV wq u0 0 := r3 wq (Grows.refl wq)
        obtain ⟨u0, rfl, h0⟩ := r3
        exact wp_of_value (by go_simp) (hK.out _ _ (Grows.refl _) (fun w2 h2 => rfl) (fun h => absurd h (by decide)))
      refine AllOps.cons (Does.plain rfl fun lq aq wq hk hr K hK => ?_) ?_
      · exact wp_of_value (by go_simp) (hK.out _ _ ((Grows.refl _).alloc _) (fun w2 h2 => ⟨_, rfl, (Box2.new wq 24 _ _).below h2, hk.ext.size⟩) (fun _ => Nat.le_refl _))
      exact AllOps.nil
    case fin =>
      intro V x2 hG hV hap
      have r4 : ZV x2 (V 4) 0 := hV 4 (by decide)
      have r5 : (V 5) = .int .i64 3 := hV 5 (by decide)
      have r6 : ∃ bq, (V 6) = .pointer (some ⟨bq, 0, none⟩) ∧ Box2 x2 bq 24 (.bool false) (.slice none 0 0) ∧ (y1).heap.size ≤ bq := hV 6 (by decide)
      clear hV
      simp only [List.take_succ_cons, List.take_zero, List.drop_succ_cons, List.drop_zero, putAll, Act.put, List.setIfInBounds_toArray, List.set_cons_zero, List.set_cons_succ]
      have hb := (show Below _ _ _ from hG)
      obtain ⟨bq, eq, Dq, gq⟩ := r6
      obtain ⟨nq, Aq, kq, cq, eq', sq⟩ := r4
      simp only [eq, eq', r5]
      clear eq eq' hap r5
      refine wpList_of_skip rfl (op_store 6 33 _ rfl rfl Dq) ?_
      have hB := put2_below (u := .bool nq) (v := .slice Aq kq cq) hb gq
      replace sq := sq.put Dq (.bool nq) (.slice Aq kq cq)
      replace Dq := put2_own (u := .bool nq) (v := .slice Aq kq cq) Dq
      clear hb
      generalize put2 x2 bq (.bool nq) (.slice Aq kq cq) = y3 at *
      replace Da := Lib.hid (Box2.below Da.out hB)
      replace Sa := Lib.hid (Sa.out.below hB)
      replace Db := Lib.hid (Box2.below Db.out hB)
      replace Sb := Lib.hid (Sb.out.below hB)
      replace Dc := Lib.hid (Box2.below Dc.out hB)
      replace Sc := Lib.hid (Sc.out.below hB)
      replace HB := Lib.hid (HB.out.trans (Below.mono hB HB.out.size))
      replace Dq := Lib.hid Dq
      have Sq := Lib.hid sq
      clear hG hB gq sq
      go_upto_region 5 with fail
      refine wp_region_calm 7 [6] ([fun vq wq => WV wq vq a,
          fun vq wq => WV wq vq 0,
          fun vq wq => ∃ u0, vq = .tuple #[u0, .int .i64 3] ∧ ZV wq u0 0,
          fun vq wq => ∃ u0, vq = .tuple #[u0, .int .i64 3] ∧ ZV wq u0 0,
          fun vq wq => ZV wq vq 0,
          fun vq _ => vq = .int .i64 3,
          fun vq wq => ∃ bq, vq = .pointer (some ⟨bq, 0, none⟩) ∧ Box2 wq bq 24 (.bool false) (.slice none 0 0) ∧ (y3).heap.size ≤ bq]) (by kernel_rfl) (by decide) ?hF ?steps ?fin
      case hF =>
        intro j hj v w h
        simp only [List.mem_cons, List.not_mem_nil, or_false] at hj
        subst hj
        all_goals (obtain ⟨b, rfl, hB, _⟩ := h; exact hB.lt)
      case steps =>
        refine AllOps.cons (Does.plain rfl fun lq aq wq hk hr K hK => ?_) ?_
        · have B3 : ev aq (.tmp 3) = .pointer (some ⟨ba, 0, none⟩) := hk.base 3 (by kernel_rfl) rfl
          have hb : Below _ _ _ := hk.ext
          exact wp_of_value (op_load 3 _ B3 (Box2.below Da.out hb)) (hK.out _ _ (Grows.refl _) (fun w2 h2 => ⟨_, _, _, _, rfl, (Sa.out.below hb).below h2⟩) (fun h => absurd h (by decide)))
        refine AllOps.cons (Does.plain rfl fun lq aq wq hk hr K hK => ?_) ?_
        · have B4 : ev aq (.tmp 4) = .pointer (some ⟨bb, 0, none⟩) := hk.base 4 (by kernel_rfl) rfl
          have hb : Below _ _ _ := hk.ext
          exact wp_of_value (op_load 4 _ B4 (Box2.below Db.out hb)) (hK.out _ _ (Grows.refl _) (fun w2 h2 => ⟨_, _, _, _, rfl, (Sb.out.below hb).below h2⟩) (fun h => absurd h (by decide)))
        refine AllOps.cons (Does.plain rfl fun lq aq wq hk hr K hK => ?_) ?_
        · obtain ⟨v0, E0, -, r0⟩ := hk.dep hr 0 36 (by kernel_rfl) (by kernel_rfl)
          have r0 : WV wq v0 a := r0 wq (Grows.refl wq)
          obtain ⟨v1, E1, -, r1⟩ := hk.dep hr 1 37 (by kernel_rfl) (by kernel_rfl)
          have r1 : WV wq v1 0 := r1 wq (Grows.refl wq)
          refine wp_of_call (f := 17) (vs := #[v0, v1]) (by go_simp) (mod0_v wq r0 (r1)) ?_
          rintro e w1 ⟨u, rfl, hu, hb⟩
          exact ⟨u, rfl, hK.out _ _ hb (fun w2 h2 => (let ⟨u0, e0, h0⟩ := hu; ⟨u0, e0, (h0).grow h2⟩)) (fun h => absurd h (by decide))⟩
        refine AllOps.cons (Does.plain rfl fun lq aq wq hk hr K hK => ?_) ?_
        · obtain ⟨v2, E2, -, r2⟩ := hk.dep hr 2 38 (by kernel_rfl) (by kernel_rfl)
          have r2 : ∃ u0, v2 = .tuple #[u0, .int .i64 3] ∧ ZV wq u0 0 := r2 wq (Grows.refl wq)
          exact wp_of_value (by go_simp) (hK.out _ _ (Grows.refl _) (fun w2 h2 => (let ⟨u0, e0, h0⟩ := r2; ⟨u0, e0, (h0).grow h2⟩)) (fun h => absurd h (by decide)))
        refine AllOps.cons (Does.plain rfl fun lq aq wq hk hr K hK => ?_) ?_
        · obtain ⟨v3, E3, -, r3⟩ := hk.dep hr 3 35 (by kernel_rfl) (by kernel_rfl)
          have r3 : ∃ u0, v3 = .tuple #[u0, .int .i64 3] ∧ ZV wq u0 0 := r3 wq (Grows.refl wq)
          obtain ⟨u0, rfl, h0⟩ := r3
          exact wp_of_value (by go_simp) (hK.out _ _ (Grows.refl _) (fun w2 h2 => (h0).grow h2) (fun h => absurd h (by decide)))
        refine AllOps.cons (Does.plain rfl fun lq aq wq hk hr K hK => ?_) ?_
        · obtain ⟨v3, E3, -, r3⟩ := hk.dep hr 3 35 (by kernel_rfl) (by kernel_rfl)
          have r3 : ∃ u0, v3 = .tuple #[u0, .int .i64 3] ∧ ZV wq u0 0 := r3 wq (Grows.refl wq)
          obtain ⟨u0, rfl, h0⟩ := r3
          exact wp_of_value (by go_simp) (hK.out _ _ (Grows.refl _) (fun w2 h2 => rfl) (fun h => absurd h (by decide)))
        refine AllOps.cons (Does.plain rfl fun lq aq wq hk hr K hK => ?_) ?_
        · exact wp_of_value (by go_simp) (hK.out _ _ ((Grows.refl _).alloc _) (fun w2 h2 => ⟨_, rfl, (Box2.new wq 24 _ _).below h2, hk.ext.size⟩) (fun _ => Nat.le_refl _))
        exact AllOps.nil
      case fin =>
        intro V x4 hG hV hap
        have r4 : ZV x4 (V 4) 0 := hV 4 (by decide)
        have r5 : (V 5) = .int .i64 3 := hV 5 (by decide)
        have r6 : ∃ bq, (V 6) = .pointer (some ⟨bq, 0, none⟩) ∧ Box2 x4 bq 24 (.bool false) (.slice none 0 0) ∧ (y3).heap.size ≤ bq := hV 6 (by decide)
        clear hV
        simp only [List.take_succ_cons, List.take_zero, List.drop_succ_cons, List.drop_zero, putAll, Act.put, List.setIfInBounds_toArray, List.set_cons_zero, List.set_cons_succ]
        have hb := (show Below _ _ _ from hG)
        obtain ⟨br, er, Dr, gr⟩ := r6
        obtain ⟨nr, Ar, kr, cr, er', sr⟩ := r4
        simp only [er, er', r5]
        clear er er' hap r5
        refine wpList_of_skip rfl (op_store 8 39 _ rfl rfl Dr) ?_
        have hB := put2_below (u := .bool nr) (v := .slice Ar kr cr) hb gr
        replace sr := sr.put Dr (.bool nr) (.slice Ar kr cr)
        replace Dr := put2_own (u := .bool nr) (v := .slice Ar kr cr) Dr
        clear hb
        generalize put2 x4 br (.bool nr) (.slice Ar kr cr) = y5 at *
        replace Da := Lib.hid (Box2.below Da.out hB)
        replace Sa := Lib.hid (Sa.out.below hB)
        replace Db := Lib.hid (Box2.below Db.out hB)
        replace Sb := Lib.hid (Sb.out.below hB)
        replace Dc := Lib.hid (Box2.below Dc.out hB)
        replace Sc := Lib.hid (Sc.out.below hB)
        replace Dq := Lib.hid (Box2.below Dq.out hB)
        replace Sq := Lib.hid (Sq.out.below hB)
        replace HB := Lib.hid (HB.out.trans (Below.mono hB HB.out.size))
        replace Dr := Lib.hid Dr
        have Sr := Lib.hid sr
        clear hG hB gr sr
        go_upto_region 6 with fail
        refine wp_region_calm 3 [] ([fun vq wq => WV wq vq 0,
            fun vq _ => vq = .int .i64 0,
            fun vq _ => vq = .bool true]) (by kernel_rfl) (by decide) ?hF ?steps ?fin
        case hF =>
          intro j hj; cases hj
        case steps =>
          refine AllOps.cons (Does.plain rfl fun lq aq wq hk hr K hK => ?_) ?_
          · have B4 : ev aq (.tmp 4) = .pointer (some ⟨bb, 0, none⟩) := hk.base 4 (by kernel_rfl) rfl
            have hb : Below _ _ _ := hk.ext
            exact wp_of_value (op_load 4 _ B4 (Box2.below Db.out hb)) (hK.out _ _ (Grows.refl _) (fun w2 h2 => ⟨_, _, _, _, rfl, (Sb.out.below hb).below h2⟩) (fun h => absurd h (by decide)))
          refine AllOps.cons (Does.plain rfl fun lq aq wq hk hr K hK => ?_) ?_
          · obtain ⟨v0, E0, -, r0⟩ := hk.dep hr 0 41 (by kernel_rfl) (by kernel_rfl)
            have r0 : WV wq v0 0 := r0 wq (Grows.refl wq)
            refine wp_of_call (f := 36) (vs := #[v0]) (by go_simp) (sign_v wq r0 (k := 0) rfl) ?_
            rintro e w1 ⟨u, rfl, hu, hb⟩
            exact ⟨u, rfl, hK.out _ _ hb (fun w2 h2 => hu) (fun h => absurd h (by decide))⟩
          refine AllOps.cons (Does.plain rfl fun lq aq wq hk hr K hK => ?_) ?_
          · obtain ⟨v1, E1, -, r1⟩ := hk.dep hr 1 42 (by kernel_rfl) (by kernel_rfl)
            replace E1 : ev aq (.tmp 42) = .int .i64 0 := E1.trans (r1 wq (Grows.refl wq))
            exact wp_of_value (by go_simp) (hK.out _ _ (Grows.refl _) (fun w2 h2 => rfl) (fun h => absurd h (by decide)))
          exact AllOps.nil
        case fin =>
          intro V x6 hG hV hap
          have r2 : (V 2) = .bool true := hV 2 (by decide)
          clear hV hap
          simp only [List.take_succ_cons, List.take_nil, List.drop_succ_cons, List.drop_nil, putAll, Act.put, List.setIfInBounds_toArray, List.set_cons_zero, List.set_cons_succ]
          have hb := (show Below _ _ _ from hG)
          replace Da := Lib.hid (Box2.below Da.out hb)
          replace Sa := Lib.hid (Sa.out.below hb)
          replace Db := Lib.hid (Box2.below Db.out hb)
          replace Sb := Lib.hid (Sb.out.below hb)
          replace Dc := Lib.hid (Box2.below Dc.out hb)
          replace Sc := Lib.hid (Sc.out.below hb)
          replace Dq := Lib.hid (Box2.below Dq.out hb)
          replace Sq := Lib.hid (Sq.out.below hb)
          replace Dr := Lib.hid (Box2.below Dr.out hb)
          replace Sr := Lib.hid (Sr.out.below hb)
          replace HB := Lib.hid (HB.out.trans (Below.mono hb HB.out.size))
          clear hb hG
          rw [r2]
          clear r2
          go_upto_region 7 with fail
          refine wp_region_calm 17 [] ([fun vq _ => vq = .int .i64 3,
              fun vq _ => vq = .bool true,
              fun vq _ => vq = .bool true,
              fun vq _ => vq = .int .i64 3,
              fun vq _ => vq = .bool true,
              fun vq _ => vq = .bool true,
              fun vq _ => vq = .bool true,
              fun vq wq => ZV wq vq 0,
              fun vq wq => ZV wq vq 0,
              fun vq _ => vq = .bool true,
              fun vq _ => vq = .bool true,
              fun vq _ => vq = .bool true,
              fun vq wq => ZV wq vq 0,
              fun vq wq => ZV wq vq 0,
              fun vq _ => vq = .bool true,
              fun vq _ => vq = .bool true,
              fun vq _ => vq = .bool true]) (by kernel_rfl) (by decide) ?hF ?steps ?fin
          case hF =>
            intro j hj; cases hj
          case steps =>
            refine AllOps.cons (Does.plain rfl fun lq aq wq hk hr K hK => ?_) ?_
            · have B7 : ev aq (.tmp 7) = .int .i64 3 := hk.base 7 (by kernel_rfl) rfl
              exact wp_of_value (by go_simp) (hK.out _ _ (Grows.refl _) (fun w2 h2 => rfl) (fun h => absurd h (by decide)))
            refine AllOps.cons (Does.plain rfl fun lq aq wq hk hr K hK => ?_) ?_
            · obtain ⟨v0, E0, -, r0⟩ := hk.dep hr 0 44 (by kernel_rfl) (by kernel_rfl)
              replace E0 : ev aq (.tmp 44) = .int .i64 3 := E0.trans (r0 wq (Grows.refl wq))
              exact wp_of_value (by go_simp) (hK.out _ _ (Grows.refl _) (fun w2 h2 => rfl) (fun h => absurd h (by decide)))
            refine AllOps.cons (Does.plain rfl fun lq aq wq hk hr K hK => ?_) ?_
            · obtain ⟨v1, E1, -, r1⟩ := hk.dep hr 1 45 (by kernel_rfl) (by kernel_rfl)
              replace E1 : ev aq (.tmp 45) = .bool true := E1.trans (r1 wq (Grows.refl wq))
              exact wp_of_value (by go_simp) (hK.out _ _ (Grows.refl _) (fun w2 h2 => rfl) (fun h => absurd h (by decide)))
            refine AllOps.cons (Does.lets (g := 2) (d := 46) (t := true) rfl (by kernel_rfl) (by kernel_rfl) (fun vq wq h => h wq (Grows.refl wq)) fun lq aq wq hk hr K hK => ?_) ?_
            · have B9 : ev aq (.tmp 9) = .int .i64 3 := hk.base 9 (by kernel_rfl) rfl
              exact wp_of_value (by go_simp) (hK.out _ _ (Grows.refl _) (fun w2 h2 => rfl) (fun h => absurd h (by decide)))
            refine AllOps.cons (Does.lets (g := 2) (d := 46) (t := true) rfl (by kernel_rfl) (by kernel_rfl) (fun vq wq h => h wq (Grows.refl wq)) fun lq aq wq hk hr K hK => ?_) ?_
            · obtain ⟨v3, E3, -, r3⟩ := hk.dep hr 3 47 (by kernel_rfl) (by kernel_rfl)
              replace E3 : ev aq (.tmp 47) = .int .i64 3 := E3.trans (r3 wq (Grows.refl wq))
              exact wp_of_value (by go_simp) (hK.out _ _ (Grows.refl _) (fun w2 h2 => rfl) (fun h => absurd h (by decide)))
            refine AllOps.cons (Does.plain rfl fun lq aq wq hk hr K hK => ?_) ?_
            · obtain ⟨v2, E2, -, r2⟩ := hk.dep hr 2 46 (by kernel_rfl) (by kernel_rfl)
              replace E2 : ev aq (.tmp 46) = .bool true := E2.trans (r2 wq (Grows.refl wq))
              obtain ⟨v4, E4, -, r4⟩ := hk.dep hr 4 48 (by kernel_rfl) (by kernel_rfl)
              replace E4 : ev aq (.tmp 48) = .bool true := E4.trans (r4 wq (Grows.refl wq))
              exact wp_of_value (by go_simp) (hK.out _ _ (Grows.refl _) (fun w2 h2 => rfl) (fun h => absurd h (by decide)))
            refine AllOps.cons (Does.plain rfl fun lq aq wq hk hr K hK => ?_) ?_
            · obtain ⟨v5, E5, -, r5⟩ := hk.dep hr 5 49 (by kernel_rfl) (by kernel_rfl)
              replace E5 : ev aq (.tmp 49) = .bool true := E5.trans (r5 wq (Grows.refl wq))
              exact wp_of_value (by go_simp) (hK.out _ _ (Grows.refl _) (fun w2 h2 => rfl) (fun h => absurd h (by decide)))
            refine AllOps.cons (Does.lets (g := 6) (d := 50) (t := true) rfl (by kernel_rfl) (by kernel_rfl) (fun vq wq h => h wq (Grows.refl wq)) fun lq aq wq hk hr K hK => ?_) ?_
            · have B6 : ev aq (.tmp 6) = .pointer (some ⟨bq, 0, none⟩) := hk.base 6 (by kernel_rfl) rfl
              have hb : Below _ _ _ := hk.ext
              exact wp_of_value (op_load 6 _ B6 (Box2.below Dq.out hb)) (hK.out _ _ (Grows.refl _) (fun w2 h2 => ⟨_, _, _, _, rfl, (Sq.out.below hb).below h2⟩) (fun h => absurd h (by decide)))
            refine AllOps.cons (Does.lets (g := 6) (d := 50) (t := true) rfl (by kernel_rfl) (by kernel_rfl) (fun vq wq h => h wq (Grows.refl wq)) fun lq aq wq hk hr K hK => ?_) ?_
            · exact wp_of_value (by go_simp) (hK.out _ _ (Grows.refl _) (fun w2 h2 => (ZV.zero _ 0).grow h2) (fun h => absurd h (by decide)))
            refine AllOps.cons (Does.lets (g := 6) (d := 50) (t := true) rfl (by kernel_rfl) (by kernel_rfl) (fun vq wq h => h wq (Grows.refl wq)) fun lq aq wq hk hr K hK => ?_) ?_
            · obtain ⟨v7, E7, -, r7⟩ := hk.dep hr 7 51 (by kernel_rfl) (by kernel_rfl)
              have r7 : ZV wq v7 0 := r7 wq (Grows.refl wq)
              obtain ⟨v8, E8, -, r8⟩ := hk.dep hr 8 52 (by kernel_rfl) (by kernel_rfl)
              have r8 : ZV wq v8 0 := r8 wq (Grows.refl wq)
              refine wp_of_call (f := 26) (vs := #[v7, v8]) (by go_simp) (same_v wq r7 r8 (t := true) (decide_eq_true rfl)) ?_
              rintro e w1 ⟨u, rfl, hu, hb⟩
              exact ⟨u, rfl, hK.out _ _ hb (fun w2 h2 => hu) (fun h => absurd h (by decide))⟩
            refine AllOps.cons (Does.plain rfl fun lq aq wq hk hr K hK => ?_) ?_
            · obtain ⟨v6, E6, -, r6⟩ := hk.dep hr 6 50 (by kernel_rfl) (by kernel_rfl)
              replace E6 : ev aq (.tmp 50) = .bool true := E6.trans (r6 wq (Grows.refl wq))
              obtain ⟨v9, E9, -, r9⟩ := hk.dep hr 9 53 (by kernel_rfl) (by kernel_rfl)
              replace E9 : ev aq (.tmp 53) = .bool true := E9.trans (r9 wq (Grows.refl wq))
              exact wp_of_value (by go_simp) (hK.out _ _ (Grows.refl _) (fun w2 h2 => rfl) (fun h => absurd h (by decide)))
            refine AllOps.cons (Does.plain rfl fun lq aq wq hk hr K hK => ?_) ?_
            · obtain ⟨v10, E10, -, r10⟩ := hk.dep hr 10 54 (by kernel_rfl) (by kernel_rfl)
              replace E10 : ev aq (.tmp 54) = .bool true := E10.trans (r10 wq (Grows.refl wq))
              exact wp_of_value (by go_simp) (hK.out _ _ (Grows.refl _) (fun w2 h2 => rfl) (fun h => absurd h (by decide)))
            refine AllOps.cons (Does.lets (g := 11) (d := 55) (t := true) rfl (by kernel_rfl) (by kernel_rfl) (fun vq wq h => h wq (Grows.refl wq)) fun lq aq wq hk hr K hK => ?_) ?_
            · have B8 : ev aq (.tmp 8) = .pointer (some ⟨br, 0, none⟩) := hk.base 8 (by kernel_rfl) rfl
              have hb : Below _ _ _ := hk.ext
              exact wp_of_value (op_load 8 _ B8 (Box2.below Dr.out hb)) (hK.out _ _ (Grows.refl _) (fun w2 h2 => ⟨_, _, _, _, rfl, (Sr.out.below hb).below h2⟩) (fun h => absurd h (by decide)))
            refine AllOps.cons (Does.lets (g := 11) (d := 55) (t := true) rfl (by kernel_rfl) (by kernel_rfl) (fun vq wq h => h wq (Grows.refl wq)) fun lq aq wq hk hr K hK => ?_) ?_
            · exact wp_of_value (by go_simp) (hK.out _ _ (Grows.refl _) (fun w2 h2 => (ZV.zero _ 0).grow h2) (fun h => absurd h (by decide)))
            refine AllOps.cons (Does.lets (g := 11) (d := 55) (t := true) rfl (by kernel_rfl) (by kernel_rfl) (fun vq wq h => h wq (Grows.refl wq)) fun lq aq wq hk hr K hK => ?_) ?_
            · obtain ⟨v12, E12, -, r12⟩ := hk.dep hr 12 56 (by kernel_rfl) (by kernel_rfl)
              have r12 : ZV wq v12 0 := r12 wq (Grows.refl wq)
              obtain ⟨v13, E13, -, r13⟩ := hk.dep hr 13 57 (by kernel_rfl) (by kernel_rfl)
              have r13 : ZV wq v13 0 := r13 wq (Grows.refl wq)
              refine wp_of_call (f := 26) (vs := #[v12, v13]) (by go_simp) (same_v wq r12 r13 (t := true) (decide_eq_true rfl)) ?_
              rintro e w1 ⟨u, rfl, hu, hb⟩
              exact ⟨u, rfl, hK.out _ _ hb (fun w2 h2 => hu) (fun h => absurd h (by decide))⟩
            refine AllOps.cons (Does.plain rfl fun lq aq wq hk hr K hK => ?_) ?_
            · obtain ⟨v11, E11, -, r11⟩ := hk.dep hr 11 55 (by kernel_rfl) (by kernel_rfl)
              replace E11 : ev aq (.tmp 55) = .bool true := E11.trans (r11 wq (Grows.refl wq))
              obtain ⟨v14, E14, -, r14⟩ := hk.dep hr 14 58 (by kernel_rfl) (by kernel_rfl)
              replace E14 : ev aq (.tmp 58) = .bool true := E14.trans (r14 wq (Grows.refl wq))
              exact wp_of_value (by go_simp) (hK.out _ _ (Grows.refl _) (fun w2 h2 => rfl) (fun h => absurd h (by decide)))
            refine AllOps.cons (Does.plain rfl fun lq aq wq hk hr K hK => ?_) ?_
            · obtain ⟨v15, E15, -, r15⟩ := hk.dep hr 15 59 (by kernel_rfl) (by kernel_rfl)
              replace E15 : ev aq (.tmp 59) = .bool true := E15.trans (r15 wq (Grows.refl wq))
              exact wp_of_value (by go_simp) (hK.out _ _ (Grows.refl _) (fun w2 h2 => rfl) (fun h => absurd h (by decide)))
            exact AllOps.nil
          case fin =>
            intro V x7 hG hV hap
            have r16 : (V 16) = .bool true := hV 16 (by decide)
            clear hV hap
            simp only [List.take_succ_cons, List.take_nil, List.drop_succ_cons, List.drop_nil, putAll, Act.put, List.setIfInBounds_toArray, List.set_cons_zero, List.set_cons_succ]
            have hb := (show Below _ _ _ from hG)
            replace Da := Lib.hid (Box2.below Da.out hb)
            replace Sa := Lib.hid (Sa.out.below hb)
            replace Db := Lib.hid (Box2.below Db.out hb)
            replace Sb := Lib.hid (Sb.out.below hb)
            replace Dc := Lib.hid (Box2.below Dc.out hb)
            replace Sc := Lib.hid (Sc.out.below hb)
            replace Dq := Lib.hid (Box2.below Dq.out hb)
            replace Sq := Lib.hid (Sq.out.below hb)
            replace Dr := Lib.hid (Box2.below Dr.out hb)
            replace Sr := Lib.hid (Sr.out.below hb)
            replace HB := Lib.hid (HB.out.trans (Below.mono hb HB.out.size))
            clear hb hG
            rw [r16]
            go_wp2_with fail
            go_ret
            exact ⟨rfl, HB.out⟩
end Go.Proofs.YtmajcjdhhnhmmaaDoor
