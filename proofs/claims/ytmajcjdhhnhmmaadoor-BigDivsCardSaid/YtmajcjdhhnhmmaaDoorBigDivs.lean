import Derived.Test.YtmajcjdhhnhmmaaDoorBox4
/- litmuslaw02.BigDivs returns true. -/
namespace Go.Proofs.YtmajcjdhhnhmmaaDoor
open Go.RowKit Go.Num Go.Kp
attribute [local go_sem] Oper.semAt_some u64_mask ev_const ev_func ev_global
set_option maxHeartbeats 16000000 in
set_option maxRecDepth 100000 in
theorem bigDivs_any (w : World) (n0 : Bool) (m0 : Value) (l0 : List Nat) (n1 : Bool) (m1 : Value) (l1 : List Nat) (x : Int) (h0 : Arg encU w m0 l0) (hl0 : Lim l0) (hn0 : l0.length ≤ 9223372036854775807) (h1 : Arg encU w m1 l1) (hl1 : Lim l1) (hn1 : l1.length ≤ 9223372036854775807) (hx1 : -128 ≤ x) (hx2 : x ≤ 127) :
    Calls Tryd.prog 3 #[.agg #[.bool n0, m0], .agg #[.bool n1, m1], .int .i8 x] w fun e w' => e = .returned (.bool true) ∧ Below w.heap.size w w' := by
  go_enter Tryd.func3, Tryd.ntmps3
  have h0q := h0
  obtain ⟨A0, d0, rfl, _, _⟩ := h0q.open_
  clear h0q
  have h1q := h1
  obtain ⟨A1, d1, rfl, _, _⟩ := h1q.open_
  clear h1q
  obtain ⟨a, ha⟩ : ∃ z, sg n0 (val (l0.take 12)) = z := ⟨_, rfl⟩
  have hka : szz a ≤ 12 := ha ▸ few_szz n0 12 hl0
  obtain ⟨b, hb⟩ : ∃ z, sg n1 (val (l1.take 12)) = z := ⟨_, rfl⟩
  have hkb : szz b ≤ 12 := hb ▸ few_szz n1 12 hl1
  have HB0 : Hid (Below w.heap.size w ((w.alloc (.cells #[.bool n0, (.slice A0 l0.length d0)] 24)).alloc (.cells #[.bool n1, (.slice A1 l1.length d1)] 24))) := Lib.hid (((Below.refl _ w).alloc (Nat.le_refl _) _).alloc (by simp) _)
  have DA0 := Lib.hid ((Box2.new w 24 (.bool n0) (.slice A0 l0.length d0)).alloc (.cells #[.bool n1, (.slice A1 l1.length d1)] 24))
  have DB0 : Hid (Box2 ((w.alloc (.cells #[.bool n0, (.slice A0 l0.length d0)] 24)).alloc (.cells #[.bool n1, (.slice A1 l1.length d1)] 24)) (w.heap.size + 1) 24 (.bool n1) (.slice A1 l1.length d1)) := Lib.hid (by have := Box2.new (w.alloc (.cells #[.bool n0, (.slice A0 l0.length d0)] 24)) 24 (.bool n1) (.slice A1 l1.length d1); rwa [World.size_alloc] at this)
  go_upto_region 1 with fail
  generalize ((w.alloc (.cells #[.bool n0, (.slice A0 l0.length d0)] 24)).alloc (.cells #[.bool n1, (.slice A1 l1.length d1)] 24)) = x0 at *
  have HB := HB0
  have DA := DA0
  have DB := DB0
  clear HB0 DA0 DB0
  replace h0 := h0.below HB.out
  replace h1 := h1.below HB.out
  refine wp_region_going 4 [] ([fun vq _ => vq = .agg #[.bool n0, .slice A0 l0.length d0],
      fun vq wq => WV x0 vq a,
      fun vq _ => vq = .agg #[.bool n1, .slice A1 l1.length d1],
      fun vq wq => WV x0 vq b]) (by kernel_rfl) (by kernel_rfl) (by decide) (by kernel_rfl) (by kernel_rfl) ?hF ?steps ?fin
  case hF =>
    intro j hj; cases hj
  case steps =>
    refine AllOps.cons (Does.plain rfl fun lq aq wq hk hr K hK => ?_) ?_
    · have B3 : ev aq (.tmp 3) = .pointer (some ⟨w.heap.size, 0, none⟩) := hk.base 3 (by kernel_rfl) rfl
      have hb := grows_of hk.ext
      have c0 := (Box2.below DA.out hb).c0
      have c1 := (Box2.below DA.out hb).c1
      exact wp_of_value (by go_simp) (hK.out _ _ (Grows.refl _) (fun w2 h2 => rfl) (fun h => absurd h (by decide)))
    refine AllOps.cons (Does.plain rfl fun lq aq wq hk hr K hK => ?_) ?_
    · obtain ⟨v0, E0, -, r0⟩ := hk.dep hr 0 17 (by kernel_rfl) (by kernel_rfl)
      replace E0 : ev aq (.tmp 17) = .agg #[.bool n0, .slice A0 l0.length d0] := E0.trans (r0 wq (Grows.refl wq))
      refine wp_of_call (f := 13) (vs := #[.agg #[.bool n0, .slice A0 l0.length d0], .int .i64 12]) (by go_simp) (few_v x0 wq 12 (h0) hl0 hn0 (by decide) ha) ?_
      rintro e w1 ⟨u, rfl, hu, hb⟩
      exact ⟨u, rfl, hK.out _ _ hb (fun w2 h2 => hu) (fun h => absurd h (by decide))⟩
    refine AllOps.cons (Does.plain rfl fun lq aq wq hk hr K hK => ?_) ?_
    · have B4 : ev aq (.tmp 4) = .pointer (some ⟨w.heap.size + 1, 0, none⟩) := hk.base 4 (by kernel_rfl) rfl
      have hb := grows_of hk.ext
      have c0 := (Box2.below DB.out hb).c0
      have c1 := (Box2.below DB.out hb).c1
      exact wp_of_value (by go_simp) (hK.out _ _ (Grows.refl _) (fun w2 h2 => rfl) (fun h => absurd h (by decide)))
    refine AllOps.cons (Does.plain rfl fun lq aq wq hk hr K hK => ?_) ?_
    · obtain ⟨v2, E2, -, r2⟩ := hk.dep hr 2 19 (by kernel_rfl) (by kernel_rfl)
      replace E2 : ev aq (.tmp 19) = .agg #[.bool n1, .slice A1 l1.length d1] := E2.trans (r2 wq (Grows.refl wq))
      refine wp_of_call (f := 13) (vs := #[.agg #[.bool n1, .slice A1 l1.length d1], .int .i64 12]) (by go_simp) (few_v x0 wq 12 (h1) hl1 hn1 (by decide) hb) ?_
      rintro e w1 ⟨u, rfl, hu, hb⟩
      exact ⟨u, rfl, hK.out _ _ hb (fun w2 h2 => hu) (fun h => absurd h (by decide))⟩
    exact AllOps.nil
  case fin =>
    intro V x1 hG hV hap
    have r1 : WV x0 (V 1) a := hV 1 (by decide)
    have r3 : WV x0 (V 3) b := hV 3 (by decide)
    clear hV hap
    simp only [List.take_succ_cons, List.take_zero, List.drop_succ_cons, List.drop_zero, putAll, Act.put, List.setIfInBounds_toArray, List.set_cons_zero, List.set_cons_succ]
    have hb := grows_of hG
    obtain ⟨na, Aa, ka, ca, ea', sa⟩ := r1
    obtain ⟨nb, Ab, kb, cb, eb', sb⟩ := r3
    simp only [ea', eb']
    clear ea' eb'
    replace DA := Box2.below DA.out hb
    replace DB := Box2.below DB.out hb
    replace sa := sa.below hb
    replace sb := sb.below hb
    replace HB := HB.out.trans (Below.mono hb HB.out.size)
    clear hb hG h0 h1 hl0 hl1 hn0 hn1
    refine wpList_of_skip rfl (op_store 3 18 _ rfl rfl DA) ?_
    refine wpList_of_skip rfl (op_store 4 20 _ rfl rfl (put2_far DB (Nat.succ_ne_self _))) ?_
    have PA := put2_own (u := .bool na) (v := .slice Aa ka ca) DA
    have PB := put2_own (u := .bool nb) (v := .slice Ab kb cb) (put2_far (u := .bool na) (v := .slice Aa ka ca) DB (Nat.succ_ne_self _))
    have QA := put2_far (u := .bool nb) (v := .slice Ab kb cb) PA (show w.heap.size ≠ w.heap.size + 1 by omega)
    have Sa := Lib.hid ((sa.put DA (.bool na) (.slice Aa ka ca)).put (put2_far (u := .bool na) (v := .slice Aa ka ca) DB (Nat.succ_ne_self _)) (.bool nb) (.slice Ab kb cb))
    have Sb := Lib.hid ((sb.put DA (.bool na) (.slice Aa ka ca)).put (put2_far (u := .bool na) (v := .slice Aa ka ca) DB (Nat.succ_ne_self _)) (.bool nb) (.slice Ab kb cb))
    replace HB := Lib.hid (put2_below (u := .bool nb) (v := .slice Ab kb cb) (put2_below (u := .bool na) (v := .slice Aa ka ca) HB (Nat.le_refl _)) (Nat.le_succ _))
    clear DA DB PA sa sb
    generalize put2 (put2 x1 w.heap.size (.bool na) (.slice Aa ka ca)) (w.heap.size + 1) (.bool nb) (.slice Ab kb cb) = y1 at *
    have Da := Lib.hid QA
    have Db := Lib.hid PB
    clear QA PB
    go_upto_region 2 with fail
    refine wp_region_going 15 [] ([fun vq wq => WV wq vq a,
        fun vq wq => WV wq vq b,
        fun vq wq => PairV wq vq a b,
        fun vq wq => WV wq vq a,
        fun vq _ => vq = .int .i8 x,
        fun vq _ => vq = .int .i64 x,
        fun vq wq => ZV wq vq x,
        fun vq wq => PairV wq vq a x,
        fun vq wq => WV wq vq a,
        fun vq wq => WV wq vq b,
        fun vq wq => ZV wq vq ((a * b)),
        fun vq wq => WV wq vq b,
        fun vq wq => PairV wq vq ((a * b)) b,
        fun vq wq => TripV wq vq a b a x ((a * b)) b,
        fun vq _ => vq = .int .i64 0]) (by kernel_rfl) (by kernel_rfl) (by decide) (by kernel_rfl) (by kernel_rfl) ?hF ?steps ?fin
    case hF =>
      intro j hj; cases hj
    case steps =>
      refine AllOps.cons (Does.plain rfl fun lq aq wq hk hr K hK => ?_) ?_
      · have B3 : ev aq (.tmp 3) = .pointer (some ⟨w.heap.size, 0, none⟩) := hk.base 3 (by kernel_rfl) rfl
        have hb := grows_of hk.ext
        exact wp_of_value (op_load 3 _ B3 (Box2.below Da.out hb)) (hK.out _ _ (Grows.refl _) (fun w2 h2 => ⟨_, _, _, _, rfl, (Sa.out.below hb).below h2⟩) (fun h => absurd h (by decide)))
      refine AllOps.cons (Does.plain rfl fun lq aq wq hk hr K hK => ?_) ?_
      · have B4 : ev aq (.tmp 4) = .pointer (some ⟨w.heap.size + 1, 0, none⟩) := hk.base 4 (by kernel_rfl) rfl
        have hb := grows_of hk.ext
        exact wp_of_value (op_load 4 _ B4 (Box2.below Db.out hb)) (hK.out _ _ (Grows.refl _) (fun w2 h2 => ⟨_, _, _, _, rfl, (Sb.out.below hb).below h2⟩) (fun h => absurd h (by decide)))
      refine AllOps.cons (Does.plain rfl fun lq aq wq hk hr K hK => ?_) ?_
      · obtain ⟨v0, E0, -, r0⟩ := hk.dep hr 0 21 (by kernel_rfl) (by kernel_rfl)
        have r0 : WV wq v0 a := r0 wq (Grows.refl wq)
        obtain ⟨n0, A0, k0, c0, rfl, s0⟩ := r0
        obtain ⟨v1, E1, -, r1⟩ := hk.dep hr 1 22 (by kernel_rfl) (by kernel_rfl)
        have r1 : WV wq v1 b := r1 wq (Grows.refl wq)
        obtain ⟨n1, A1, k1, c1, rfl, s1⟩ := r1
        exact wp_of_value (op_pair 21 22 E0 E1) (hK.out _ _ (Grows.refl _) (fun w2 h2 => PairV.grow ⟨_, _, _, _, _, _, _, _, rfl, s0, s1⟩ h2) (fun h => absurd h (by decide)))
      refine AllOps.cons (Does.plain rfl fun lq aq wq hk hr K hK => ?_) ?_
      · have B3 : ev aq (.tmp 3) = .pointer (some ⟨w.heap.size, 0, none⟩) := hk.base 3 (by kernel_rfl) rfl
        have hb := grows_of hk.ext
        exact wp_of_value (op_load 3 _ B3 (Box2.below Da.out hb)) (hK.out _ _ (Grows.refl _) (fun w2 h2 => ⟨_, _, _, _, rfl, (Sa.out.below hb).below h2⟩) (fun h => absurd h (by decide)))
      refine AllOps.cons (Does.plain rfl fun lq aq wq hk hr K hK => ?_) ?_
      · have B2 : ev aq (.tmp 2) = .int .i8 x := hk.base 2 (by kernel_rfl) rfl
        exact wp_of_value (by go_simp) (hK.out _ _ (Grows.refl _) (fun w2 h2 => rfl) (fun h => absurd h (by decide)))
      refine AllOps.cons (Does.plain rfl fun lq aq wq hk hr K hK => ?_) ?_
      · obtain ⟨v4, E4, -, r4⟩ := hk.dep hr 4 25 (by kernel_rfl) (by kernel_rfl)
        replace E4 : ev aq (.tmp 25) = .int .i8 x := E4.trans (r4 wq (Grows.refl wq))
        exact wp_of_value (by go_simp; rw [IntKind.wrap_i64]; omega) (hK.out _ _ (Grows.refl _) (fun w2 h2 => rfl) (fun h => absurd h (by decide)))
      refine AllOps.cons (Does.plain rfl fun lq aq wq hk hr K hK => ?_) ?_
      · obtain ⟨v5, E5, -, r5⟩ := hk.dep hr 5 26 (by kernel_rfl) (by kernel_rfl)
        replace E5 : ev aq (.tmp 26) = .int .i64 x := E5.trans (r5 wq (Grows.refl wq))
        refine wp_of_call (f := 14) (vs := #[.int .i64 x]) (by go_simp) (rfrom_v wq x (by omega) (by omega)) ?_
        rintro e w1 ⟨u, rfl, hu, hb⟩
        exact ⟨u, rfl, hK.out _ _ hb (fun w2 h2 => (hu).grow h2) (fun h => absurd h (by decide))⟩
      refine AllOps.cons (Does.plain rfl fun lq aq wq hk hr K hK => ?_) ?_
      · obtain ⟨v3, E3, -, r3⟩ := hk.dep hr 3 24 (by kernel_rfl) (by kernel_rfl)
        have r3 : WV wq v3 a := r3 wq (Grows.refl wq)
        obtain ⟨n3, A3, k3, c3, rfl, s3⟩ := r3
        obtain ⟨v6, E6, -, r6⟩ := hk.dep hr 6 27 (by kernel_rfl) (by kernel_rfl)
        have r6 : ZV wq v6 x := r6 wq (Grows.refl wq)
        obtain ⟨n6, A6, k6, c6, rfl, s6⟩ := r6
        exact wp_of_value (op_pair 24 27 E3 E6) (hK.out _ _ (Grows.refl _) (fun w2 h2 => PairV.grow ⟨_, _, _, _, _, _, _, _, rfl, s3, s6.whole⟩ h2) (fun h => absurd h (by decide)))
      refine AllOps.cons (Does.plain rfl fun lq aq wq hk hr K hK => ?_) ?_
      · have B3 : ev aq (.tmp 3) = .pointer (some ⟨w.heap.size, 0, none⟩) := hk.base 3 (by kernel_rfl) rfl
        have hb := grows_of hk.ext
        exact wp_of_value (op_load 3 _ B3 (Box2.below Da.out hb)) (hK.out _ _ (Grows.refl _) (fun w2 h2 => ⟨_, _, _, _, rfl, (Sa.out.below hb).below h2⟩) (fun h => absurd h (by decide)))
      refine AllOps.cons (Does.plain rfl fun lq aq wq hk hr K hK => ?_) ?_
      · have B4 : ev aq (.tmp 4) = .pointer (some ⟨w.heap.size + 1, 0, none⟩) := hk.base 4 (by kernel_rfl) rfl
        have hb := grows_of hk.ext
        exact wp_of_value (op_load 4 _ B4 (Box2.below Db.out hb)) (hK.out _ _ (Grows.refl _) (fun w2 h2 => ⟨_, _, _, _, rfl, (Sb.out.below hb).below h2⟩) (fun h => absurd h (by decide)))
      refine AllOps.cons (Does.plain rfl fun lq aq wq hk hr K hK => ?_) ?_
      · obtain ⟨v8, E8, -, r8⟩ := hk.dep hr 8 29 (by kernel_rfl) (by kernel_rfl)
        have r8 : WV wq v8 a := r8 wq (Grows.refl wq)
        obtain ⟨v9, E9, -, r9⟩ := hk.dep hr 9 30 (by kernel_rfl) (by kernel_rfl)
        have r9 : WV wq v9 b := r9 wq (Grows.refl wq)
        refine wp_of_call (f := 15) (vs := #[v8, v9]) (by go_simp) (rmul_v wq r8 r9 (Nat.le_trans (szz_mul hka hkb) (by decide))) ?_
        rintro e w1 ⟨u, rfl, hu, hb⟩
        exact ⟨u, rfl, hK.out _ _ hb (fun w2 h2 => (hu).grow h2) (fun h => absurd h (by decide))⟩
      refine AllOps.cons (Does.plain rfl fun lq aq wq hk hr K hK => ?_) ?_
      · have B4 : ev aq (.tmp 4) = .pointer (some ⟨w.heap.size + 1, 0, none⟩) := hk.base 4 (by kernel_rfl) rfl
        have hb := grows_of hk.ext
        exact wp_of_value (op_load 4 _ B4 (Box2.below Db.out hb)) (hK.out _ _ (Grows.refl _) (fun w2 h2 => ⟨_, _, _, _, rfl, (Sb.out.below hb).below h2⟩) (fun h => absurd h (by decide)))
      refine AllOps.cons (Does.plain rfl fun lq aq wq hk hr K hK => ?_) ?_
      · obtain ⟨v10, E10, -, r10⟩ := hk.dep hr 10 31 (by kernel_rfl) (by kernel_rfl)
        have r10 : ZV wq v10 ((a * b)) := r10 wq (Grows.refl wq)
        obtain ⟨n10, A10, k10, c10, rfl, s10⟩ := r10
        obtain ⟨v11, E11, -, r11⟩ := hk.dep hr 11 32 (by kernel_rfl) (by kernel_rfl)
        have r11 : WV wq v11 b := r11 wq (Grows.refl wq)
        obtain ⟨n11, A11, k11, c11, rfl, s11⟩ := r11
        exact wp_of_value (op_pair 31 32 E10 E11) (hK.out _ _ (Grows.refl _) (fun w2 h2 => PairV.grow ⟨_, _, _, _, _, _, _, _, rfl, s10.whole, s11⟩ h2) (fun h => absurd h (by decide)))
      refine AllOps.cons (Does.plain rfl fun lq aq wq hk hr K hK => ?_) ?_
      · obtain ⟨v2, E2, -, r2⟩ := hk.dep hr 2 23 (by kernel_rfl) (by kernel_rfl)
        have r2 : PairV wq v2 a b := r2 wq (Grows.refl wq)
        obtain ⟨n2, A2, k2, c2, n2', A2', k2', c2', rfl, s2, s2'⟩ := r2
        obtain ⟨v7, E7, -, r7⟩ := hk.dep hr 7 28 (by kernel_rfl) (by kernel_rfl)
        have r7 : PairV wq v7 a x := r7 wq (Grows.refl wq)
        obtain ⟨n7, A7, k7, c7, n7', A7', k7', c7', rfl, s7, s7'⟩ := r7
        obtain ⟨v12, E12, -, r12⟩ := hk.dep hr 12 33 (by kernel_rfl) (by kernel_rfl)
        have r12 : PairV wq v12 ((a * b)) b := r12 wq (Grows.refl wq)
        obtain ⟨n12, A12, k12, c12, n12', A12', k12', c12', rfl, s12, s12'⟩ := r12
        exact wp_of_value (op_trip 23 28 33 E2 E7 E12) (hK.out _ _ (Grows.refl _) (fun w2 h2 => TripV.grow ⟨_, _, _, _, _, _, _, _, _, _, _, _, _, _, _, _, _, _, _, _, _, _, _, _, rfl, s2, s2', s7, s7', s12, s12'⟩ h2) (fun h => absurd h (by decide)))
      refine AllOps.cons (Does.plain rfl fun lq aq wq hk hr K hK => ?_) ?_
      · exact wp_of_value (by go_simp) (hK.out _ _ (Grows.refl _) (fun w2 h2 => rfl) (fun h => absurd h (by decide)))
      exact AllOps.nil
    case fin =>
      intro V x2 hG hV hap
      have r13 : TripV x2 (V 13) a b a x ((a * b)) b := hV 13 (by decide)
      have r14 : (V 14) = .int .i64 0 := hV 14 (by decide)
      clear hV hap
      simp only [List.take_succ_cons, List.take_nil, List.drop_succ_cons, List.drop_nil, putAll, Act.put, List.setIfInBounds_toArray, List.set_cons_zero, List.set_cons_succ]
      have hb := grows_of hG
      replace Da := Lib.hid (Box2.below Da.out hb)
      replace Sa := Lib.hid (Sa.out.below hb)
      replace Db := Lib.hid (Box2.below Db.out hb)
      replace Sb := Lib.hid (Sb.out.below hb)
      replace HB := Lib.hid (HB.out.trans (Below.mono hb HB.out.size))
      clear hb hG
      simp only [r14]
      clear r14
      obtain ⟨n0, A0, k0, c0, n1, A1, k1, c1, n2, A2, k2, c2, n3, A3, k3, c3, n4, A4, k4, c4, n5, A5, k5, c5, eT, w0, w1, w2, w3, w4, w5⟩ := r13
      simp only [eT]
      clear eT
      replace w0 := Lib.hid w0
      replace w1 := Lib.hid w1
      replace w2 := Lib.hid w2
      replace w3 := Lib.hid w3
      replace w4 := Lib.hid w4
      replace w5 := Lib.hid w5
      have LB := HB.out
      clear HB
      clear Da Sa
      clear Db Sb
      go_wp2_with fail
      go_loopw [35] (fun iv wr => ∃ k : Nat, k ≤ 3 ∧ iv = .int .i64 k ∧ Below w.heap.size w wr ∧ Whole wr n0 (.slice A0 k0 c0) a ∧ Whole wr n1 (.slice A1 k1 c1) b ∧ Whole wr n2 (.slice A2 k2 c2) a ∧ Whole wr n3 (.slice A3 k3 c3) x ∧ Whole wr n4 (.slice A4 k4 c4) ((a * b)) ∧ Whole wr n5 (.slice A5 k5 c5) b) (fun iv _ => 3 - (intOf iv).toNat)
      case atStart => exact ⟨0, by decide, rfl, LB, w0.out, w1.out, w2.out, w3.out, w4.out, w5.out⟩
      case round =>
        clear LB w0 w1 w2 w3 w4 w5
        obtain ⟨k, hk, rfl, HB, w0, w1, w2, w3, w4, w5⟩ := hrel
        rcases Nat.lt_or_ge k 3 with hlt | hge
        · skip
          obtain ⟨np, Ap, ip, cp, nq, Aq, iq, cq, p, q, hidx, SX, SY, hkp, hkq⟩ := idx_trip w0 (Nat.le_trans hka (by decide) : _ ≤ 24) w1 (Nat.le_trans hkb (by decide) : _ ≤ 24) w2 (Nat.le_trans hka (by decide) : _ ≤ 24) w3 (Nat.le_trans (szz_i64 (by omega) (by omega)) (by decide) : _ ≤ 24) w4 (Nat.le_trans (szz_mul hka hkb) (by decide) : _ ≤ 24) w5 (Nat.le_trans hkb (by decide) : _ ≤ 24) k hlt
          replace HB := Lib.hid HB
          replace SX := Lib.hid SX
          replace SY := Lib.hid SY
          replace w0 := Lib.hid w0
          replace w1 := Lib.hid w1
          replace w2 := Lib.hid w2
          replace w3 := Lib.hid w3
          replace w4 := Lib.hid w4
          replace w5 := Lib.hid w5
          go_upto_region 4 with fail
          refine wp_region_calm 2 [1] ([fun vq _ => vq = .agg #[.bool np, .slice Ap ip cp, .bool nq, .slice Aq iq cq],
              fun vq wq => ∃ bq, vq = .pointer (some ⟨bq, 0, none⟩) ∧ BoxN wq bq 27 #[.bool false, .slice none 0 0, .bool false, .slice none 0 0] ∧ (wr).heap.size ≤ bq]) (by kernel_rfl) (by decide) ?hF ?steps ?fin
          case hF =>
            intro j hj v w h
            simp only [List.mem_cons, List.not_mem_nil, or_false] at hj
            subst hj
            all_goals (obtain ⟨b, rfl, hB, _⟩ := h; exact hB.lt)
          case steps =>
            refine AllOps.cons (Does.plain rfl fun lq aq wq hk hr K hK => ?_) ?_
            · have B34 : ev aq (.tmp 34) = .agg #[.bool n0, .slice A0 k0 c0, .bool n1, .slice A1 k1 c1, .bool n2, .slice A2 k2 c2, .bool n3, .slice A3 k3 c3, .bool n4, .slice A4 k4 c4, .bool n5, .slice A5 k5 c5] := hk.base 34 (by kernel_rfl) rfl
              have B35 : ev aq (.tmp 35) = .int .i64 k := hk.base 35 (by kernel_rfl) rfl
              exact wp_of_value (by go_simp) (hK.out _ _ (Grows.refl _) (fun w2 h2 => rfl) (fun h => absurd h (by decide)))
            refine AllOps.cons (Does.plain rfl fun lq aq wq hk hr K hK => ?_) ?_
            · exact wp_of_value (by go_simp) (hK.out _ _ ((Grows.refl _).alloc _) (fun w2 h2 => ⟨_, rfl, (BoxN.new wq 27 _).below h2, hk.ext.size⟩) (fun _ => Nat.le_refl _))
            exact AllOps.nil
          case fin =>
            intro V x3 hG hV hap
            have r0 : (V 0) = .agg #[.bool np, .slice Ap ip cp, .bool nq, .slice Aq iq cq] := hV 0 (by decide)
            have r1 : ∃ bq, (V 1) = .pointer (some ⟨bq, 0, none⟩) ∧ BoxN x3 bq 27 #[.bool false, .slice none 0 0, .bool false, .slice none 0 0] ∧ (wr).heap.size ≤ bq := hV 1 (by decide)
            clear hV
            simp only [List.take_succ_cons, List.take_zero, List.drop_succ_cons, List.drop_zero, putAll, Act.put, List.setIfInBounds_toArray, List.set_cons_zero, List.set_cons_succ]
            have hb := (show Below _ _ _ from hG)
            obtain ⟨bx, ex, X4, gx⟩ := r1
            simp only [ex, r0]
            clear ex r0 hap hidx
            refine wpList_of_skip rfl (op_store4 8 37 _ rfl rfl X4) ?_
            have hB := put4_below (a := .bool np) (b := .slice Ap ip cp) (c := .bool nq) (d := .slice Aq iq cq) hb gx
            replace X4 := put4_own (a := .bool np) (b := .slice Ap ip cp) (c := .bool nq) (d := .slice Aq iq cq) X4
            clear hb hG gx
            generalize put4 x3 bx (.bool np) (.slice Ap ip cp) (.bool nq) (.slice Aq iq cq) = y1 at *
            replace w0 := Lib.hid (w0.out.below hB)
            replace w1 := Lib.hid (w1.out.below hB)
            replace w2 := Lib.hid (w2.out.below hB)
            replace w3 := Lib.hid (w3.out.below hB)
            replace w4 := Lib.hid (w4.out.below hB)
            replace w5 := Lib.hid (w5.out.below hB)
            replace SX := Lib.hid (SX.out.below hB)
            replace SY := Lib.hid (SY.out.below hB)
            replace HB := Lib.hid (HB.out.trans (Below.mono hB HB.out.size))
            clear hB
            replace X4 := Lib.hid X4
            rcases Decidable.em (q = 0) with hq0 | hq0
            · skip
              subst hq0
              go_upto_region 5 with fail
              refine wp_region_calm 9 [8] ([fun vq _ => vq = .pointer (some ⟨bx, 0, none⟩),
                  fun vq wq => WV wq vq p,
                  fun vq _ => vq = .pointer (some ⟨bx, 2, none⟩),
                  fun vq wq => WV wq vq 0,
                  fun vq wq => ∃ u0, vq = .tuple #[u0, .int .i64 3] ∧ ZV wq u0 0,
                  fun vq wq => ∃ u0, vq = .tuple #[u0, .int .i64 3] ∧ ZV wq u0 0,
                  fun vq wq => ZV wq vq 0,
                  fun vq _ => vq = .int .i64 3,
                  fun vq wq => ∃ bq, vq = .pointer (some ⟨bq, 0, none⟩) ∧ Box2 wq bq 24 (.bool false) (.slice none 0 0) ∧ (y1).heap.size ≤ bq]) (by kernel_rfl) (by decide) ?hF ?steps ?fin
              case hF =>
                intro j hj v w h
                simp only [List.mem_cons, List.not_mem_nil, or_false] at hj
                subst hj
                all_goals (obtain ⟨b, rfl, hB, _⟩ := h; exact hB.lt)
              case steps =>
                refine AllOps.cons (Does.plain rfl fun lq aq wq hk hr K hK => ?_) ?_
                · have B8 : ev aq (.tmp 8) = .pointer (some ⟨bx, 0, none⟩) := hk.base 8 (by kernel_rfl) rfl
                  exact wp_of_value (by go_simp) (hK.out _ _ (Grows.refl _) (fun w2 h2 => rfl) (fun h => absurd h (by decide)))
                refine AllOps.cons (Does.plain rfl fun lq aq wq hk hr K hK => ?_) ?_
                · obtain ⟨v0, E0, -, r0⟩ := hk.dep hr 0 39 (by kernel_rfl) (by kernel_rfl)
                  replace E0 : ev aq (.tmp 39) = .pointer (some ⟨bx, 0, none⟩) := E0.trans (r0 wq (Grows.refl wq))
                  have hb : Below _ _ _ := hk.ext
                  have c0 := (BoxN.below X4.out hb).cell 0 rfl
                  have c1 := (BoxN.below X4.out hb).cell 1 rfl
                  exact wp_of_value (op_load_at 39 _ 0 E0 c0 c1) (hK.out _ _ (Grows.refl _) (fun w2 h2 => ⟨_, _, _, _, rfl, (SX.out.below hb).below h2⟩) (fun h => absurd h (by decide)))
                refine AllOps.cons (Does.plain rfl fun lq aq wq hk hr K hK => ?_) ?_
                · have B8 : ev aq (.tmp 8) = .pointer (some ⟨bx, 0, none⟩) := hk.base 8 (by kernel_rfl) rfl
                  exact wp_of_value (by go_simp) (hK.out _ _ (Grows.refl _) (fun w2 h2 => rfl) (fun h => absurd h (by decide)))
                refine AllOps.cons (Does.plain rfl fun lq aq wq hk hr K hK => ?_) ?_
                · obtain ⟨v2, E2, -, r2⟩ := hk.dep hr 2 41 (by kernel_rfl) (by kernel_rfl)
                  replace E2 : ev aq (.tmp 41) = .pointer (some ⟨bx, 2, none⟩) := E2.trans (r2 wq (Grows.refl wq))
                  have hb : Below _ _ _ := hk.ext
                  have c0 := (BoxN.below X4.out hb).cell 2 rfl
                  have c1 := (BoxN.below X4.out hb).cell 3 rfl
                  exact wp_of_value (op_load_at 41 _ 2 E2 c0 c1) (hK.out _ _ (Grows.refl _) (fun w2 h2 => ⟨_, _, _, _, rfl, (SY.out.below hb).below h2⟩) (fun h => absurd h (by decide)))
                refine AllOps.cons (Does.plain rfl fun lq aq wq hk hr K hK => ?_) ?_
                · obtain ⟨v1, E1, -, r1⟩ := hk.dep hr 1 40 (by kernel_rfl) (by kernel_rfl)
                  have r1 : WV wq v1 p := r1 wq (Grows.refl wq)
                  obtain ⟨v3, E3, -, r3⟩ := hk.dep hr 3 42 (by kernel_rfl) (by kernel_rfl)
                  have r3 : WV wq v3 0 := r3 wq (Grows.refl wq)
                  refine wp_of_call (f := 16) (vs := #[v1, v3]) (by go_simp) (div0_v wq r1 (r3)) ?_
                  rintro e w1 ⟨u, rfl, hu, hb⟩
                  exact ⟨u, rfl, hK.out _ _ hb (fun w2 h2 => (let ⟨u0, e0, h0⟩ := hu; ⟨u0, e0, (h0).grow h2⟩)) (fun h => absurd h (by decide))⟩
                refine AllOps.cons (Does.plain rfl fun lq aq wq hk hr K hK => ?_) ?_
                · obtain ⟨v4, E4, -, r4⟩ := hk.dep hr 4 43 (by kernel_rfl) (by kernel_rfl)
                  have r4 : ∃ u0, v4 = .tuple #[u0, .int .i64 3] ∧ ZV wq u0 0 := r4 wq (Grows.refl wq)
                  exact wp_of_value (by go_simp) (hK.out _ _ (Grows.refl _) (fun w2 h2 => (let ⟨u0, e0, h0⟩ := r4; ⟨u0, e0, (h0).grow h2⟩)) (fun h => absurd h (by decide)))
                refine AllOps.cons (Does.plain rfl fun lq aq wq hk hr K hK => ?_) ?_
                · obtain ⟨v5, E5, -, r5⟩ := hk.dep hr 5 38 (by kernel_rfl) (by kernel_rfl)
                  have r5 : ∃ u0, v5 = .tuple #[u0, .int .i64 3] ∧ ZV wq u0 0 := r5 wq (Grows.refl wq)
                  obtain ⟨u0, rfl, h0⟩ := r5
                  exact wp_of_value (by go_simp) (hK.out _ _ (Grows.refl _) (fun w2 h2 => (h0).grow h2) (fun h => absurd h (by decide)))
                refine AllOps.cons (Does.plain rfl fun lq aq wq hk hr K hK => ?_) ?_
                · obtain ⟨v5, E5, -, r5⟩ := hk.dep hr 5 38 (by kernel_rfl) (by kernel_rfl)
                  have r5 : ∃ u0, v5 = .tuple #[u0, .int .i64 3] ∧ ZV wq u0 0 := r5 wq (Grows.refl wq)
                  obtain ⟨u0, rfl, h0⟩ := r5
                  exact wp_of_value (by go_simp) (hK.out _ _ (Grows.refl _) (fun w2 h2 => rfl) (fun h => absurd h (by decide)))
                refine AllOps.cons (Does.plain rfl fun lq aq wq hk hr K hK => ?_) ?_
                · exact wp_of_value (by go_simp) (hK.out _ _ ((Grows.refl _).alloc _) (fun w2 h2 => ⟨_, rfl, (Box2.new wq 24 _ _).below h2, hk.ext.size⟩) (fun _ => Nat.le_refl _))
                exact AllOps.nil
              case fin =>
                intro V x4 hG hV hap
                have r6 : ZV x4 (V 6) 0 := hV 6 (by decide)
                have r7 : (V 7) = .int .i64 3 := hV 7 (by decide)
                have r8 : ∃ bq, (V 8) = .pointer (some ⟨bq, 0, none⟩) ∧ Box2 x4 bq 24 (.bool false) (.slice none 0 0) ∧ (y1).heap.size ≤ bq := hV 8 (by decide)
                clear hV
                simp only [List.take_succ_cons, List.take_zero, List.drop_succ_cons, List.drop_zero, putAll, Act.put, List.setIfInBounds_toArray, List.set_cons_zero, List.set_cons_succ]
                have hb := (show Below _ _ _ from hG)
                obtain ⟨bd, ed, Dd, gd⟩ := r8
                obtain ⟨nd, Ad, kd, cd, ed', sd⟩ := r6
                simp only [ed, ed', r7]
                clear ed ed' hap r7
                refine wpList_of_skip rfl (op_store 9 44 _ rfl rfl Dd) ?_
                have hB := put2_below (u := .bool nd) (v := .slice Ad kd cd) hb gd
                replace sd := sd.put Dd (.bool nd) (.slice Ad kd cd)
                replace Dd := put2_own (u := .bool nd) (v := .slice Ad kd cd) Dd
                clear hb
                generalize put2 x4 bd (.bool nd) (.slice Ad kd cd) = y5 at *
                replace w0 := Lib.hid (w0.out.below hB)
                replace w1 := Lib.hid (w1.out.below hB)
                replace w2 := Lib.hid (w2.out.below hB)
                replace w3 := Lib.hid (w3.out.below hB)
                replace w4 := Lib.hid (w4.out.below hB)
                replace w5 := Lib.hid (w5.out.below hB)
                replace SX := Lib.hid (SX.out.below hB)
                replace SY := Lib.hid (SY.out.below hB)
                replace X4 := Lib.hid (X4.out.below hB)
                replace HB := Lib.hid (HB.out.trans (Below.mono hB HB.out.size))
                replace Dd := Lib.hid Dd
                have Sd := Lib.hid sd
                clear hG hB gd sd
                go_upto_region 6 with fail
                refine wp_region_calm 9 [8] ([fun vq _ => vq = .pointer (some ⟨bx, 0, none⟩),
                    fun vq wq => WV wq vq p,
                    fun vq _ => vq = .pointer (some ⟨bx, 2, none⟩),
                    fun vq wq => WV wq vq 0,
                    fun vq wq => ∃ u0, vq = .tuple #[u0, .int .i64 3] ∧ ZV wq u0 0,
                    fun vq wq => ∃ u0, vq = .tuple #[u0, .int .i64 3] ∧ ZV wq u0 0,
                    fun vq wq => ZV wq vq 0,
                    fun vq _ => vq = .int .i64 3,
                    fun vq wq => ∃ bq, vq = .pointer (some ⟨bq, 0, none⟩) ∧ Box2 wq bq 24 (.bool false) (.slice none 0 0) ∧ (y5).heap.size ≤ bq]) (by kernel_rfl) (by decide) ?hF ?steps ?fin
                case hF =>
                  intro j hj v w h
                  simp only [List.mem_cons, List.not_mem_nil, or_false] at hj
                  subst hj
                  all_goals (obtain ⟨b, rfl, hB, _⟩ := h; exact hB.lt)
                case steps =>
                  refine AllOps.cons (Does.plain rfl fun lq aq wq hk hr K hK => ?_) ?_
                  · have B8 : ev aq (.tmp 8) = .pointer (some ⟨bx, 0, none⟩) := hk.base 8 (by kernel_rfl) rfl
                    exact wp_of_value (by go_simp) (hK.out _ _ (Grows.refl _) (fun w2 h2 => rfl) (fun h => absurd h (by decide)))
                  refine AllOps.cons (Does.plain rfl fun lq aq wq hk hr K hK => ?_) ?_
                  · obtain ⟨v0, E0, -, r0⟩ := hk.dep hr 0 47 (by kernel_rfl) (by kernel_rfl)
                    replace E0 : ev aq (.tmp 47) = .pointer (some ⟨bx, 0, none⟩) := E0.trans (r0 wq (Grows.refl wq))
                    have hb : Below _ _ _ := hk.ext
                    have c0 := (BoxN.below X4.out hb).cell 0 rfl
                    have c1 := (BoxN.below X4.out hb).cell 1 rfl
                    exact wp_of_value (op_load_at 47 _ 0 E0 c0 c1) (hK.out _ _ (Grows.refl _) (fun w2 h2 => ⟨_, _, _, _, rfl, (SX.out.below hb).below h2⟩) (fun h => absurd h (by decide)))
                  refine AllOps.cons (Does.plain rfl fun lq aq wq hk hr K hK => ?_) ?_
                  · have B8 : ev aq (.tmp 8) = .pointer (some ⟨bx, 0, none⟩) := hk.base 8 (by kernel_rfl) rfl
                    exact wp_of_value (by go_simp) (hK.out _ _ (Grows.refl _) (fun w2 h2 => rfl) (fun h => absurd h (by decide)))
                  refine AllOps.cons (Does.plain rfl fun lq aq wq hk hr K hK => ?_) ?_
                  · obtain ⟨v2, E2, -, r2⟩ := hk.dep hr 2 49 (by kernel_rfl) (by kernel_rfl)
                    replace E2 : ev aq (.tmp 49) = .pointer (some ⟨bx, 2, none⟩) := E2.trans (r2 wq (Grows.refl wq))
                    have hb : Below _ _ _ := hk.ext
                    have c0 := (BoxN.below X4.out hb).cell 2 rfl
                    have c1 := (BoxN.below X4.out hb).cell 3 rfl
                    exact wp_of_value (op_load_at 49 _ 2 E2 c0 c1) (hK.out _ _ (Grows.refl _) (fun w2 h2 => ⟨_, _, _, _, rfl, (SY.out.below hb).below h2⟩) (fun h => absurd h (by decide)))
                  refine AllOps.cons (Does.plain rfl fun lq aq wq hk hr K hK => ?_) ?_
                  · obtain ⟨v1, E1, -, r1⟩ := hk.dep hr 1 48 (by kernel_rfl) (by kernel_rfl)
                    have r1 : WV wq v1 p := r1 wq (Grows.refl wq)
                    obtain ⟨v3, E3, -, r3⟩ := hk.dep hr 3 50 (by kernel_rfl) (by kernel_rfl)
                    have r3 : WV wq v3 0 := r3 wq (Grows.refl wq)
                    refine wp_of_call (f := 17) (vs := #[v1, v3]) (by go_simp) (mod0_v wq r1 (r3)) ?_
                    rintro e w1 ⟨u, rfl, hu, hb⟩
                    exact ⟨u, rfl, hK.out _ _ hb (fun w2 h2 => (let ⟨u0, e0, h0⟩ := hu; ⟨u0, e0, (h0).grow h2⟩)) (fun h => absurd h (by decide))⟩
                  refine AllOps.cons (Does.plain rfl fun lq aq wq hk hr K hK => ?_) ?_
                  · obtain ⟨v4, E4, -, r4⟩ := hk.dep hr 4 51 (by kernel_rfl) (by kernel_rfl)
                    have r4 : ∃ u0, v4 = .tuple #[u0, .int .i64 3] ∧ ZV wq u0 0 := r4 wq (Grows.refl wq)
                    exact wp_of_value (by go_simp) (hK.out _ _ (Grows.refl _) (fun w2 h2 => (let ⟨u0, e0, h0⟩ := r4; ⟨u0, e0, (h0).grow h2⟩)) (fun h => absurd h (by decide)))
                  refine AllOps.cons (Does.plain rfl fun lq aq wq hk hr K hK => ?_) ?_
                  · obtain ⟨v5, E5, -, r5⟩ := hk.dep hr 5 46 (by kernel_rfl) (by kernel_rfl)
                    have r5 : ∃ u0, v5 = .tuple #[u0, .int .i64 3] ∧ ZV wq u0 0 := r5 wq (Grows.refl wq)
                    obtain ⟨u0, rfl, h0⟩ := r5
                    exact wp_of_value (by go_simp) (hK.out _ _ (Grows.refl _) (fun w2 h2 => (h0).grow h2) (fun h => absurd h (by decide)))
                  refine AllOps.cons (Does.plain rfl fun lq aq wq hk hr K hK => ?_) ?_
                  · obtain ⟨v5, E5, -, r5⟩ := hk.dep hr 5 46 (by kernel_rfl) (by kernel_rfl)
                    have r5 : ∃ u0, v5 = .tuple #[u0, .int .i64 3] ∧ ZV wq u0 0 := r5 wq (Grows.refl wq)
                    obtain ⟨u0, rfl, h0⟩ := r5
                    exact wp_of_value (by go_simp) (hK.out _ _ (Grows.refl _) (fun w2 h2 => rfl) (fun h => absurd h (by decide)))
                  refine AllOps.cons (Does.plain rfl fun lq aq wq hk hr K hK => ?_) ?_
                  · exact wp_of_value (by go_simp) (hK.out _ _ ((Grows.refl _).alloc _) (fun w2 h2 => ⟨_, rfl, (Box2.new wq 24 _ _).below h2, hk.ext.size⟩) (fun _ => Nat.le_refl _))
                  exact AllOps.nil
                case fin =>
                  intro V x6 hG hV hap
                  have r6 : ZV x6 (V 6) 0 := hV 6 (by decide)
                  have r7 : (V 7) = .int .i64 3 := hV 7 (by decide)
                  have r8 : ∃ bq, (V 8) = .pointer (some ⟨bq, 0, none⟩) ∧ Box2 x6 bq 24 (.bool false) (.slice none 0 0) ∧ (y5).heap.size ≤ bq := hV 8 (by decide)
                  clear hV
                  simp only [List.take_succ_cons, List.take_zero, List.drop_succ_cons, List.drop_zero, putAll, Act.put, List.setIfInBounds_toArray, List.set_cons_zero, List.set_cons_succ]
                  have hb := (show Below _ _ _ from hG)
                  obtain ⟨bm, em, Dm, gm⟩ := r8
                  obtain ⟨nm, Am, km, cm, em', sm⟩ := r6
                  simp only [em, em', r7]
                  clear em em' hap r7
                  refine wpList_of_skip rfl (op_store 11 52 _ rfl rfl Dm) ?_
                  have hB := put2_below (u := .bool nm) (v := .slice Am km cm) hb gm
                  replace sm := sm.put Dm (.bool nm) (.slice Am km cm)
                  replace Dm := put2_own (u := .bool nm) (v := .slice Am km cm) Dm
                  clear hb
                  generalize put2 x6 bm (.bool nm) (.slice Am km cm) = y7 at *
                  replace Dd := Lib.hid (Box2.below Dd.out hB)
                  replace Sd := Lib.hid (Sd.out.below hB)
                  replace w0 := Lib.hid (w0.out.below hB)
                  replace w1 := Lib.hid (w1.out.below hB)
                  replace w2 := Lib.hid (w2.out.below hB)
                  replace w3 := Lib.hid (w3.out.below hB)
                  replace w4 := Lib.hid (w4.out.below hB)
                  replace w5 := Lib.hid (w5.out.below hB)
                  replace SX := Lib.hid (SX.out.below hB)
                  replace SY := Lib.hid (SY.out.below hB)
                  replace X4 := Lib.hid (X4.out.below hB)
                  replace HB := Lib.hid (HB.out.trans (Below.mono hB HB.out.size))
                  replace Dm := Lib.hid Dm
                  have Sm := Lib.hid sm
                  clear hG hB gm sm
                  go_upto_region 7 with fail
                  refine wp_region_calm 9 [8] ([fun vq _ => vq = .pointer (some ⟨bx, 0, none⟩),
                      fun vq wq => WV wq vq p,
                      fun vq _ => vq = .pointer (some ⟨bx, 2, none⟩),
                      fun vq wq => WV wq vq 0,
                      fun vq wq => ∃ u0, vq = .tuple #[u0, .int .i64 3] ∧ ZV wq u0 0,
                      fun vq wq => ∃ u0, vq = .tuple #[u0, .int .i64 3] ∧ ZV wq u0 0,
                      fun vq wq => ZV wq vq 0,
                      fun vq _ => vq = .int .i64 3,
                      fun vq wq => ∃ bq, vq = .pointer (some ⟨bq, 0, none⟩) ∧ Box2 wq bq 24 (.bool false) (.slice none 0 0) ∧ (y7).heap.size ≤ bq]) (by kernel_rfl) (by decide) ?hF ?steps ?fin
                  case hF =>
                    intro j hj v w h
                    simp only [List.mem_cons, List.not_mem_nil, or_false] at hj
                    subst hj
                    all_goals (obtain ⟨b, rfl, hB, _⟩ := h; exact hB.lt)
                  case steps =>
                    refine AllOps.cons (Does.plain rfl fun lq aq wq hk hr K hK => ?_) ?_
                    · have B8 : ev aq (.tmp 8) = .pointer (some ⟨bx, 0, none⟩) := hk.base 8 (by kernel_rfl) rfl
                      exact wp_of_value (by go_simp) (hK.out _ _ (Grows.refl _) (fun w2 h2 => rfl) (fun h => absurd h (by decide)))
                    refine AllOps.cons (Does.plain rfl fun lq aq wq hk hr K hK => ?_) ?_
                    · obtain ⟨v0, E0, -, r0⟩ := hk.dep hr 0 55 (by kernel_rfl) (by kernel_rfl)
                      replace E0 : ev aq (.tmp 55) = .pointer (some ⟨bx, 0, none⟩) := E0.trans (r0 wq (Grows.refl wq))
                      have hb : Below _ _ _ := hk.ext
                      have c0 := (BoxN.below X4.out hb).cell 0 rfl
                      have c1 := (BoxN.below X4.out hb).cell 1 rfl
                      exact wp_of_value (op_load_at 55 _ 0 E0 c0 c1) (hK.out _ _ (Grows.refl _) (fun w2 h2 => ⟨_, _, _, _, rfl, (SX.out.below hb).below h2⟩) (fun h => absurd h (by decide)))
                    refine AllOps.cons (Does.plain rfl fun lq aq wq hk hr K hK => ?_) ?_
                    · have B8 : ev aq (.tmp 8) = .pointer (some ⟨bx, 0, none⟩) := hk.base 8 (by kernel_rfl) rfl
                      exact wp_of_value (by go_simp) (hK.out _ _ (Grows.refl _) (fun w2 h2 => rfl) (fun h => absurd h (by decide)))
                    refine AllOps.cons (Does.plain rfl fun lq aq wq hk hr K hK => ?_) ?_
                    · obtain ⟨v2, E2, -, r2⟩ := hk.dep hr 2 57 (by kernel_rfl) (by kernel_rfl)
                      replace E2 : ev aq (.tmp 57) = .pointer (some ⟨bx, 2, none⟩) := E2.trans (r2 wq (Grows.refl wq))
                      have hb : Below _ _ _ := hk.ext
                      have c0 := (BoxN.below X4.out hb).cell 2 rfl
                      have c1 := (BoxN.below X4.out hb).cell 3 rfl
                      exact wp_of_value (op_load_at 57 _ 2 E2 c0 c1) (hK.out _ _ (Grows.refl _) (fun w2 h2 => ⟨_, _, _, _, rfl, (SY.out.below hb).below h2⟩) (fun h => absurd h (by decide)))
                    refine AllOps.cons (Does.plain rfl fun lq aq wq hk hr K hK => ?_) ?_
                    · obtain ⟨v1, E1, -, r1⟩ := hk.dep hr 1 56 (by kernel_rfl) (by kernel_rfl)
                      have r1 : WV wq v1 p := r1 wq (Grows.refl wq)
                      obtain ⟨v3, E3, -, r3⟩ := hk.dep hr 3 58 (by kernel_rfl) (by kernel_rfl)
                      have r3 : WV wq v3 0 := r3 wq (Grows.refl wq)
                      refine wp_of_call (f := 18) (vs := #[v1, v3]) (by go_simp) (rdiv0_v wq r1 r3 rfl) ?_
                      rintro e w1 ⟨u, rfl, hu, hb⟩
                      exact ⟨u, rfl, hK.out _ _ hb (fun w2 h2 => (let ⟨u0, e0, h0⟩ := hu; ⟨u0, e0, (h0).grow h2⟩)) (fun h => absurd h (by decide))⟩
                    refine AllOps.cons (Does.plain rfl fun lq aq wq hk hr K hK => ?_) ?_
                    · obtain ⟨v4, E4, -, r4⟩ := hk.dep hr 4 59 (by kernel_rfl) (by kernel_rfl)
                      have r4 : ∃ u0, v4 = .tuple #[u0, .int .i64 3] ∧ ZV wq u0 0 := r4 wq (Grows.refl wq)
                      exact wp_of_value (by go_simp) (hK.out _ _ (Grows.refl _) (fun w2 h2 => (let ⟨u0, e0, h0⟩ := r4; ⟨u0, e0, (h0).grow h2⟩)) (fun h => absurd h (by decide)))
                    refine AllOps.cons (Does.plain rfl fun lq aq wq hk hr K hK => ?_) ?_
                    · obtain ⟨v5, E5, -, r5⟩ := hk.dep hr 5 54 (by kernel_rfl) (by kernel_rfl)
                      have r5 : ∃ u0, v5 = .tuple #[u0, .int .i64 3] ∧ ZV wq u0 0 := r5 wq (Grows.refl wq)
                      obtain ⟨u0, rfl, h0⟩ := r5
                      exact wp_of_value (by go_simp) (hK.out _ _ (Grows.refl _) (fun w2 h2 => (h0).grow h2) (fun h => absurd h (by decide)))
                    refine AllOps.cons (Does.plain rfl fun lq aq wq hk hr K hK => ?_) ?_
                    · obtain ⟨v5, E5, -, r5⟩ := hk.dep hr 5 54 (by kernel_rfl) (by kernel_rfl)
                      have r5 : ∃ u0, v5 = .tuple #[u0, .int .i64 3] ∧ ZV wq u0 0 := r5 wq (Grows.refl wq)
                      obtain ⟨u0, rfl, h0⟩ := r5
                      exact wp_of_value (by go_simp) (hK.out _ _ (Grows.refl _) (fun w2 h2 => rfl) (fun h => absurd h (by decide)))
                    refine AllOps.cons (Does.plain rfl fun lq aq wq hk hr K hK => ?_) ?_
                    · exact wp_of_value (by go_simp) (hK.out _ _ ((Grows.refl _).alloc _) (fun w2 h2 => ⟨_, rfl, (Box2.new wq 24 _ _).below h2, hk.ext.size⟩) (fun _ => Nat.le_refl _))
                    exact AllOps.nil
                  case fin =>
                    intro V x8 hG hV hap
                    have r6 : ZV x8 (V 6) 0 := hV 6 (by decide)
                    have r7 : (V 7) = .int .i64 3 := hV 7 (by decide)
                    have r8 : ∃ bq, (V 8) = .pointer (some ⟨bq, 0, none⟩) ∧ Box2 x8 bq 24 (.bool false) (.slice none 0 0) ∧ (y7).heap.size ≤ bq := hV 8 (by decide)
                    clear hV
                    simp only [List.take_succ_cons, List.take_zero, List.drop_succ_cons, List.drop_zero, putAll, Act.put, List.setIfInBounds_toArray, List.set_cons_zero, List.set_cons_succ]
                    have hb := (show Below _ _ _ from hG)
                    obtain ⟨be, ee, De, ge⟩ := r8
                    obtain ⟨ne, Ae, ke, ce, ee', se⟩ := r6
                    simp only [ee, ee', r7]
                    clear ee ee' hap r7
                    refine wpList_of_skip rfl (op_store 13 60 _ rfl rfl De) ?_
                    have hB := put2_below (u := .bool ne) (v := .slice Ae ke ce) hb ge
                    replace se := se.put De (.bool ne) (.slice Ae ke ce)
                    replace De := put2_own (u := .bool ne) (v := .slice Ae ke ce) De
                    clear hb
                    generalize put2 x8 be (.bool ne) (.slice Ae ke ce) = y9 at *
                    replace Dd := Lib.hid (Box2.below Dd.out hB)
                    replace Sd := Lib.hid (Sd.out.below hB)
                    replace Dm := Lib.hid (Box2.below Dm.out hB)
                    replace Sm := Lib.hid (Sm.out.below hB)
                    replace w0 := Lib.hid (w0.out.below hB)
                    replace w1 := Lib.hid (w1.out.below hB)
                    replace w2 := Lib.hid (w2.out.below hB)
                    replace w3 := Lib.hid (w3.out.below hB)
                    replace w4 := Lib.hid (w4.out.below hB)
                    replace w5 := Lib.hid (w5.out.below hB)
                    replace SX := Lib.hid (SX.out.below hB)
                    replace SY := Lib.hid (SY.out.below hB)
                    replace X4 := Lib.hid (X4.out.below hB)
                    replace HB := Lib.hid (HB.out.trans (Below.mono hB HB.out.size))
                    replace De := Lib.hid De
                    have Se := Lib.hid se
                    clear hG hB ge se
                    go_upto_region 8 with fail
                    refine wp_region_calm 9 [8] ([fun vq _ => vq = .pointer (some ⟨bx, 0, none⟩),
                        fun vq wq => WV wq vq p,
                        fun vq _ => vq = .pointer (some ⟨bx, 2, none⟩),
                        fun vq wq => WV wq vq 0,
                        fun vq wq => ∃ u0, vq = .tuple #[u0, .int .i64 3] ∧ ZV wq u0 0,
                        fun vq wq => ∃ u0, vq = .tuple #[u0, .int .i64 3] ∧ ZV wq u0 0,
                        fun vq wq => ZV wq vq 0,
                        fun vq _ => vq = .int .i64 3,
                        fun vq wq => ∃ bq, vq = .pointer (some ⟨bq, 0, none⟩) ∧ Box2 wq bq 24 (.bool false) (.slice none 0 0) ∧ (y9).heap.size ≤ bq]) (by kernel_rfl) (by decide) ?hF ?steps ?fin
                    case hF =>
                      intro j hj v w h
                      simp only [List.mem_cons, List.not_mem_nil, or_false] at hj
                      subst hj
                      all_goals (obtain ⟨b, rfl, hB, _⟩ := h; exact hB.lt)
                    case steps =>
                      refine AllOps.cons (Does.plain rfl fun lq aq wq hk hr K hK => ?_) ?_
                      · have B8 : ev aq (.tmp 8) = .pointer (some ⟨bx, 0, none⟩) := hk.base 8 (by kernel_rfl) rfl
                        exact wp_of_value (by go_simp) (hK.out _ _ (Grows.refl _) (fun w2 h2 => rfl) (fun h => absurd h (by decide)))
                      refine AllOps.cons (Does.plain rfl fun lq aq wq hk hr K hK => ?_) ?_
                      · obtain ⟨v0, E0, -, r0⟩ := hk.dep hr 0 63 (by kernel_rfl) (by kernel_rfl)
                        replace E0 : ev aq (.tmp 63) = .pointer (some ⟨bx, 0, none⟩) := E0.trans (r0 wq (Grows.refl wq))
                        have hb : Below _ _ _ := hk.ext
                        have c0 := (BoxN.below X4.out hb).cell 0 rfl
                        have c1 := (BoxN.below X4.out hb).cell 1 rfl
                        exact wp_of_value (op_load_at 63 _ 0 E0 c0 c1) (hK.out _ _ (Grows.refl _) (fun w2 h2 => ⟨_, _, _, _, rfl, (SX.out.below hb).below h2⟩) (fun h => absurd h (by decide)))
                      refine AllOps.cons (Does.plain rfl fun lq aq wq hk hr K hK => ?_) ?_
                      · have B8 : ev aq (.tmp 8) = .pointer (some ⟨bx, 0, none⟩) := hk.base 8 (by kernel_rfl) rfl
                        exact wp_of_value (by go_simp) (hK.out _ _ (Grows.refl _) (fun w2 h2 => rfl) (fun h => absurd h (by decide)))
                      refine AllOps.cons (Does.plain rfl fun lq aq wq hk hr K hK => ?_) ?_
                      · obtain ⟨v2, E2, -, r2⟩ := hk.dep hr 2 65 (by kernel_rfl) (by kernel_rfl)
                        replace E2 : ev aq (.tmp 65) = .pointer (some ⟨bx, 2, none⟩) := E2.trans (r2 wq (Grows.refl wq))
                        have hb : Below _ _ _ := hk.ext
                        have c0 := (BoxN.below X4.out hb).cell 2 rfl
                        have c1 := (BoxN.below X4.out hb).cell 3 rfl
                        exact wp_of_value (op_load_at 65 _ 2 E2 c0 c1) (hK.out _ _ (Grows.refl _) (fun w2 h2 => ⟨_, _, _, _, rfl, (SY.out.below hb).below h2⟩) (fun h => absurd h (by decide)))
                      refine AllOps.cons (Does.plain rfl fun lq aq wq hk hr K hK => ?_) ?_
                      · obtain ⟨v1, E1, -, r1⟩ := hk.dep hr 1 64 (by kernel_rfl) (by kernel_rfl)
                        have r1 : WV wq v1 p := r1 wq (Grows.refl wq)
                        obtain ⟨v3, E3, -, r3⟩ := hk.dep hr 3 66 (by kernel_rfl) (by kernel_rfl)
                        have r3 : WV wq v3 0 := r3 wq (Grows.refl wq)
                        refine wp_of_call (f := 19) (vs := #[v1, v3]) (by go_simp) (rmod0_v wq r1 r3 rfl) ?_
                        rintro e w1 ⟨u, rfl, hu, hb⟩
                        exact ⟨u, rfl, hK.out _ _ hb (fun w2 h2 => (let ⟨u0, e0, h0⟩ := hu; ⟨u0, e0, (h0).grow h2⟩)) (fun h => absurd h (by decide))⟩
                      refine AllOps.cons (Does.plain rfl fun lq aq wq hk hr K hK => ?_) ?_
                      · obtain ⟨v4, E4, -, r4⟩ := hk.dep hr 4 67 (by kernel_rfl) (by kernel_rfl)
                        have r4 : ∃ u0, v4 = .tuple #[u0, .int .i64 3] ∧ ZV wq u0 0 := r4 wq (Grows.refl wq)
                        exact wp_of_value (by go_simp) (hK.out _ _ (Grows.refl _) (fun w2 h2 => (let ⟨u0, e0, h0⟩ := r4; ⟨u0, e0, (h0).grow h2⟩)) (fun h => absurd h (by decide)))
                      refine AllOps.cons (Does.plain rfl fun lq aq wq hk hr K hK => ?_) ?_
                      · obtain ⟨v5, E5, -, r5⟩ := hk.dep hr 5 62 (by kernel_rfl) (by kernel_rfl)
                        have r5 : ∃ u0, v5 = .tuple #[u0, .int .i64 3] ∧ ZV wq u0 0 := r5 wq (Grows.refl wq)
                        obtain ⟨u0, rfl, h0⟩ := r5
                        exact wp_of_value (by go_simp) (hK.out _ _ (Grows.refl _) (fun w2 h2 => (h0).grow h2) (fun h => absurd h (by decide)))
                      refine AllOps.cons (Does.plain rfl fun lq aq wq hk hr K hK => ?_) ?_
                      · obtain ⟨v5, E5, -, r5⟩ := hk.dep hr 5 62 (by kernel_rfl) (by kernel_rfl)
                        have r5 : ∃ u0, v5 = .tuple #[u0, .int .i64 3] ∧ ZV wq u0 0 := r5 wq (Grows.refl wq)
                        obtain ⟨u0, rfl, h0⟩ := r5
                        exact wp_of_value (by go_simp) (hK.out _ _ (Grows.refl _) (fun w2 h2 => rfl) (fun h => absurd h (by decide)))
                      refine AllOps.cons (Does.plain rfl fun lq aq wq hk hr K hK => ?_) ?_
                      · exact wp_of_value (by go_simp) (hK.out _ _ ((Grows.refl _).alloc _) (fun w2 h2 => ⟨_, rfl, (Box2.new wq 24 _ _).below h2, hk.ext.size⟩) (fun _ => Nat.le_refl _))
                      exact AllOps.nil
                    case fin =>
                      intro V x10 hG hV hap
                      have r6 : ZV x10 (V 6) 0 := hV 6 (by decide)
                      have r7 : (V 7) = .int .i64 3 := hV 7 (by decide)
                      have r8 : ∃ bq, (V 8) = .pointer (some ⟨bq, 0, none⟩) ∧ Box2 x10 bq 24 (.bool false) (.slice none 0 0) ∧ (y9).heap.size ≤ bq := hV 8 (by decide)
                      clear hV
                      simp only [List.take_succ_cons, List.take_zero, List.drop_succ_cons, List.drop_zero, putAll, Act.put, List.setIfInBounds_toArray, List.set_cons_zero, List.set_cons_succ]
                      have hb := (show Below _ _ _ from hG)
                      obtain ⟨bf, ef, Df, gf⟩ := r8
                      obtain ⟨nf, Af, kf, cf, ef', sf⟩ := r6
                      simp only [ef, ef', r7]
                      clear ef ef' hap r7
                      refine wpList_of_skip rfl (op_store 15 68 _ rfl rfl Df) ?_
                      have hB := put2_below (u := .bool nf) (v := .slice Af kf cf) hb gf
                      replace sf := sf.put Df (.bool nf) (.slice Af kf cf)
                      replace Df := put2_own (u := .bool nf) (v := .slice Af kf cf) Df
                      clear hb
                      generalize put2 x10 bf (.bool nf) (.slice Af kf cf) = y11 at *
                      replace Dd := Lib.hid (Box2.below Dd.out hB)
                      replace Sd := Lib.hid (Sd.out.below hB)
                      replace Dm := Lib.hid (Box2.below Dm.out hB)
                      replace Sm := Lib.hid (Sm.out.below hB)
                      replace De := Lib.hid (Box2.below De.out hB)
                      replace Se := Lib.hid (Se.out.below hB)
                      replace w0 := Lib.hid (w0.out.below hB)
                      replace w1 := Lib.hid (w1.out.below hB)
                      replace w2 := Lib.hid (w2.out.below hB)
                      replace w3 := Lib.hid (w3.out.below hB)
                      replace w4 := Lib.hid (w4.out.below hB)
                      replace w5 := Lib.hid (w5.out.below hB)
                      replace SX := Lib.hid (SX.out.below hB)
                      replace SY := Lib.hid (SY.out.below hB)
                      replace X4 := Lib.hid (X4.out.below hB)
                      replace HB := Lib.hid (HB.out.trans (Below.mono hB HB.out.size))
                      replace Df := Lib.hid Df
                      have Sf := Lib.hid sf
                      clear hG hB gf sf
                      go_upto_region 9 with fail
                      refine wp_region_calm 20 [] ([fun vq _ => vq = .int .i64 3,
                          fun vq _ => vq = .int .i64 3,
                          fun vq _ => vq = .bool false,
                          fun vq _ => vq = .bool false,
                          fun vq _ => vq = .int .i64 3,
                          fun vq _ => vq = .int .i64 3,
                          fun vq _ => vq = .bool false,
                          fun vq _ => vq = .bool false,
                          fun vq _ => vq = .bool false,
                          fun vq wq => ZV wq vq 0,
                          fun vq wq => ZV wq vq 0,
                          fun vq _ => vq = .bool true,
                          fun vq _ => vq = .bool false,
                          fun vq _ => vq = .bool false,
                          fun vq _ => vq = .bool false,
                          fun vq wq => ZV wq vq 0,
                          fun vq wq => ZV wq vq 0,
                          fun vq _ => vq = .bool true,
                          fun vq _ => vq = .bool false,
                          fun vq _ => vq = .bool false]) (by kernel_rfl) (by decide) ?hF ?steps ?fin
                      case hF =>
                        intro j hj; cases hj
                      case steps =>
                        refine AllOps.cons (Does.plain rfl fun lq aq wq hk hr K hK => ?_) ?_
                        · have B10 : ev aq (.tmp 10) = .int .i64 3 := hk.base 10 (by kernel_rfl) rfl
                          exact wp_of_value (by go_simp) (hK.out _ _ (Grows.refl _) (fun w2 h2 => rfl) (fun h => absurd h (by decide)))
                        refine AllOps.cons (Does.plain rfl fun lq aq wq hk hr K hK => ?_) ?_
                        · have B14 : ev aq (.tmp 14) = .int .i64 3 := hk.base 14 (by kernel_rfl) rfl
                          exact wp_of_value (by go_simp) (hK.out _ _ (Grows.refl _) (fun w2 h2 => rfl) (fun h => absurd h (by decide)))
                        refine AllOps.cons (Does.plain rfl fun lq aq wq hk hr K hK => ?_) ?_
                        · obtain ⟨v0, E0, -, r0⟩ := hk.dep hr 0 70 (by kernel_rfl) (by kernel_rfl)
                          replace E0 : ev aq (.tmp 70) = .int .i64 3 := E0.trans (r0 wq (Grows.refl wq))
                          obtain ⟨v1, E1, -, r1⟩ := hk.dep hr 1 71 (by kernel_rfl) (by kernel_rfl)
                          replace E1 : ev aq (.tmp 71) = .int .i64 3 := E1.trans (r1 wq (Grows.refl wq))
                          exact wp_of_value (by go_simp) (hK.out _ _ (Grows.refl _) (fun w2 h2 => rfl) (fun h => absurd h (by decide)))
                        refine AllOps.cons (Does.plain rfl fun lq aq wq hk hr K hK => ?_) ?_
                        · obtain ⟨v2, E2, -, r2⟩ := hk.dep hr 2 72 (by kernel_rfl) (by kernel_rfl)
                          replace E2 : ev aq (.tmp 72) = .bool false := E2.trans (r2 wq (Grows.refl wq))
                          exact wp_of_value (by go_simp) (hK.out _ _ (Grows.refl _) (fun w2 h2 => rfl) (fun h => absurd h (by decide)))
                        refine AllOps.cons (Does.lets (g := 3) (d := 73) (t := false) rfl (by kernel_rfl) (by kernel_rfl) (fun vq wq h => h wq (Grows.refl wq)) fun lq aq wq hk hr K hK => ?_) ?_
                        · have B12 : ev aq (.tmp 12) = .int .i64 3 := hk.base 12 (by kernel_rfl) rfl
                          exact wp_of_value (by go_simp) (hK.out _ _ (Grows.refl _) (fun w2 h2 => rfl) (fun h => absurd h (by decide)))
                        refine AllOps.cons (Does.lets (g := 3) (d := 73) (t := false) rfl (by kernel_rfl) (by kernel_rfl) (fun vq wq h => h wq (Grows.refl wq)) fun lq aq wq hk hr K hK => ?_) ?_
                        · have B16 : ev aq (.tmp 16) = .int .i64 3 := hk.base 16 (by kernel_rfl) rfl
                          exact wp_of_value (by go_simp) (hK.out _ _ (Grows.refl _) (fun w2 h2 => rfl) (fun h => absurd h (by decide)))
                        refine AllOps.cons (Does.lets (g := 3) (d := 73) (t := false) rfl (by kernel_rfl) (by kernel_rfl) (fun vq wq h => h wq (Grows.refl wq)) fun lq aq wq hk hr K hK => ?_) ?_
                        · obtain ⟨v4, E4, -, r4⟩ := hk.dep hr 4 74 (by kernel_rfl) (by kernel_rfl)
                          replace E4 : ev aq (.tmp 74) = .int .i64 3 := E4.trans (r4 wq (Grows.refl wq))
                          obtain ⟨v5, E5, -, r5⟩ := hk.dep hr 5 75 (by kernel_rfl) (by kernel_rfl)
                          replace E5 : ev aq (.tmp 75) = .int .i64 3 := E5.trans (r5 wq (Grows.refl wq))
                          exact wp_of_value (by go_simp) (hK.out _ _ (Grows.refl _) (fun w2 h2 => rfl) (fun h => absurd h (by decide)))
                        refine AllOps.cons (Does.plain rfl fun lq aq wq hk hr K hK => ?_) ?_
                        · obtain ⟨v3, E3, -, r3⟩ := hk.dep hr 3 73 (by kernel_rfl) (by kernel_rfl)
                          replace E3 : ev aq (.tmp 73) = .bool false := E3.trans (r3 wq (Grows.refl wq))
                          obtain ⟨v6, E6, -, r6⟩ := hk.dep hr 6 76 (by kernel_rfl) (by kernel_rfl)
                          replace E6 : ev aq (.tmp 76) = .bool false := E6.trans (r6 wq (Grows.refl wq))
                          exact wp_of_value (by go_simp) (hK.out _ _ (Grows.refl _) (fun w2 h2 => rfl) (fun h => absurd h (by decide)))
                        refine AllOps.cons (Does.plain rfl fun lq aq wq hk hr K hK => ?_) ?_
                        · obtain ⟨v7, E7, -, r7⟩ := hk.dep hr 7 77 (by kernel_rfl) (by kernel_rfl)
                          replace E7 : ev aq (.tmp 77) = .bool false := E7.trans (r7 wq (Grows.refl wq))
                          exact wp_of_value (by go_simp) (hK.out _ _ (Grows.refl _) (fun w2 h2 => rfl) (fun h => absurd h (by decide)))
                        refine AllOps.cons (Does.lets (g := 8) (d := 78) (t := false) rfl (by kernel_rfl) (by kernel_rfl) (fun vq wq h => h wq (Grows.refl wq)) fun lq aq wq hk hr K hK => ?_) ?_
                        · have B9 : ev aq (.tmp 9) = .pointer (some ⟨bd, 0, none⟩) := hk.base 9 (by kernel_rfl) rfl
                          have hb : Below _ _ _ := hk.ext
                          exact wp_of_value (op_load 9 _ B9 (Box2.below Dd.out hb)) (hK.out _ _ (Grows.refl _) (fun w2 h2 => ⟨_, _, _, _, rfl, (Sd.out.below hb).below h2⟩) (fun h => absurd h (by decide)))
                        refine AllOps.cons (Does.lets (g := 8) (d := 78) (t := false) rfl (by kernel_rfl) (by kernel_rfl) (fun vq wq h => h wq (Grows.refl wq)) fun lq aq wq hk hr K hK => ?_) ?_
                        · have B13 : ev aq (.tmp 13) = .pointer (some ⟨be, 0, none⟩) := hk.base 13 (by kernel_rfl) rfl
                          have hb : Below _ _ _ := hk.ext
                          exact wp_of_value (op_load 13 _ B13 (Box2.below De.out hb)) (hK.out _ _ (Grows.refl _) (fun w2 h2 => ⟨_, _, _, _, rfl, (Se.out.below hb).below h2⟩) (fun h => absurd h (by decide)))
                        refine AllOps.cons (Does.lets (g := 8) (d := 78) (t := false) rfl (by kernel_rfl) (by kernel_rfl) (fun vq wq h => h wq (Grows.refl wq)) fun lq aq wq hk hr K hK => ?_) ?_
                        · obtain ⟨v9, E9, -, r9⟩ := hk.dep hr 9 79 (by kernel_rfl) (by kernel_rfl)
                          have r9 : ZV wq v9 0 := r9 wq (Grows.refl wq)
                          obtain ⟨v10, E10, -, r10⟩ := hk.dep hr 10 80 (by kernel_rfl) (by kernel_rfl)
                          have r10 : ZV wq v10 0 := r10 wq (Grows.refl wq)
                          refine wp_of_call (f := 20) (vs := #[v9, v10]) (by go_simp) (rsame_v wq r9 r10 (t := true) (decide_eq_true rfl)) ?_
                          rintro e w1 ⟨u, rfl, hu, hb⟩
                          exact ⟨u, rfl, hK.out _ _ hb (fun w2 h2 => hu) (fun h => absurd h (by decide))⟩
                        refine AllOps.cons (Does.lets (g := 8) (d := 78) (t := false) rfl (by kernel_rfl) (by kernel_rfl) (fun vq wq h => h wq (Grows.refl wq)) fun lq aq wq hk hr K hK => ?_) ?_
                        · obtain ⟨v11, E11, -, r11⟩ := hk.dep hr 11 81 (by kernel_rfl) (by kernel_rfl)
                          replace E11 : ev aq (.tmp 81) = .bool true := E11.trans (r11 wq (Grows.refl wq))
                          exact wp_of_value (by go_simp) (hK.out _ _ (Grows.refl _) (fun w2 h2 => rfl) (fun h => absurd h (by decide)))
                        refine AllOps.cons (Does.plain rfl fun lq aq wq hk hr K hK => ?_) ?_
                        · obtain ⟨v8, E8, -, r8⟩ := hk.dep hr 8 78 (by kernel_rfl) (by kernel_rfl)
                          replace E8 : ev aq (.tmp 78) = .bool false := E8.trans (r8 wq (Grows.refl wq))
                          obtain ⟨v12, E12, -, r12⟩ := hk.dep hr 12 82 (by kernel_rfl) (by kernel_rfl)
                          replace E12 : ev aq (.tmp 82) = .bool false := E12.trans (r12 wq (Grows.refl wq))
                          exact wp_of_value (by go_simp) (hK.out _ _ (Grows.refl _) (fun w2 h2 => rfl) (fun h => absurd h (by decide)))
                        refine AllOps.cons (Does.plain rfl fun lq aq wq hk hr K hK => ?_) ?_
                        · obtain ⟨v13, E13, -, r13⟩ := hk.dep hr 13 83 (by kernel_rfl) (by kernel_rfl)
                          replace E13 : ev aq (.tmp 83) = .bool false := E13.trans (r13 wq (Grows.refl wq))
                          exact wp_of_value (by go_simp) (hK.out _ _ (Grows.refl _) (fun w2 h2 => rfl) (fun h => absurd h (by decide)))
                        refine AllOps.cons (Does.lets (g := 14) (d := 84) (t := false) rfl (by kernel_rfl) (by kernel_rfl) (fun vq wq h => h wq (Grows.refl wq)) fun lq aq wq hk hr K hK => ?_) ?_
                        · have B11 : ev aq (.tmp 11) = .pointer (some ⟨bm, 0, none⟩) := hk.base 11 (by kernel_rfl) rfl
                          have hb : Below _ _ _ := hk.ext
                          exact wp_of_value (op_load 11 _ B11 (Box2.below Dm.out hb)) (hK.out _ _ (Grows.refl _) (fun w2 h2 => ⟨_, _, _, _, rfl, (Sm.out.below hb).below h2⟩) (fun h => absurd h (by decide)))
                        refine AllOps.cons (Does.lets (g := 14) (d := 84) (t := false) rfl (by kernel_rfl) (by kernel_rfl) (fun vq wq h => h wq (Grows.refl wq)) fun lq aq wq hk hr K hK => ?_) ?_
                        · have B15 : ev aq (.tmp 15) = .pointer (some ⟨bf, 0, none⟩) := hk.base 15 (by kernel_rfl) rfl
                          have hb : Below _ _ _ := hk.ext
                          exact wp_of_value (op_load 15 _ B15 (Box2.below Df.out hb)) (hK.out _ _ (Grows.refl _) (fun w2 h2 => ⟨_, _, _, _, rfl, (Sf.out.below hb).below h2⟩) (fun h => absurd h (by decide)))
                        refine AllOps.cons (Does.lets (g := 14) (d := 84) (t := false) rfl (by kernel_rfl) (by kernel_rfl) (fun vq wq h => h wq (Grows.refl wq)) fun lq aq wq hk hr K hK => ?_) ?_
                        · obtain ⟨v15, E15, -, r15⟩ := hk.dep hr 15 85 (by kernel_rfl) (by kernel_rfl)
                          have r15 : ZV wq v15 0 := r15 wq (Grows.refl wq)
                          obtain ⟨v16, E16, -, r16⟩ := hk.dep hr 16 86 (by kernel_rfl) (by kernel_rfl)
                          have r16 : ZV wq v16 0 := r16 wq (Grows.refl wq)
                          refine wp_of_call (f := 20) (vs := #[v15, v16]) (by go_simp) (rsame_v wq r15 r16 (t := true) (decide_eq_true rfl)) ?_
                          rintro e w1 ⟨u, rfl, hu, hb⟩
                          exact ⟨u, rfl, hK.out _ _ hb (fun w2 h2 => hu) (fun h => absurd h (by decide))⟩
                        refine AllOps.cons (Does.lets (g := 14) (d := 84) (t := false) rfl (by kernel_rfl) (by kernel_rfl) (fun vq wq h => h wq (Grows.refl wq)) fun lq aq wq hk hr K hK => ?_) ?_
                        · obtain ⟨v17, E17, -, r17⟩ := hk.dep hr 17 87 (by kernel_rfl) (by kernel_rfl)
                          replace E17 : ev aq (.tmp 87) = .bool true := E17.trans (r17 wq (Grows.refl wq))
                          exact wp_of_value (by go_simp) (hK.out _ _ (Grows.refl _) (fun w2 h2 => rfl) (fun h => absurd h (by decide)))
                        refine AllOps.cons (Does.plain rfl fun lq aq wq hk hr K hK => ?_) ?_
                        · obtain ⟨v14, E14, -, r14⟩ := hk.dep hr 14 84 (by kernel_rfl) (by kernel_rfl)
                          replace E14 : ev aq (.tmp 84) = .bool false := E14.trans (r14 wq (Grows.refl wq))
                          obtain ⟨v18, E18, -, r18⟩ := hk.dep hr 18 88 (by kernel_rfl) (by kernel_rfl)
                          replace E18 : ev aq (.tmp 88) = .bool false := E18.trans (r18 wq (Grows.refl wq))
                          exact wp_of_value (by go_simp) (hK.out _ _ (Grows.refl _) (fun w2 h2 => rfl) (fun h => absurd h (by decide)))
                        exact AllOps.nil
                      case fin =>
                        intro V x12 hG hV hap
                        have r19 : (V 19) = .bool false := hV 19 (by decide)
                        clear hV hap
                        simp only [List.take_succ_cons, List.take_nil, List.drop_succ_cons, List.drop_nil, putAll, Act.put, List.setIfInBounds_toArray, List.set_cons_zero, List.set_cons_succ]
                        have hb := (show Below _ _ _ from hG)
                        replace Dd := Lib.hid (Box2.below Dd.out hb)
                        replace Sd := Lib.hid (Sd.out.below hb)
                        replace Dm := Lib.hid (Box2.below Dm.out hb)
                        replace Sm := Lib.hid (Sm.out.below hb)
                        replace De := Lib.hid (Box2.below De.out hb)
                        replace Se := Lib.hid (Se.out.below hb)
                        replace Df := Lib.hid (Box2.below Df.out hb)
                        replace Sf := Lib.hid (Sf.out.below hb)
                        replace w0 := Lib.hid (w0.out.below hb)
                        replace w1 := Lib.hid (w1.out.below hb)
                        replace w2 := Lib.hid (w2.out.below hb)
                        replace w3 := Lib.hid (w3.out.below hb)
                        replace w4 := Lib.hid (w4.out.below hb)
                        replace w5 := Lib.hid (w5.out.below hb)
                        replace SX := Lib.hid (SX.out.below hb)
                        replace SY := Lib.hid (SY.out.below hb)
                        replace X4 := Lib.hid (X4.out.below hb)
                        replace HB := Lib.hid (HB.out.trans (Below.mono hb HB.out.size))
                        clear hb hG
                        rw [r19]
                        clear r19
                        go_wp2_with fail
                        go_roundw
                        case rel =>
                          (repeat apply Exists.intro)
                          refine ⟨?_, rfl⟩
                          exact ⟨k + 1, by omega, (by first | rfl | simp), HB.out, w0.out, w1.out, w2.out, w3.out, w4.out, w5.out⟩
                        case measure => simp [intOf]; omega
            · skip
              go_upto_region 5 with fail
              refine wp_region_calm 9 [8] ([fun vq _ => vq = .pointer (some ⟨bx, 0, none⟩),
                  fun vq wq => WV wq vq p,
                  fun vq _ => vq = .pointer (some ⟨bx, 2, none⟩),
                  fun vq wq => WV wq vq q,
                  fun vq wq => ∃ u0, vq = .tuple #[u0, .int .i64 0] ∧ ZV wq u0 ((Int.fdiv p q)),
                  fun vq wq => ∃ u0, vq = .tuple #[u0, .int .i64 0] ∧ ZV wq u0 ((Int.fdiv p q)),
                  fun vq wq => ZV wq vq ((Int.fdiv p q)),
                  fun vq _ => vq = .int .i64 0,
                  fun vq wq => ∃ bq, vq = .pointer (some ⟨bq, 0, none⟩) ∧ Box2 wq bq 24 (.bool false) (.slice none 0 0) ∧ (y1).heap.size ≤ bq]) (by kernel_rfl) (by decide) ?hF ?steps ?fin
              case hF =>
                intro j hj v w h
                simp only [List.mem_cons, List.not_mem_nil, or_false] at hj
                subst hj
                all_goals (obtain ⟨b, rfl, hB, _⟩ := h; exact hB.lt)
              case steps =>
                refine AllOps.cons (Does.plain rfl fun lq aq wq hk hr K hK => ?_) ?_
                · have B8 : ev aq (.tmp 8) = .pointer (some ⟨bx, 0, none⟩) := hk.base 8 (by kernel_rfl) rfl
                  exact wp_of_value (by go_simp) (hK.out _ _ (Grows.refl _) (fun w2 h2 => rfl) (fun h => absurd h (by decide)))
                refine AllOps.cons (Does.plain rfl fun lq aq wq hk hr K hK => ?_) ?_
                · obtain ⟨v0, E0, -, r0⟩ := hk.dep hr 0 39 (by kernel_rfl) (by kernel_rfl)
                  replace E0 : ev aq (.tmp 39) = .pointer (some ⟨bx, 0, none⟩) := E0.trans (r0 wq (Grows.refl wq))
                  have hb : Below _ _ _ := hk.ext
                  have c0 := (BoxN.below X4.out hb).cell 0 rfl
                  have c1 := (BoxN.below X4.out hb).cell 1 rfl
                  exact wp_of_value (op_load_at 39 _ 0 E0 c0 c1) (hK.out _ _ (Grows.refl _) (fun w2 h2 => ⟨_, _, _, _, rfl, (SX.out.below hb).below h2⟩) (fun h => absurd h (by decide)))
                refine AllOps.cons (Does.plain rfl fun lq aq wq hk hr K hK => ?_) ?_
                · have B8 : ev aq (.tmp 8) = .pointer (some ⟨bx, 0, none⟩) := hk.base 8 (by kernel_rfl) rfl
                  exact wp_of_value (by go_simp) (hK.out _ _ (Grows.refl _) (fun w2 h2 => rfl) (fun h => absurd h (by decide)))
                refine AllOps.cons (Does.plain rfl fun lq aq wq hk hr K hK => ?_) ?_
                · obtain ⟨v2, E2, -, r2⟩ := hk.dep hr 2 41 (by kernel_rfl) (by kernel_rfl)
                  replace E2 : ev aq (.tmp 41) = .pointer (some ⟨bx, 2, none⟩) := E2.trans (r2 wq (Grows.refl wq))
                  have hb : Below _ _ _ := hk.ext
                  have c0 := (BoxN.below X4.out hb).cell 2 rfl
                  have c1 := (BoxN.below X4.out hb).cell 3 rfl
                  exact wp_of_value (op_load_at 41 _ 2 E2 c0 c1) (hK.out _ _ (Grows.refl _) (fun w2 h2 => ⟨_, _, _, _, rfl, (SY.out.below hb).below h2⟩) (fun h => absurd h (by decide)))
                refine AllOps.cons (Does.plain rfl fun lq aq wq hk hr K hK => ?_) ?_
                · obtain ⟨v1, E1, -, r1⟩ := hk.dep hr 1 40 (by kernel_rfl) (by kernel_rfl)
                  have r1 : WV wq v1 p := r1 wq (Grows.refl wq)
                  obtain ⟨v3, E3, -, r3⟩ := hk.dep hr 3 42 (by kernel_rfl) (by kernel_rfl)
                  have r3 : WV wq v3 q := r3 wq (Grows.refl wq)
                  refine wp_of_call (f := 16) (vs := #[v1, v3]) (by go_simp) (div_v wq r1 r3 hq0 (Nat.le_trans (szz_fdiv q hkp) (by decide))) ?_
                  rintro e w1 ⟨u, rfl, hu, hb⟩
                  exact ⟨u, rfl, hK.out _ _ hb (fun w2 h2 => (let ⟨u0, e0, h0⟩ := hu; ⟨u0, e0, (h0).grow h2⟩)) (fun h => absurd h (by decide))⟩
                refine AllOps.cons (Does.plain rfl fun lq aq wq hk hr K hK => ?_) ?_
                · obtain ⟨v4, E4, -, r4⟩ := hk.dep hr 4 43 (by kernel_rfl) (by kernel_rfl)
                  have r4 : ∃ u0, v4 = .tuple #[u0, .int .i64 0] ∧ ZV wq u0 ((Int.fdiv p q)) := r4 wq (Grows.refl wq)
                  exact wp_of_value (by go_simp) (hK.out _ _ (Grows.refl _) (fun w2 h2 => (let ⟨u0, e0, h0⟩ := r4; ⟨u0, e0, (h0).grow h2⟩)) (fun h => absurd h (by decide)))
                refine AllOps.cons (Does.plain rfl fun lq aq wq hk hr K hK => ?_) ?_
                · obtain ⟨v5, E5, -, r5⟩ := hk.dep hr 5 38 (by kernel_rfl) (by kernel_rfl)
                  have r5 : ∃ u0, v5 = .tuple #[u0, .int .i64 0] ∧ ZV wq u0 ((Int.fdiv p q)) := r5 wq (Grows.refl wq)
                  obtain ⟨u0, rfl, h0⟩ := r5
                  exact wp_of_value (by go_simp) (hK.out _ _ (Grows.refl _) (fun w2 h2 => (h0).grow h2) (fun h => absurd h (by decide)))
                refine AllOps.cons (Does.plain rfl fun lq aq wq hk hr K hK => ?_) ?_
                · obtain ⟨v5, E5, -, r5⟩ := hk.dep hr 5 38 (by kernel_rfl) (by kernel_rfl)
                  have r5 : ∃ u0, v5 = .tuple #[u0, .int .i64 0] ∧ ZV wq u0 ((Int.fdiv p q)) := r5 wq (Grows.refl wq)
                  obtain ⟨u0, rfl, h0⟩ := r5
                  exact wp_of_value (by go_simp) (hK.out _ _ (Grows.refl _) (fun w2 h2 => rfl) (fun h => absurd h (by decide)))
                refine AllOps.cons (Does.plain rfl fun lq aq wq hk hr K hK => ?_) ?_
                · exact wp_of_value (by go_simp) (hK.out _ _ ((Grows.refl _).alloc _) (fun w2 h2 => ⟨_, rfl, (Box2.new wq 24 _ _).below h2, hk.ext.size⟩) (fun _ => Nat.le_refl _))
                exact AllOps.nil
              case fin =>
                intro V x4 hG hV hap
                have r6 : ZV x4 (V 6) ((Int.fdiv p q)) := hV 6 (by decide)
                have r7 : (V 7) = .int .i64 0 := hV 7 (by decide)
                have r8 : ∃ bq, (V 8) = .pointer (some ⟨bq, 0, none⟩) ∧ Box2 x4 bq 24 (.bool false) (.slice none 0 0) ∧ (y1).heap.size ≤ bq := hV 8 (by decide)
                clear hV
                simp only [List.take_succ_cons, List.take_zero, List.drop_succ_cons, List.drop_zero, putAll, Act.put, List.setIfInBounds_toArray, List.set_cons_zero, List.set_cons_succ]
                have hb := (show Below _ _ _ from hG)
                obtain ⟨bd, ed, Dd, gd⟩ := r8
                obtain ⟨nd, Ad, kd, cd, ed', sd⟩ := r6
                simp only [ed, ed', r7]
                clear ed ed' hap r7
                refine wpList_of_skip rfl (op_store 9 44 _ rfl rfl Dd) ?_
                have hB := put2_below (u := .bool nd) (v := .slice Ad kd cd) hb gd
                replace sd := sd.put Dd (.bool nd) (.slice Ad kd cd)
                replace Dd := put2_own (u := .bool nd) (v := .slice Ad kd cd) Dd
                clear hb
                generalize put2 x4 bd (.bool nd) (.slice Ad kd cd) = y5 at *
                replace w0 := Lib.hid (w0.out.below hB)
                replace w1 := Lib.hid (w1.out.below hB)
                replace w2 := Lib.hid (w2.out.below hB)
                replace w3 := Lib.hid (w3.out.below hB)
                replace w4 := Lib.hid (w4.out.below hB)
                replace w5 := Lib.hid (w5.out.below hB)
                replace SX := Lib.hid (SX.out.below hB)
                replace SY := Lib.hid (SY.out.below hB)
                replace X4 := Lib.hid (X4.out.below hB)
                replace HB := Lib.hid (HB.out.trans (Below.mono hB HB.out.size))
                replace Dd := Lib.hid Dd
                have Sd := Lib.hid sd
                clear hG hB gd sd
                go_upto_region 6 with fail
                refine wp_region_calm 9 [8] ([fun vq _ => vq = .pointer (some ⟨bx, 0, none⟩),
                    fun vq wq => WV wq vq p,
                    fun vq _ => vq = .pointer (some ⟨bx, 2, none⟩),
                    fun vq wq => WV wq vq q,
                    fun vq wq => ∃ u0, vq = .tuple #[u0, .int .i64 0] ∧ ZV wq u0 ((Int.fmod p q)),
                    fun vq wq => ∃ u0, vq = .tuple #[u0, .int .i64 0] ∧ ZV wq u0 ((Int.fmod p q)),
                    fun vq wq => ZV wq vq ((Int.fmod p q)),
                    fun vq _ => vq = .int .i64 0,
                    fun vq wq => ∃ bq, vq = .pointer (some ⟨bq, 0, none⟩) ∧ Box2 wq bq 24 (.bool false) (.slice none 0 0) ∧ (y5).heap.size ≤ bq]) (by kernel_rfl) (by decide) ?hF ?steps ?fin
                case hF =>
                  intro j hj v w h
                  simp only [List.mem_cons, List.not_mem_nil, or_false] at hj
                  subst hj
                  all_goals (obtain ⟨b, rfl, hB, _⟩ := h; exact hB.lt)
                case steps =>
                  refine AllOps.cons (Does.plain rfl fun lq aq wq hk hr K hK => ?_) ?_
                  · have B8 : ev aq (.tmp 8) = .pointer (some ⟨bx, 0, none⟩) := hk.base 8 (by kernel_rfl) rfl
                    exact wp_of_value (by go_simp) (hK.out _ _ (Grows.refl _) (fun w2 h2 => rfl) (fun h => absurd h (by decide)))
                  refine AllOps.cons (Does.plain rfl fun lq aq wq hk hr K hK => ?_) ?_
                  · obtain ⟨v0, E0, -, r0⟩ := hk.dep hr 0 47 (by kernel_rfl) (by kernel_rfl)
                    replace E0 : ev aq (.tmp 47) = .pointer (some ⟨bx, 0, none⟩) := E0.trans (r0 wq (Grows.refl wq))
                    have hb : Below _ _ _ := hk.ext
                    have c0 := (BoxN.below X4.out hb).cell 0 rfl
                    have c1 := (BoxN.below X4.out hb).cell 1 rfl
                    exact wp_of_value (op_load_at 47 _ 0 E0 c0 c1) (hK.out _ _ (Grows.refl _) (fun w2 h2 => ⟨_, _, _, _, rfl, (SX.out.below hb).below h2⟩) (fun h => absurd h (by decide)))
                  refine AllOps.cons (Does.plain rfl fun lq aq wq hk hr K hK => ?_) ?_
                  · have B8 : ev aq (.tmp 8) = .pointer (some ⟨bx, 0, none⟩) := hk.base 8 (by kernel_rfl) rfl
                    exact wp_of_value (by go_simp) (hK.out _ _ (Grows.refl _) (fun w2 h2 => rfl) (fun h => absurd h (by decide)))
                  refine AllOps.cons (Does.plain rfl fun lq aq wq hk hr K hK => ?_) ?_
                  · obtain ⟨v2, E2, -, r2⟩ := hk.dep hr 2 49 (by kernel_rfl) (by kernel_rfl)
                    replace E2 : ev aq (.tmp 49) = .pointer (some ⟨bx, 2, none⟩) := E2.trans (r2 wq (Grows.refl wq))
                    have hb : Below _ _ _ := hk.ext
                    have c0 := (BoxN.below X4.out hb).cell 2 rfl
                    have c1 := (BoxN.below X4.out hb).cell 3 rfl
                    exact wp_of_value (op_load_at 49 _ 2 E2 c0 c1) (hK.out _ _ (Grows.refl _) (fun w2 h2 => ⟨_, _, _, _, rfl, (SY.out.below hb).below h2⟩) (fun h => absurd h (by decide)))
                  refine AllOps.cons (Does.plain rfl fun lq aq wq hk hr K hK => ?_) ?_
                  · obtain ⟨v1, E1, -, r1⟩ := hk.dep hr 1 48 (by kernel_rfl) (by kernel_rfl)
                    have r1 : WV wq v1 p := r1 wq (Grows.refl wq)
                    obtain ⟨v3, E3, -, r3⟩ := hk.dep hr 3 50 (by kernel_rfl) (by kernel_rfl)
                    have r3 : WV wq v3 q := r3 wq (Grows.refl wq)
                    refine wp_of_call (f := 17) (vs := #[v1, v3]) (by go_simp) (mod_v wq r1 r3 hq0 (Nat.le_trans (szz_fmod p hq0 hkq) (by decide))) ?_
                    rintro e w1 ⟨u, rfl, hu, hb⟩
                    exact ⟨u, rfl, hK.out _ _ hb (fun w2 h2 => (let ⟨u0, e0, h0⟩ := hu; ⟨u0, e0, (h0).grow h2⟩)) (fun h => absurd h (by decide))⟩
                  refine AllOps.cons (Does.plain rfl fun lq aq wq hk hr K hK => ?_) ?_
                  · obtain ⟨v4, E4, -, r4⟩ := hk.dep hr 4 51 (by kernel_rfl) (by kernel_rfl)
                    have r4 : ∃ u0, v4 = .tuple #[u0, .int .i64 0] ∧ ZV wq u0 ((Int.fmod p q)) := r4 wq (Grows.refl wq)
                    exact wp_of_value (by go_simp) (hK.out _ _ (Grows.refl _) (fun w2 h2 => (let ⟨u0, e0, h0⟩ := r4; ⟨u0, e0, (h0).grow h2⟩)) (fun h => absurd h (by decide)))
                  refine AllOps.cons (Does.plain rfl fun lq aq wq hk hr K hK => ?_) ?_
                  · obtain ⟨v5, E5, -, r5⟩ := hk.dep hr 5 46 (by kernel_rfl) (by kernel_rfl)
                    have r5 : ∃ u0, v5 = .tuple #[u0, .int .i64 0] ∧ ZV wq u0 ((Int.fmod p q)) := r5 wq (Grows.refl wq)
                    obtain ⟨u0, rfl, h0⟩ := r5
                    exact wp_of_value (by go_simp) (hK.out _ _ (Grows.refl _) (fun w2 h2 => (h0).grow h2) (fun h => absurd h (by decide)))
                  refine AllOps.cons (Does.plain rfl fun lq aq wq hk hr K hK => ?_) ?_
                  · obtain ⟨v5, E5, -, r5⟩ := hk.dep hr 5 46 (by kernel_rfl) (by kernel_rfl)
                    have r5 : ∃ u0, v5 = .tuple #[u0, .int .i64 0] ∧ ZV wq u0 ((Int.fmod p q)) := r5 wq (Grows.refl wq)
                    obtain ⟨u0, rfl, h0⟩ := r5
                    exact wp_of_value (by go_simp) (hK.out _ _ (Grows.refl _) (fun w2 h2 => rfl) (fun h => absurd h (by decide)))
                  refine AllOps.cons (Does.plain rfl fun lq aq wq hk hr K hK => ?_) ?_
                  · exact wp_of_value (by go_simp) (hK.out _ _ ((Grows.refl _).alloc _) (fun w2 h2 => ⟨_, rfl, (Box2.new wq 24 _ _).below h2, hk.ext.size⟩) (fun _ => Nat.le_refl _))
                  exact AllOps.nil
                case fin =>
                  intro V x6 hG hV hap
                  have r6 : ZV x6 (V 6) ((Int.fmod p q)) := hV 6 (by decide)
                  have r7 : (V 7) = .int .i64 0 := hV 7 (by decide)
                  have r8 : ∃ bq, (V 8) = .pointer (some ⟨bq, 0, none⟩) ∧ Box2 x6 bq 24 (.bool false) (.slice none 0 0) ∧ (y5).heap.size ≤ bq := hV 8 (by decide)
                  clear hV
                  simp only [List.take_succ_cons, List.take_zero, List.drop_succ_cons, List.drop_zero, putAll, Act.put, List.setIfInBounds_toArray, List.set_cons_zero, List.set_cons_succ]
                  have hb := (show Below _ _ _ from hG)
                  obtain ⟨bm, em, Dm, gm⟩ := r8
                  obtain ⟨nm, Am, km, cm, em', sm⟩ := r6
                  simp only [em, em', r7]
                  clear em em' hap r7
                  refine wpList_of_skip rfl (op_store 11 52 _ rfl rfl Dm) ?_
                  have hB := put2_below (u := .bool nm) (v := .slice Am km cm) hb gm
                  replace sm := sm.put Dm (.bool nm) (.slice Am km cm)
                  replace Dm := put2_own (u := .bool nm) (v := .slice Am km cm) Dm
                  clear hb
                  generalize put2 x6 bm (.bool nm) (.slice Am km cm) = y7 at *
                  replace Dd := Lib.hid (Box2.below Dd.out hB)
                  replace Sd := Lib.hid (Sd.out.below hB)
                  replace w0 := Lib.hid (w0.out.below hB)
                  replace w1 := Lib.hid (w1.out.below hB)
                  replace w2 := Lib.hid (w2.out.below hB)
                  replace w3 := Lib.hid (w3.out.below hB)
                  replace w4 := Lib.hid (w4.out.below hB)
                  replace w5 := Lib.hid (w5.out.below hB)
                  replace SX := Lib.hid (SX.out.below hB)
                  replace SY := Lib.hid (SY.out.below hB)
                  replace X4 := Lib.hid (X4.out.below hB)
                  replace HB := Lib.hid (HB.out.trans (Below.mono hB HB.out.size))
                  replace Dm := Lib.hid Dm
                  have Sm := Lib.hid sm
                  clear hG hB gm sm
                  go_upto_region 7 with fail
                  refine wp_region_calm 9 [8] ([fun vq _ => vq = .pointer (some ⟨bx, 0, none⟩),
                      fun vq wq => WV wq vq p,
                      fun vq _ => vq = .pointer (some ⟨bx, 2, none⟩),
                      fun vq wq => WV wq vq q,
                      fun vq wq => ∃ u0, vq = .tuple #[u0, .int .i64 0] ∧ ZV wq u0 ((Int.fdiv p q)),
                      fun vq wq => ∃ u0, vq = .tuple #[u0, .int .i64 0] ∧ ZV wq u0 ((Int.fdiv p q)),
                      fun vq wq => ZV wq vq ((Int.fdiv p q)),
                      fun vq _ => vq = .int .i64 0,
                      fun vq wq => ∃ bq, vq = .pointer (some ⟨bq, 0, none⟩) ∧ Box2 wq bq 24 (.bool false) (.slice none 0 0) ∧ (y7).heap.size ≤ bq]) (by kernel_rfl) (by decide) ?hF ?steps ?fin
                  case hF =>
                    intro j hj v w h
                    simp only [List.mem_cons, List.not_mem_nil, or_false] at hj
                    subst hj
                    all_goals (obtain ⟨b, rfl, hB, _⟩ := h; exact hB.lt)
                  case steps =>
                    refine AllOps.cons (Does.plain rfl fun lq aq wq hk hr K hK => ?_) ?_
                    · have B8 : ev aq (.tmp 8) = .pointer (some ⟨bx, 0, none⟩) := hk.base 8 (by kernel_rfl) rfl
                      exact wp_of_value (by go_simp) (hK.out _ _ (Grows.refl _) (fun w2 h2 => rfl) (fun h => absurd h (by decide)))
                    refine AllOps.cons (Does.plain rfl fun lq aq wq hk hr K hK => ?_) ?_
                    · obtain ⟨v0, E0, -, r0⟩ := hk.dep hr 0 55 (by kernel_rfl) (by kernel_rfl)
                      replace E0 : ev aq (.tmp 55) = .pointer (some ⟨bx, 0, none⟩) := E0.trans (r0 wq (Grows.refl wq))
                      have hb : Below _ _ _ := hk.ext
                      have c0 := (BoxN.below X4.out hb).cell 0 rfl
                      have c1 := (BoxN.below X4.out hb).cell 1 rfl
                      exact wp_of_value (op_load_at 55 _ 0 E0 c0 c1) (hK.out _ _ (Grows.refl _) (fun w2 h2 => ⟨_, _, _, _, rfl, (SX.out.below hb).below h2⟩) (fun h => absurd h (by decide)))
                    refine AllOps.cons (Does.plain rfl fun lq aq wq hk hr K hK => ?_) ?_
                    · have B8 : ev aq (.tmp 8) = .pointer (some ⟨bx, 0, none⟩) := hk.base 8 (by kernel_rfl) rfl
                      exact wp_of_value (by go_simp) (hK.out _ _ (Grows.refl _) (fun w2 h2 => rfl) (fun h => absurd h (by decide)))
                    refine AllOps.cons (Does.plain rfl fun lq aq wq hk hr K hK => ?_) ?_
                    · obtain ⟨v2, E2, -, r2⟩ := hk.dep hr 2 57 (by kernel_rfl) (by kernel_rfl)
                      replace E2 : ev aq (.tmp 57) = .pointer (some ⟨bx, 2, none⟩) := E2.trans (r2 wq (Grows.refl wq))
                      have hb : Below _ _ _ := hk.ext
                      have c0 := (BoxN.below X4.out hb).cell 2 rfl
                      have c1 := (BoxN.below X4.out hb).cell 3 rfl
                      exact wp_of_value (op_load_at 57 _ 2 E2 c0 c1) (hK.out _ _ (Grows.refl _) (fun w2 h2 => ⟨_, _, _, _, rfl, (SY.out.below hb).below h2⟩) (fun h => absurd h (by decide)))
                    refine AllOps.cons (Does.plain rfl fun lq aq wq hk hr K hK => ?_) ?_
                    · obtain ⟨v1, E1, -, r1⟩ := hk.dep hr 1 56 (by kernel_rfl) (by kernel_rfl)
                      have r1 : WV wq v1 p := r1 wq (Grows.refl wq)
                      obtain ⟨v3, E3, -, r3⟩ := hk.dep hr 3 58 (by kernel_rfl) (by kernel_rfl)
                      have r3 : WV wq v3 q := r3 wq (Grows.refl wq)
                      refine wp_of_call (f := 18) (vs := #[v1, v3]) (by go_simp) (rdiv_v wq r1 r3 hq0) ?_
                      rintro e w1 ⟨u, rfl, hu, hb⟩
                      exact ⟨u, rfl, hK.out _ _ hb (fun w2 h2 => (let ⟨u0, e0, h0⟩ := hu; ⟨u0, e0, (h0).grow h2⟩)) (fun h => absurd h (by decide))⟩
                    refine AllOps.cons (Does.plain rfl fun lq aq wq hk hr K hK => ?_) ?_
                    · obtain ⟨v4, E4, -, r4⟩ := hk.dep hr 4 59 (by kernel_rfl) (by kernel_rfl)
                      have r4 : ∃ u0, v4 = .tuple #[u0, .int .i64 0] ∧ ZV wq u0 ((Int.fdiv p q)) := r4 wq (Grows.refl wq)
                      exact wp_of_value (by go_simp) (hK.out _ _ (Grows.refl _) (fun w2 h2 => (let ⟨u0, e0, h0⟩ := r4; ⟨u0, e0, (h0).grow h2⟩)) (fun h => absurd h (by decide)))
                    refine AllOps.cons (Does.plain rfl fun lq aq wq hk hr K hK => ?_) ?_
                    · obtain ⟨v5, E5, -, r5⟩ := hk.dep hr 5 54 (by kernel_rfl) (by kernel_rfl)
                      have r5 : ∃ u0, v5 = .tuple #[u0, .int .i64 0] ∧ ZV wq u0 ((Int.fdiv p q)) := r5 wq (Grows.refl wq)
                      obtain ⟨u0, rfl, h0⟩ := r5
                      exact wp_of_value (by go_simp) (hK.out _ _ (Grows.refl _) (fun w2 h2 => (h0).grow h2) (fun h => absurd h (by decide)))
                    refine AllOps.cons (Does.plain rfl fun lq aq wq hk hr K hK => ?_) ?_
                    · obtain ⟨v5, E5, -, r5⟩ := hk.dep hr 5 54 (by kernel_rfl) (by kernel_rfl)
                      have r5 : ∃ u0, v5 = .tuple #[u0, .int .i64 0] ∧ ZV wq u0 ((Int.fdiv p q)) := r5 wq (Grows.refl wq)
                      obtain ⟨u0, rfl, h0⟩ := r5
                      exact wp_of_value (by go_simp) (hK.out _ _ (Grows.refl _) (fun w2 h2 => rfl) (fun h => absurd h (by decide)))
                    refine AllOps.cons (Does.plain rfl fun lq aq wq hk hr K hK => ?_) ?_
                    · exact wp_of_value (by go_simp) (hK.out _ _ ((Grows.refl _).alloc _) (fun w2 h2 => ⟨_, rfl, (Box2.new wq 24 _ _).below h2, hk.ext.size⟩) (fun _ => Nat.le_refl _))
                    exact AllOps.nil
                  case fin =>
                    intro V x8 hG hV hap
                    have r6 : ZV x8 (V 6) ((Int.fdiv p q)) := hV 6 (by decide)
                    have r7 : (V 7) = .int .i64 0 := hV 7 (by decide)
                    have r8 : ∃ bq, (V 8) = .pointer (some ⟨bq, 0, none⟩) ∧ Box2 x8 bq 24 (.bool false) (.slice none 0 0) ∧ (y7).heap.size ≤ bq := hV 8 (by decide)
                    clear hV
                    simp only [List.take_succ_cons, List.take_zero, List.drop_succ_cons, List.drop_zero, putAll, Act.put, List.setIfInBounds_toArray, List.set_cons_zero, List.set_cons_succ]
                    have hb := (show Below _ _ _ from hG)
                    obtain ⟨be, ee, De, ge⟩ := r8
                    obtain ⟨ne, Ae, ke, ce, ee', se⟩ := r6
                    simp only [ee, ee', r7]
                    clear ee ee' hap r7
                    refine wpList_of_skip rfl (op_store 13 60 _ rfl rfl De) ?_
                    have hB := put2_below (u := .bool ne) (v := .slice Ae ke ce) hb ge
                    replace se := se.put De (.bool ne) (.slice Ae ke ce)
                    replace De := put2_own (u := .bool ne) (v := .slice Ae ke ce) De
                    clear hb
                    generalize put2 x8 be (.bool ne) (.slice Ae ke ce) = y9 at *
                    replace Dd := Lib.hid (Box2.below Dd.out hB)
                    replace Sd := Lib.hid (Sd.out.below hB)
                    replace Dm := Lib.hid (Box2.below Dm.out hB)
                    replace Sm := Lib.hid (Sm.out.below hB)
                    replace w0 := Lib.hid (w0.out.below hB)
                    replace w1 := Lib.hid (w1.out.below hB)
                    replace w2 := Lib.hid (w2.out.below hB)
                    replace w3 := Lib.hid (w3.out.below hB)
                    replace w4 := Lib.hid (w4.out.below hB)
                    replace w5 := Lib.hid (w5.out.below hB)
                    replace SX := Lib.hid (SX.out.below hB)
                    replace SY := Lib.hid (SY.out.below hB)
                    replace X4 := Lib.hid (X4.out.below hB)
                    replace HB := Lib.hid (HB.out.trans (Below.mono hB HB.out.size))
                    replace De := Lib.hid De
                    have Se := Lib.hid se
                    clear hG hB ge se
                    go_upto_region 8 with fail
                    refine wp_region_calm 9 [8] ([fun vq _ => vq = .pointer (some ⟨bx, 0, none⟩),
                        fun vq wq => WV wq vq p,
                        fun vq _ => vq = .pointer (some ⟨bx, 2, none⟩),
                        fun vq wq => WV wq vq q,
                        fun vq wq => ∃ u0, vq = .tuple #[u0, .int .i64 0] ∧ ZV wq u0 ((Int.fmod p q)),
                        fun vq wq => ∃ u0, vq = .tuple #[u0, .int .i64 0] ∧ ZV wq u0 ((Int.fmod p q)),
                        fun vq wq => ZV wq vq ((Int.fmod p q)),
                        fun vq _ => vq = .int .i64 0,
                        fun vq wq => ∃ bq, vq = .pointer (some ⟨bq, 0, none⟩) ∧ Box2 wq bq 24 (.bool false) (.slice none 0 0) ∧ (y9).heap.size ≤ bq]) (by kernel_rfl) (by decide) ?hF ?steps ?fin
                    case hF =>
                      intro j hj v w h
                      simp only [List.mem_cons, List.not_mem_nil, or_false] at hj
                      subst hj
                      all_goals (obtain ⟨b, rfl, hB, _⟩ := h; exact hB.lt)
                    case steps =>
                      refine AllOps.cons (Does.plain rfl fun lq aq wq hk hr K hK => ?_) ?_
                      · have B8 : ev aq (.tmp 8) = .pointer (some ⟨bx, 0, none⟩) := hk.base 8 (by kernel_rfl) rfl
                        exact wp_of_value (by go_simp) (hK.out _ _ (Grows.refl _) (fun w2 h2 => rfl) (fun h => absurd h (by decide)))
                      refine AllOps.cons (Does.plain rfl fun lq aq wq hk hr K hK => ?_) ?_
                      · obtain ⟨v0, E0, -, r0⟩ := hk.dep hr 0 63 (by kernel_rfl) (by kernel_rfl)
                        replace E0 : ev aq (.tmp 63) = .pointer (some ⟨bx, 0, none⟩) := E0.trans (r0 wq (Grows.refl wq))
                        have hb : Below _ _ _ := hk.ext
                        have c0 := (BoxN.below X4.out hb).cell 0 rfl
                        have c1 := (BoxN.below X4.out hb).cell 1 rfl
                        exact wp_of_value (op_load_at 63 _ 0 E0 c0 c1) (hK.out _ _ (Grows.refl _) (fun w2 h2 => ⟨_, _, _, _, rfl, (SX.out.below hb).below h2⟩) (fun h => absurd h (by decide)))
                      refine AllOps.cons (Does.plain rfl fun lq aq wq hk hr K hK => ?_) ?_
                      · have B8 : ev aq (.tmp 8) = .pointer (some ⟨bx, 0, none⟩) := hk.base 8 (by kernel_rfl) rfl
                        exact wp_of_value (by go_simp) (hK.out _ _ (Grows.refl _) (fun w2 h2 => rfl) (fun h => absurd h (by decide)))
                      refine AllOps.cons (Does.plain rfl fun lq aq wq hk hr K hK => ?_) ?_
                      · obtain ⟨v2, E2, -, r2⟩ := hk.dep hr 2 65 (by kernel_rfl) (by kernel_rfl)
                        replace E2 : ev aq (.tmp 65) = .pointer (some ⟨bx, 2, none⟩) := E2.trans (r2 wq (Grows.refl wq))
                        have hb : Below _ _ _ := hk.ext
                        have c0 := (BoxN.below X4.out hb).cell 2 rfl
                        have c1 := (BoxN.below X4.out hb).cell 3 rfl
                        exact wp_of_value (op_load_at 65 _ 2 E2 c0 c1) (hK.out _ _ (Grows.refl _) (fun w2 h2 => ⟨_, _, _, _, rfl, (SY.out.below hb).below h2⟩) (fun h => absurd h (by decide)))
                      refine AllOps.cons (Does.plain rfl fun lq aq wq hk hr K hK => ?_) ?_
                      · obtain ⟨v1, E1, -, r1⟩ := hk.dep hr 1 64 (by kernel_rfl) (by kernel_rfl)
                        have r1 : WV wq v1 p := r1 wq (Grows.refl wq)
                        obtain ⟨v3, E3, -, r3⟩ := hk.dep hr 3 66 (by kernel_rfl) (by kernel_rfl)
                        have r3 : WV wq v3 q := r3 wq (Grows.refl wq)
                        refine wp_of_call (f := 19) (vs := #[v1, v3]) (by go_simp) (rmod_v wq r1 r3 (Nat.le_trans hkp (by decide)) (Nat.le_trans hkq (by decide)) hq0) ?_
                        rintro e w1 ⟨u, rfl, hu, hb⟩
                        exact ⟨u, rfl, hK.out _ _ hb (fun w2 h2 => (let ⟨u0, e0, h0⟩ := hu; ⟨u0, e0, (h0).grow h2⟩)) (fun h => absurd h (by decide))⟩
                      refine AllOps.cons (Does.plain rfl fun lq aq wq hk hr K hK => ?_) ?_
                      · obtain ⟨v4, E4, -, r4⟩ := hk.dep hr 4 67 (by kernel_rfl) (by kernel_rfl)
                        have r4 : ∃ u0, v4 = .tuple #[u0, .int .i64 0] ∧ ZV wq u0 ((Int.fmod p q)) := r4 wq (Grows.refl wq)
                        exact wp_of_value (by go_simp) (hK.out _ _ (Grows.refl _) (fun w2 h2 => (let ⟨u0, e0, h0⟩ := r4; ⟨u0, e0, (h0).grow h2⟩)) (fun h => absurd h (by decide)))
                      refine AllOps.cons (Does.plain rfl fun lq aq wq hk hr K hK => ?_) ?_
                      · obtain ⟨v5, E5, -, r5⟩ := hk.dep hr 5 62 (by kernel_rfl) (by kernel_rfl)
                        have r5 : ∃ u0, v5 = .tuple #[u0, .int .i64 0] ∧ ZV wq u0 ((Int.fmod p q)) := r5 wq (Grows.refl wq)
                        obtain ⟨u0, rfl, h0⟩ := r5
                        exact wp_of_value (by go_simp) (hK.out _ _ (Grows.refl _) (fun w2 h2 => (h0).grow h2) (fun h => absurd h (by decide)))
                      refine AllOps.cons (Does.plain rfl fun lq aq wq hk hr K hK => ?_) ?_
                      · obtain ⟨v5, E5, -, r5⟩ := hk.dep hr 5 62 (by kernel_rfl) (by kernel_rfl)
                        have r5 : ∃ u0, v5 = .tuple #[u0, .int .i64 0] ∧ ZV wq u0 ((Int.fmod p q)) := r5 wq (Grows.refl wq)
                        obtain ⟨u0, rfl, h0⟩ := r5
                        exact wp_of_value (by go_simp) (hK.out _ _ (Grows.refl _) (fun w2 h2 => rfl) (fun h => absurd h (by decide)))
                      refine AllOps.cons (Does.plain rfl fun lq aq wq hk hr K hK => ?_) ?_
                      · exact wp_of_value (by go_simp) (hK.out _ _ ((Grows.refl _).alloc _) (fun w2 h2 => ⟨_, rfl, (Box2.new wq 24 _ _).below h2, hk.ext.size⟩) (fun _ => Nat.le_refl _))
                      exact AllOps.nil
                    case fin =>
                      intro V x10 hG hV hap
                      have r6 : ZV x10 (V 6) ((Int.fmod p q)) := hV 6 (by decide)
                      have r7 : (V 7) = .int .i64 0 := hV 7 (by decide)
                      have r8 : ∃ bq, (V 8) = .pointer (some ⟨bq, 0, none⟩) ∧ Box2 x10 bq 24 (.bool false) (.slice none 0 0) ∧ (y9).heap.size ≤ bq := hV 8 (by decide)
                      clear hV
                      simp only [List.take_succ_cons, List.take_zero, List.drop_succ_cons, List.drop_zero, putAll, Act.put, List.setIfInBounds_toArray, List.set_cons_zero, List.set_cons_succ]
                      have hb := (show Below _ _ _ from hG)
                      obtain ⟨bf, ef, Df, gf⟩ := r8
                      obtain ⟨nf, Af, kf, cf, ef', sf⟩ := r6
                      simp only [ef, ef', r7]
                      clear ef ef' hap r7
                      refine wpList_of_skip rfl (op_store 15 68 _ rfl rfl Df) ?_
                      have hB := put2_below (u := .bool nf) (v := .slice Af kf cf) hb gf
                      replace sf := sf.put Df (.bool nf) (.slice Af kf cf)
                      replace Df := put2_own (u := .bool nf) (v := .slice Af kf cf) Df
                      clear hb
                      generalize put2 x10 bf (.bool nf) (.slice Af kf cf) = y11 at *
                      replace Dd := Lib.hid (Box2.below Dd.out hB)
                      replace Sd := Lib.hid (Sd.out.below hB)
                      replace Dm := Lib.hid (Box2.below Dm.out hB)
                      replace Sm := Lib.hid (Sm.out.below hB)
                      replace De := Lib.hid (Box2.below De.out hB)
                      replace Se := Lib.hid (Se.out.below hB)
                      replace w0 := Lib.hid (w0.out.below hB)
                      replace w1 := Lib.hid (w1.out.below hB)
                      replace w2 := Lib.hid (w2.out.below hB)
                      replace w3 := Lib.hid (w3.out.below hB)
                      replace w4 := Lib.hid (w4.out.below hB)
                      replace w5 := Lib.hid (w5.out.below hB)
                      replace SX := Lib.hid (SX.out.below hB)
                      replace SY := Lib.hid (SY.out.below hB)
                      replace X4 := Lib.hid (X4.out.below hB)
                      replace HB := Lib.hid (HB.out.trans (Below.mono hB HB.out.size))
                      replace Df := Lib.hid Df
                      have Sf := Lib.hid sf
                      clear hG hB gf sf
                      go_upto_region 9 with fail
                      refine wp_region_calm 20 [] ([fun vq _ => vq = .int .i64 0,
                          fun vq _ => vq = .int .i64 0,
                          fun vq _ => vq = .bool false,
                          fun vq _ => vq = .bool false,
                          fun vq _ => vq = .int .i64 0,
                          fun vq _ => vq = .int .i64 0,
                          fun vq _ => vq = .bool false,
                          fun vq _ => vq = .bool false,
                          fun vq _ => vq = .bool false,
                          fun vq wq => ZV wq vq ((Int.fdiv p q)),
                          fun vq wq => ZV wq vq ((Int.fdiv p q)),
                          fun vq _ => vq = .bool true,
                          fun vq _ => vq = .bool false,
                          fun vq _ => vq = .bool false,
                          fun vq _ => vq = .bool false,
                          fun vq wq => ZV wq vq ((Int.fmod p q)),
                          fun vq wq => ZV wq vq ((Int.fmod p q)),
                          fun vq _ => vq = .bool true,
                          fun vq _ => vq = .bool false,
                          fun vq _ => vq = .bool false]) (by kernel_rfl) (by decide) ?hF ?steps ?fin
                      case hF =>
                        intro j hj; cases hj
                      case steps =>
                        refine AllOps.cons (Does.plain rfl fun lq aq wq hk hr K hK => ?_) ?_
                        · have B10 : ev aq (.tmp 10) = .int .i64 0 := hk.base 10 (by kernel_rfl) rfl
                          exact wp_of_value (by go_simp) (hK.out _ _ (Grows.refl _) (fun w2 h2 => rfl) (fun h => absurd h (by decide)))
                        refine AllOps.cons (Does.plain rfl fun lq aq wq hk hr K hK => ?_) ?_
                        · have B14 : ev aq (.tmp 14) = .int .i64 0 := hk.base 14 (by kernel_rfl) rfl
                          exact wp_of_value (by go_simp) (hK.out _ _ (Grows.refl _) (fun w2 h2 => rfl) (fun h => absurd h (by decide)))
                        refine AllOps.cons (Does.plain rfl fun lq aq wq hk hr K hK => ?_) ?_
                        · obtain ⟨v0, E0, -, r0⟩ := hk.dep hr 0 70 (by kernel_rfl) (by kernel_rfl)
                          replace E0 : ev aq (.tmp 70) = .int .i64 0 := E0.trans (r0 wq (Grows.refl wq))
                          obtain ⟨v1, E1, -, r1⟩ := hk.dep hr 1 71 (by kernel_rfl) (by kernel_rfl)
                          replace E1 : ev aq (.tmp 71) = .int .i64 0 := E1.trans (r1 wq (Grows.refl wq))
                          exact wp_of_value (by go_simp) (hK.out _ _ (Grows.refl _) (fun w2 h2 => rfl) (fun h => absurd h (by decide)))
                        refine AllOps.cons (Does.plain rfl fun lq aq wq hk hr K hK => ?_) ?_
                        · obtain ⟨v2, E2, -, r2⟩ := hk.dep hr 2 72 (by kernel_rfl) (by kernel_rfl)
                          replace E2 : ev aq (.tmp 72) = .bool false := E2.trans (r2 wq (Grows.refl wq))
                          exact wp_of_value (by go_simp) (hK.out _ _ (Grows.refl _) (fun w2 h2 => rfl) (fun h => absurd h (by decide)))
                        refine AllOps.cons (Does.lets (g := 3) (d := 73) (t := false) rfl (by kernel_rfl) (by kernel_rfl) (fun vq wq h => h wq (Grows.refl wq)) fun lq aq wq hk hr K hK => ?_) ?_
                        · have B12 : ev aq (.tmp 12) = .int .i64 0 := hk.base 12 (by kernel_rfl) rfl
                          exact wp_of_value (by go_simp) (hK.out _ _ (Grows.refl _) (fun w2 h2 => rfl) (fun h => absurd h (by decide)))
                        refine AllOps.cons (Does.lets (g := 3) (d := 73) (t := false) rfl (by kernel_rfl) (by kernel_rfl) (fun vq wq h => h wq (Grows.refl wq)) fun lq aq wq hk hr K hK => ?_) ?_
                        · have B16 : ev aq (.tmp 16) = .int .i64 0 := hk.base 16 (by kernel_rfl) rfl
                          exact wp_of_value (by go_simp) (hK.out _ _ (Grows.refl _) (fun w2 h2 => rfl) (fun h => absurd h (by decide)))
                        refine AllOps.cons (Does.lets (g := 3) (d := 73) (t := false) rfl (by kernel_rfl) (by kernel_rfl) (fun vq wq h => h wq (Grows.refl wq)) fun lq aq wq hk hr K hK => ?_) ?_
                        · obtain ⟨v4, E4, -, r4⟩ := hk.dep hr 4 74 (by kernel_rfl) (by kernel_rfl)
                          replace E4 : ev aq (.tmp 74) = .int .i64 0 := E4.trans (r4 wq (Grows.refl wq))
                          obtain ⟨v5, E5, -, r5⟩ := hk.dep hr 5 75 (by kernel_rfl) (by kernel_rfl)
                          replace E5 : ev aq (.tmp 75) = .int .i64 0 := E5.trans (r5 wq (Grows.refl wq))
                          exact wp_of_value (by go_simp) (hK.out _ _ (Grows.refl _) (fun w2 h2 => rfl) (fun h => absurd h (by decide)))
                        refine AllOps.cons (Does.plain rfl fun lq aq wq hk hr K hK => ?_) ?_
                        · obtain ⟨v3, E3, -, r3⟩ := hk.dep hr 3 73 (by kernel_rfl) (by kernel_rfl)
                          replace E3 : ev aq (.tmp 73) = .bool false := E3.trans (r3 wq (Grows.refl wq))
                          obtain ⟨v6, E6, -, r6⟩ := hk.dep hr 6 76 (by kernel_rfl) (by kernel_rfl)
                          replace E6 : ev aq (.tmp 76) = .bool false := E6.trans (r6 wq (Grows.refl wq))
                          exact wp_of_value (by go_simp) (hK.out _ _ (Grows.refl _) (fun w2 h2 => rfl) (fun h => absurd h (by decide)))
                        refine AllOps.cons (Does.plain rfl fun lq aq wq hk hr K hK => ?_) ?_
                        · obtain ⟨v7, E7, -, r7⟩ := hk.dep hr 7 77 (by kernel_rfl) (by kernel_rfl)
                          replace E7 : ev aq (.tmp 77) = .bool false := E7.trans (r7 wq (Grows.refl wq))
                          exact wp_of_value (by go_simp) (hK.out _ _ (Grows.refl _) (fun w2 h2 => rfl) (fun h => absurd h (by decide)))
                        refine AllOps.cons (Does.lets (g := 8) (d := 78) (t := false) rfl (by kernel_rfl) (by kernel_rfl) (fun vq wq h => h wq (Grows.refl wq)) fun lq aq wq hk hr K hK => ?_) ?_
                        · have B9 : ev aq (.tmp 9) = .pointer (some ⟨bd, 0, none⟩) := hk.base 9 (by kernel_rfl) rfl
                          have hb : Below _ _ _ := hk.ext
                          exact wp_of_value (op_load 9 _ B9 (Box2.below Dd.out hb)) (hK.out _ _ (Grows.refl _) (fun w2 h2 => ⟨_, _, _, _, rfl, (Sd.out.below hb).below h2⟩) (fun h => absurd h (by decide)))
                        refine AllOps.cons (Does.lets (g := 8) (d := 78) (t := false) rfl (by kernel_rfl) (by kernel_rfl) (fun vq wq h => h wq (Grows.refl wq)) fun lq aq wq hk hr K hK => ?_) ?_
                        · have B13 : ev aq (.tmp 13) = .pointer (some ⟨be, 0, none⟩) := hk.base 13 (by kernel_rfl) rfl
                          have hb : Below _ _ _ := hk.ext
                          exact wp_of_value (op_load 13 _ B13 (Box2.below De.out hb)) (hK.out _ _ (Grows.refl _) (fun w2 h2 => ⟨_, _, _, _, rfl, (Se.out.below hb).below h2⟩) (fun h => absurd h (by decide)))
                        refine AllOps.cons (Does.lets (g := 8) (d := 78) (t := false) rfl (by kernel_rfl) (by kernel_rfl) (fun vq wq h => h wq (Grows.refl wq)) fun lq aq wq hk hr K hK => ?_) ?_
                        · obtain ⟨v9, E9, -, r9⟩ := hk.dep hr 9 79 (by kernel_rfl) (by kernel_rfl)
                          have r9 : ZV wq v9 ((Int.fdiv p q)) := r9 wq (Grows.refl wq)
                          obtain ⟨v10, E10, -, r10⟩ := hk.dep hr 10 80 (by kernel_rfl) (by kernel_rfl)
                          have r10 : ZV wq v10 ((Int.fdiv p q)) := r10 wq (Grows.refl wq)
                          refine wp_of_call (f := 20) (vs := #[v9, v10]) (by go_simp) (rsame_v wq r9 r10 (t := true) (decide_eq_true rfl)) ?_
                          rintro e w1 ⟨u, rfl, hu, hb⟩
                          exact ⟨u, rfl, hK.out _ _ hb (fun w2 h2 => hu) (fun h => absurd h (by decide))⟩
                        refine AllOps.cons (Does.lets (g := 8) (d := 78) (t := false) rfl (by kernel_rfl) (by kernel_rfl) (fun vq wq h => h wq (Grows.refl wq)) fun lq aq wq hk hr K hK => ?_) ?_
                        · obtain ⟨v11, E11, -, r11⟩ := hk.dep hr 11 81 (by kernel_rfl) (by kernel_rfl)
                          replace E11 : ev aq (.tmp 81) = .bool true := E11.trans (r11 wq (Grows.refl wq))
                          exact wp_of_value (by go_simp) (hK.out _ _ (Grows.refl _) (fun w2 h2 => rfl) (fun h => absurd h (by decide)))
                        refine AllOps.cons (Does.plain rfl fun lq aq wq hk hr K hK => ?_) ?_
                        · obtain ⟨v8, E8, -, r8⟩ := hk.dep hr 8 78 (by kernel_rfl) (by kernel_rfl)
                          replace E8 : ev aq (.tmp 78) = .bool false := E8.trans (r8 wq (Grows.refl wq))
                          obtain ⟨v12, E12, -, r12⟩ := hk.dep hr 12 82 (by kernel_rfl) (by kernel_rfl)
                          replace E12 : ev aq (.tmp 82) = .bool false := E12.trans (r12 wq (Grows.refl wq))
                          exact wp_of_value (by go_simp) (hK.out _ _ (Grows.refl _) (fun w2 h2 => rfl) (fun h => absurd h (by decide)))
                        refine AllOps.cons (Does.plain rfl fun lq aq wq hk hr K hK => ?_) ?_
                        · obtain ⟨v13, E13, -, r13⟩ := hk.dep hr 13 83 (by kernel_rfl) (by kernel_rfl)
                          replace E13 : ev aq (.tmp 83) = .bool false := E13.trans (r13 wq (Grows.refl wq))
                          exact wp_of_value (by go_simp) (hK.out _ _ (Grows.refl _) (fun w2 h2 => rfl) (fun h => absurd h (by decide)))
                        refine AllOps.cons (Does.lets (g := 14) (d := 84) (t := false) rfl (by kernel_rfl) (by kernel_rfl) (fun vq wq h => h wq (Grows.refl wq)) fun lq aq wq hk hr K hK => ?_) ?_
                        · have B11 : ev aq (.tmp 11) = .pointer (some ⟨bm, 0, none⟩) := hk.base 11 (by kernel_rfl) rfl
                          have hb : Below _ _ _ := hk.ext
                          exact wp_of_value (op_load 11 _ B11 (Box2.below Dm.out hb)) (hK.out _ _ (Grows.refl _) (fun w2 h2 => ⟨_, _, _, _, rfl, (Sm.out.below hb).below h2⟩) (fun h => absurd h (by decide)))
                        refine AllOps.cons (Does.lets (g := 14) (d := 84) (t := false) rfl (by kernel_rfl) (by kernel_rfl) (fun vq wq h => h wq (Grows.refl wq)) fun lq aq wq hk hr K hK => ?_) ?_
                        · have B15 : ev aq (.tmp 15) = .pointer (some ⟨bf, 0, none⟩) := hk.base 15 (by kernel_rfl) rfl
                          have hb : Below _ _ _ := hk.ext
                          exact wp_of_value (op_load 15 _ B15 (Box2.below Df.out hb)) (hK.out _ _ (Grows.refl _) (fun w2 h2 => ⟨_, _, _, _, rfl, (Sf.out.below hb).below h2⟩) (fun h => absurd h (by decide)))
                        refine AllOps.cons (Does.lets (g := 14) (d := 84) (t := false) rfl (by kernel_rfl) (by kernel_rfl) (fun vq wq h => h wq (Grows.refl wq)) fun lq aq wq hk hr K hK => ?_) ?_
                        · obtain ⟨v15, E15, -, r15⟩ := hk.dep hr 15 85 (by kernel_rfl) (by kernel_rfl)
                          have r15 : ZV wq v15 ((Int.fmod p q)) := r15 wq (Grows.refl wq)
                          obtain ⟨v16, E16, -, r16⟩ := hk.dep hr 16 86 (by kernel_rfl) (by kernel_rfl)
                          have r16 : ZV wq v16 ((Int.fmod p q)) := r16 wq (Grows.refl wq)
                          refine wp_of_call (f := 20) (vs := #[v15, v16]) (by go_simp) (rsame_v wq r15 r16 (t := true) (decide_eq_true rfl)) ?_
                          rintro e w1 ⟨u, rfl, hu, hb⟩
                          exact ⟨u, rfl, hK.out _ _ hb (fun w2 h2 => hu) (fun h => absurd h (by decide))⟩
                        refine AllOps.cons (Does.lets (g := 14) (d := 84) (t := false) rfl (by kernel_rfl) (by kernel_rfl) (fun vq wq h => h wq (Grows.refl wq)) fun lq aq wq hk hr K hK => ?_) ?_
                        · obtain ⟨v17, E17, -, r17⟩ := hk.dep hr 17 87 (by kernel_rfl) (by kernel_rfl)
                          replace E17 : ev aq (.tmp 87) = .bool true := E17.trans (r17 wq (Grows.refl wq))
                          exact wp_of_value (by go_simp) (hK.out _ _ (Grows.refl _) (fun w2 h2 => rfl) (fun h => absurd h (by decide)))
                        refine AllOps.cons (Does.plain rfl fun lq aq wq hk hr K hK => ?_) ?_
                        · obtain ⟨v14, E14, -, r14⟩ := hk.dep hr 14 84 (by kernel_rfl) (by kernel_rfl)
                          replace E14 : ev aq (.tmp 84) = .bool false := E14.trans (r14 wq (Grows.refl wq))
                          obtain ⟨v18, E18, -, r18⟩ := hk.dep hr 18 88 (by kernel_rfl) (by kernel_rfl)
                          replace E18 : ev aq (.tmp 88) = .bool false := E18.trans (r18 wq (Grows.refl wq))
                          exact wp_of_value (by go_simp) (hK.out _ _ (Grows.refl _) (fun w2 h2 => rfl) (fun h => absurd h (by decide)))
                        exact AllOps.nil
                      case fin =>
                        intro V x12 hG hV hap
                        have r19 : (V 19) = .bool false := hV 19 (by decide)
                        clear hV hap
                        simp only [List.take_succ_cons, List.take_nil, List.drop_succ_cons, List.drop_nil, putAll, Act.put, List.setIfInBounds_toArray, List.set_cons_zero, List.set_cons_succ]
                        have hb := (show Below _ _ _ from hG)
                        replace Dd := Lib.hid (Box2.below Dd.out hb)
                        replace Sd := Lib.hid (Sd.out.below hb)
                        replace Dm := Lib.hid (Box2.below Dm.out hb)
                        replace Sm := Lib.hid (Sm.out.below hb)
                        replace De := Lib.hid (Box2.below De.out hb)
                        replace Se := Lib.hid (Se.out.below hb)
                        replace Df := Lib.hid (Box2.below Df.out hb)
                        replace Sf := Lib.hid (Sf.out.below hb)
                        replace w0 := Lib.hid (w0.out.below hb)
                        replace w1 := Lib.hid (w1.out.below hb)
                        replace w2 := Lib.hid (w2.out.below hb)
                        replace w3 := Lib.hid (w3.out.below hb)
                        replace w4 := Lib.hid (w4.out.below hb)
                        replace w5 := Lib.hid (w5.out.below hb)
                        replace SX := Lib.hid (SX.out.below hb)
                        replace SY := Lib.hid (SY.out.below hb)
                        replace X4 := Lib.hid (X4.out.below hb)
                        replace HB := Lib.hid (HB.out.trans (Below.mono hb HB.out.size))
                        clear hb hG
                        rw [r19]
                        clear r19
                        go_wp2_with fail
                        go_roundw
                        case rel =>
                          (repeat apply Exists.intro)
                          refine ⟨?_, rfl⟩
                          exact ⟨k + 1, by omega, (by first | rfl | simp), HB.out, w0.out, w1.out, w2.out, w3.out, w4.out, w5.out⟩
                        case measure => simp [intOf]; omega
        · skip
          obtain rfl : k = 3 := by omega
          replace HB := Lib.hid HB
          go_upto_region 12 with fail
          refine wp_region_calm 1 [] ([fun vq _ => vq = .bool true]) (by kernel_rfl) (by decide) ?hF ?steps ?fin
          case hF =>
            intro j hj; cases hj
          case steps =>
            refine AllOps.cons (Does.plain rfl fun lq aq wq hk hr K hK => ?_) ?_
            · refine wp_of_call (f := 21) (vs := #[]) (by go_simp) (works_v wq) ?_
              rintro e w1 ⟨u, rfl, hu, hb⟩
              exact ⟨u, rfl, hK.out _ _ hb (fun w2 h2 => hu) (fun h => absurd h (by decide))⟩
            exact AllOps.nil
          case fin =>
            intro V x3 hG hV hap
            have r0 : (V 0) = .bool true := hV 0 (by decide)
            clear hV hap
            simp only [List.take_succ_cons, List.take_zero, List.drop_succ_cons, List.drop_zero, putAll, Act.put, List.setIfInBounds_toArray, List.set_cons_zero, List.set_cons_succ]
            have hb := (show Below _ _ _ from hG)
            replace HB := Lib.hid (HB.out.trans (Below.mono hb HB.out.size))
            clear hb hG
            rw [r0]
            clear r0
            go_wp2_with fail
            go_ret
            exact ⟨rfl, HB.out⟩
end Go.Proofs.YtmajcjdhhnhmmaaDoor
