import Derived.Test.YtmajcjdhhnhmmaaDoorBox4
import Derived.Test.YtmajcjdhhnhmmaaDoorRefZ5
import Derived.Test.YtmajcjdhhnhmmaaDoorGVal
/- litmuslaw02.BigTells returns true. -/
namespace Go.Proofs.YtmajcjdhhnhmmaaDoor
open Go.RowKit Go.Num Go.Kp
attribute [local go_sem] Oper.semAt_some u64_mask ev_const ev_func ev_global
theorem two_boxes (y : World) (T : TypeId) (x0 x1 z0 z1 : Value) : Box2 (((y.alloc (.cells #[x0, x1] T)).alloc (.cells #[z0, z1] T)).drew) y.heap.size T x0 x1 ∧ Box2 (((y.alloc (.cells #[x0, x1] T)).alloc (.cells #[z0, z1] T)).drew) (y.heap.size + 1) T z0 z1 ∧ Below y.heap.size y (((y.alloc (.cells #[x0, x1] T)).alloc (.cells #[z0, z1] T)).drew) := by
  have h1 : Box2 ((y.alloc (.cells #[x0, x1] T)).alloc (.cells #[z0, z1] T)) y.heap.size T x0 x1 := (Box2.new y T x0 x1).alloc _
  have h2 := Box2.new (y.alloc (.cells #[x0, x1] T)) T z0 z1
  rw [World.size_alloc] at h2
  exact ⟨h1, h2, (((Below.refl _ y).alloc (Nat.le_refl _) _).alloc (by rw [World.size_alloc]; exact Nat.le_succ _) _).drew⟩
theorem brightR_v (w : World) {u : Value} {x : Int} {t : Bool} (h0 : WR w u x t) : Calls Tryd.prog 33 #[u] w fun e w' => ∃ r, e = .returned r ∧ r = .bool t ∧ Grows w w' := by
  obtain ⟨n, A, k, c, l, a, rfl, h1, h2, _, ht⟩ := h0
  exact rightL_v w h1 h2 ht
set_option maxHeartbeats 16000000 in
set_option maxRecDepth 100000 in
theorem bigTells_any (w : World) (n0 : Bool) (m0 : Value) (l0 : List Nat) (n1 : Bool) (m1 : Value) (l1 : List Nat) (x : Int) (h0 : Arg encU w m0 l0) (hl0 : Lim l0) (hn0 : l0.length ≤ 9223372036854775807) (h1 : Arg encU w m1 l1) (hl1 : Lim l1) (hn1 : l1.length ≤ 9223372036854775807) (hx1 : -9223372036854775808 ≤ x) (hx2 : x ≤ 9223372036854775807) :
    Calls Tryd.prog 11 #[.agg #[.bool n0, m0], .agg #[.bool n1, m1], .int .i64 x] w fun e w' => e = .returned (.bool true) ∧ Below w.heap.size w w' := by
  go_enter Tryd.func11, Tryd.ntmps11
  have h0q := h0
  obtain ⟨A0, d0, rfl, _, _⟩ := h0q.open_
  clear h0q
  have h1q := h1
  obtain ⟨A1, d1, rfl, _, _⟩ := h1q.open_
  clear h1q
  obtain ⟨a, ha⟩ : ∃ z, sg n0 (val (l0.take 12)) = z := ⟨_, rfl⟩
  have hka : szz a ≤ 12 := ha ▸ few_szz n0 12 hl0
  obtain ⟨b, hb⟩ : ∃ z, sg n1 (val (l1.take 12)) = z := ⟨_, rfl⟩
  have hkb : szz b ≤ 12 := hb ▸ few_szz n1 12 hl1
  have HB0 : Hid (Below w.heap.size w ((w.alloc (.cells #[.bool n0, (.slice A0 l0.length d0)] 24)).alloc (.cells #[.bool n1, (.slice A1 l1.length d1)] 24))) := Lib.hid (((Below.refl _ w).alloc (Nat.le_refl _) _).alloc (by simp) _)
  have DA0 := Lib.hid ((Box2.new w 24 (.bool n0) (.slice A0 l0.length d0)).alloc (.cells #[.bool n1, (.slice A1 l1.length d1)] 24))
  have DB0 : Hid (Box2 ((w.alloc (.cells #[.bool n0, (.slice A0 l0.length d0)] 24)).alloc (.cells #[.bool n1, (.slice A1 l1.length d1)] 24)) (w.heap.size + 1) 24 (.bool n1) (.slice A1 l1.length d1)) := Lib.hid (by have := Box2.new (w.alloc (.cells #[.bool n0, (.slice A0 l0.length d0)] 24)) 24 (.bool n1) (.slice A1 l1.length d1); rwa [World.size_alloc] at this)
  go_upto_region 1 with fail
  generalize ((w.alloc (.cells #[.bool n0, (.slice A0 l0.length d0)] 24)).alloc (.cells #[.bool n1, (.slice A1 l1.length d1)] 24)) = x0 at *
  have HB := HB0
  have DA := DA0
  have DB := DB0
  clear HB0 DA0 DB0
  replace h0 := h0.below HB.out
  replace h1 := h1.below HB.out
  refine wp_region_going 4 [] ([fun vq _ => vq = .agg #[.bool n0, .slice A0 l0.length d0],
      fun vq wq => WV x0 vq a,
      fun vq _ => vq = .agg #[.bool n1, .slice A1 l1.length d1],
      fun vq wq => WV x0 vq b]) (by kernel_rfl) (by kernel_rfl) (by decide) (by kernel_rfl) (by kernel_rfl) ?hF ?steps ?fin
  case hF =>
    intro j hj; cases hj
  case steps =>
    refine AllOps.cons (Does.plain rfl fun lq aq wq hk hr K hK => ?_) ?_
    · have B3 : ev aq (.tmp 3) = .pointer (some ⟨w.heap.size, 0, none⟩) := hk.base 3 (by kernel_rfl) rfl
      have hb := grows_of hk.ext
      have c0 := (Box2.below DA.out hb).c0
      have c1 := (Box2.below DA.out hb).c1
      exact wp_of_value (by go_simp) (hK.out _ _ (Grows.refl _) (fun w2 h2 => rfl) (fun h => absurd h (by decide)))
    refine AllOps.cons (Does.plain rfl fun lq aq wq hk hr K hK => ?_) ?_
    · obtain ⟨v0, E0, -, r0⟩ := hk.dep hr 0 15 (by kernel_rfl) (by kernel_rfl)
      replace E0 : ev aq (.tmp 15) = .agg #[.bool n0, .slice A0 l0.length d0] := E0.trans (r0 wq (Grows.refl wq))
      refine wp_of_call (f := 13) (vs := #[.agg #[.bool n0, .slice A0 l0.length d0], .int .i64 12]) (by go_simp) (few_v x0 wq 12 (h0) hl0 hn0 (by decide) ha) ?_
      rintro e w1 ⟨u, rfl, hu, hb⟩
      exact ⟨u, rfl, hK.out _ _ hb (fun w2 h2 => hu) (fun h => absurd h (by decide))⟩
    refine AllOps.cons (Does.plain rfl fun lq aq wq hk hr K hK => ?_) ?_
    · have B4 : ev aq (.tmp 4) = .pointer (some ⟨w.heap.size + 1, 0, none⟩) := hk.base 4 (by kernel_rfl) rfl
      have hb := grows_of hk.ext
      have c0 := (Box2.below DB.out hb).c0
      have c1 := (Box2.below DB.out hb).c1
      exact wp_of_value (by go_simp) (hK.out _ _ (Grows.refl _) (fun w2 h2 => rfl) (fun h => absurd h (by decide)))
    refine AllOps.cons (Does.plain rfl fun lq aq wq hk hr K hK => ?_) ?_
    · obtain ⟨v2, E2, -, r2⟩ := hk.dep hr 2 17 (by kernel_rfl) (by kernel_rfl)
      replace E2 : ev aq (.tmp 17) = .agg #[.bool n1, .slice A1 l1.length d1] := E2.trans (r2 wq (Grows.refl wq))
      refine wp_of_call (f := 13) (vs := #[.agg #[.bool n1, .slice A1 l1.length d1], .int .i64 12]) (by go_simp) (few_v x0 wq 12 (h1) hl1 hn1 (by decide) hb) ?_
      rintro e w1 ⟨u, rfl, hu, hb⟩
      exact ⟨u, rfl, hK.out _ _ hb (fun w2 h2 => hu) (fun h => absurd h (by decide))⟩
    exact AllOps.nil
  case fin =>
    intro V x1 hG hV hap
    have r1 : WV x0 (V 1) a := hV 1 (by decide)
    have r3 : WV x0 (V 3) b := hV 3 (by decide)
    clear hV hap
    simp only [List.take_succ_cons, List.take_zero, List.drop_succ_cons, List.drop_zero, putAll, Act.put, List.setIfInBounds_toArray, List.set_cons_zero, List.set_cons_succ]
    have hb := grows_of hG
    obtain ⟨na, Aa, ka, ca, ea', sa⟩ := r1
    obtain ⟨nb, Ab, kb, cb, eb', sb⟩ := r3
    simp only [ea', eb']
    clear ea' eb'
    replace DA := Box2.below DA.out hb
    replace DB := Box2.below DB.out hb
    replace sa := sa.below hb
    replace sb := sb.below hb
    replace HB := HB.out.trans (Below.mono hb HB.out.size)
    clear hb hG h0 h1 hl0 hl1 hn0 hn1
    refine wpList_of_skip rfl (op_store 3 16 _ rfl rfl DA) ?_
    refine wpList_of_skip rfl (op_store 4 18 _ rfl rfl (put2_far DB (Nat.succ_ne_self _))) ?_
    have PA := put2_own (u := .bool na) (v := .slice Aa ka ca) DA
    have PB := put2_own (u := .bool nb) (v := .slice Ab kb cb) (put2_far (u := .bool na) (v := .slice Aa ka ca) DB (Nat.succ_ne_self _))
    have QA := put2_far (u := .bool nb) (v := .slice Ab kb cb) PA (show w.heap.size ≠ w.heap.size + 1 by omega)
    have Sa := Lib.hid ((sa.put DA (.bool na) (.slice Aa ka ca)).put (put2_far (u := .bool na) (v := .slice Aa ka ca) DB (Nat.succ_ne_self _)) (.bool nb) (.slice Ab kb cb))
    have Sb := Lib.hid ((sb.put DA (.bool na) (.slice Aa ka ca)).put (put2_far (u := .bool na) (v := .slice Aa ka ca) DB (Nat.succ_ne_self _)) (.bool nb) (.slice Ab kb cb))
    replace HB := Lib.hid (put2_below (u := .bool nb) (v := .slice Ab kb cb) (put2_below (u := .bool na) (v := .slice Aa ka ca) HB (Nat.le_refl _)) (Nat.le_succ _))
    clear DA DB PA sa sb
    generalize put2 (put2 x1 w.heap.size (.bool na) (.slice Aa ka ca)) (w.heap.size + 1) (.bool nb) (.slice Ab kb cb) = y1 at *
    have Da := Lib.hid QA
    have Db := Lib.hid PB
    clear QA PB
    go_upto_region 2 with fail
    refine wp_region_going 15 [] ([fun vq wq => WV wq vq a,
        fun vq wq => WV wq vq b,
        fun vq wq => PairV wq vq a b,
        fun vq wq => WV wq vq b,
        fun vq wq => WV wq vq a,
        fun vq wq => PairV wq vq b a,
        fun vq wq => WV wq vq a,
        fun vq _ => vq = .int .i64 x,
        fun vq wq => ZV wq vq x,
        fun vq wq => PairV wq vq a x,
        fun vq wq => WV wq vq a,
        fun vq wq => WV wq vq a,
        fun vq wq => PairV wq vq a a,
        fun vq wq => QuadV wq vq a b b a a x a a,
        fun vq _ => vq = .int .i64 0]) (by kernel_rfl) (by kernel_rfl) (by decide) (by kernel_rfl) (by kernel_rfl) ?hF ?steps ?fin
    case hF =>
      intro j hj; cases hj
    case steps =>
      refine AllOps.cons (Does.plain rfl fun lq aq wq hk hr K hK => ?_) ?_
      · have B3 : ev aq (.tmp 3) = .pointer (some ⟨w.heap.size, 0, none⟩) := hk.base 3 (by kernel_rfl) rfl
        have hb := grows_of hk.ext
        exact wp_of_value (op_load 3 _ B3 (Box2.below Da.out hb)) (hK.out _ _ (Grows.refl _) (fun w2 h2 => ⟨_, _, _, _, rfl, (Sa.out.below hb).below h2⟩) (fun h => absurd h (by decide)))
      refine AllOps.cons (Does.plain rfl fun lq aq wq hk hr K hK => ?_) ?_
      · have B4 : ev aq (.tmp 4) = .pointer (some ⟨w.heap.size + 1, 0, none⟩) := hk.base 4 (by kernel_rfl) rfl
        have hb := grows_of hk.ext
        exact wp_of_value (op_load 4 _ B4 (Box2.below Db.out hb)) (hK.out _ _ (Grows.refl _) (fun w2 h2 => ⟨_, _, _, _, rfl, (Sb.out.below hb).below h2⟩) (fun h => absurd h (by decide)))
      refine AllOps.cons (Does.plain rfl fun lq aq wq hk hr K hK => ?_) ?_
      · obtain ⟨v0, E0, -, r0⟩ := hk.dep hr 0 19 (by kernel_rfl) (by kernel_rfl)
        have r0 : WV wq v0 a := r0 wq (Grows.refl wq)
        obtain ⟨n0, A0, k0, c0, rfl, s0⟩ := r0
        obtain ⟨v1, E1, -, r1⟩ := hk.dep hr 1 20 (by kernel_rfl) (by kernel_rfl)
        have r1 : WV wq v1 b := r1 wq (Grows.refl wq)
        obtain ⟨n1, A1, k1, c1, rfl, s1⟩ := r1
        exact wp_of_value (op_pair 19 20 E0 E1) (hK.out _ _ (Grows.refl _) (fun w2 h2 => PairV.grow ⟨_, _, _, _, _, _, _, _, rfl, s0, s1⟩ h2) (fun h => absurd h (by decide)))
      refine AllOps.cons (Does.plain rfl fun lq aq wq hk hr K hK => ?_) ?_
      · have B4 : ev aq (.tmp 4) = .pointer (some ⟨w.heap.size + 1, 0, none⟩) := hk.base 4 (by kernel_rfl) rfl
        have hb := grows_of hk.ext
        exact wp_of_value (op_load 4 _ B4 (Box2.below Db.out hb)) (hK.out _ _ (Grows.refl _) (fun w2 h2 => ⟨_, _, _, _, rfl, (Sb.out.below hb).below h2⟩) (fun h => absurd h (by decide)))
      refine AllOps.cons (Does.plain rfl fun lq aq wq hk hr K hK => ?_) ?_
      · have B3 : ev aq (.tmp 3) = .pointer (some ⟨w.heap.size, 0, none⟩) := hk.base 3 (by kernel_rfl) rfl
        have hb := grows_of hk.ext
        exact wp_of_value (op_load 3 _ B3 (Box2.below Da.out hb)) (hK.out _ _ (Grows.refl _) (fun w2 h2 => ⟨_, _, _, _, rfl, (Sa.out.below hb).below h2⟩) (fun h => absurd h (by decide)))
      refine AllOps.cons (Does.plain rfl fun lq aq wq hk hr K hK => ?_) ?_
      · obtain ⟨v3, E3, -, r3⟩ := hk.dep hr 3 22 (by kernel_rfl) (by kernel_rfl)
        have r3 : WV wq v3 b := r3 wq (Grows.refl wq)
        obtain ⟨n3, A3, k3, c3, rfl, s3⟩ := r3
        obtain ⟨v4, E4, -, r4⟩ := hk.dep hr 4 23 (by kernel_rfl) (by kernel_rfl)
        have r4 : WV wq v4 a := r4 wq (Grows.refl wq)
        obtain ⟨n4, A4, k4, c4, rfl, s4⟩ := r4
        exact wp_of_value (op_pair 22 23 E3 E4) (hK.out _ _ (Grows.refl _) (fun w2 h2 => PairV.grow ⟨_, _, _, _, _, _, _, _, rfl, s3, s4⟩ h2) (fun h => absurd h (by decide)))
      refine AllOps.cons (Does.plain rfl fun lq aq wq hk hr K hK => ?_) ?_
      · have B3 : ev aq (.tmp 3) = .pointer (some ⟨w.heap.size, 0, none⟩) := hk.base 3 (by kernel_rfl) rfl
        have hb := grows_of hk.ext
        exact wp_of_value (op_load 3 _ B3 (Box2.below Da.out hb)) (hK.out _ _ (Grows.refl _) (fun w2 h2 => ⟨_, _, _, _, rfl, (Sa.out.below hb).below h2⟩) (fun h => absurd h (by decide)))
      refine AllOps.cons (Does.plain rfl fun lq aq wq hk hr K hK => ?_) ?_
      · have B2 : ev aq (.tmp 2) = .int .i64 x := hk.base 2 (by kernel_rfl) rfl
        exact wp_of_value (by go_simp) (hK.out _ _ (Grows.refl _) (fun w2 h2 => rfl) (fun h => absurd h (by decide)))
      refine AllOps.cons (Does.plain rfl fun lq aq wq hk hr K hK => ?_) ?_
      · obtain ⟨v7, E7, -, r7⟩ := hk.dep hr 7 26 (by kernel_rfl) (by kernel_rfl)
        replace E7 : ev aq (.tmp 26) = .int .i64 x := E7.trans (r7 wq (Grows.refl wq))
        refine wp_of_call (f := 14) (vs := #[.int .i64 x]) (by go_simp) (rfrom_v wq x hx1 hx2) ?_
        rintro e w1 ⟨u, rfl, hu, hb⟩
        exact ⟨u, rfl, hK.out _ _ hb (fun w2 h2 => (hu).grow h2) (fun h => absurd h (by decide))⟩
      refine AllOps.cons (Does.plain rfl fun lq aq wq hk hr K hK => ?_) ?_
      · obtain ⟨v6, E6, -, r6⟩ := hk.dep hr 6 25 (by kernel_rfl) (by kernel_rfl)
        have r6 : WV wq v6 a := r6 wq (Grows.refl wq)
        obtain ⟨n6, A6, k6, c6, rfl, s6⟩ := r6
        obtain ⟨v8, E8, -, r8⟩ := hk.dep hr 8 27 (by kernel_rfl) (by kernel_rfl)
        have r8 : ZV wq v8 x := r8 wq (Grows.refl wq)
        obtain ⟨n8, A8, k8, c8, rfl, s8⟩ := r8
        exact wp_of_value (op_pair 25 27 E6 E8) (hK.out _ _ (Grows.refl _) (fun w2 h2 => PairV.grow ⟨_, _, _, _, _, _, _, _, rfl, s6, s8.whole⟩ h2) (fun h => absurd h (by decide)))
      refine AllOps.cons (Does.plain rfl fun lq aq wq hk hr K hK => ?_) ?_
      · have B3 : ev aq (.tmp 3) = .pointer (some ⟨w.heap.size, 0, none⟩) := hk.base 3 (by kernel_rfl) rfl
        have hb := grows_of hk.ext
        exact wp_of_value (op_load 3 _ B3 (Box2.below Da.out hb)) (hK.out _ _ (Grows.refl _) (fun w2 h2 => ⟨_, _, _, _, rfl, (Sa.out.below hb).below h2⟩) (fun h => absurd h (by decide)))
      refine AllOps.cons (Does.plain rfl fun lq aq wq hk hr K hK => ?_) ?_
      · have B3 : ev aq (.tmp 3) = .pointer (some ⟨w.heap.size, 0, none⟩) := hk.base 3 (by kernel_rfl) rfl
        have hb := grows_of hk.ext
        exact wp_of_value (op_load 3 _ B3 (Box2.below Da.out hb)) (hK.out _ _ (Grows.refl _) (fun w2 h2 => ⟨_, _, _, _, rfl, (Sa.out.below hb).below h2⟩) (fun h => absurd h (by decide)))
      refine AllOps.cons (Does.plain rfl fun lq aq wq hk hr K hK => ?_) ?_
      · obtain ⟨v10, E10, -, r10⟩ := hk.dep hr 10 29 (by kernel_rfl) (by kernel_rfl)
        have r10 : WV wq v10 a := r10 wq (Grows.refl wq)
        obtain ⟨n10, A10, k10, c10, rfl, s10⟩ := r10
        obtain ⟨v11, E11, -, r11⟩ := hk.dep hr 11 30 (by kernel_rfl) (by kernel_rfl)
        have r11 : WV wq v11 a := r11 wq (Grows.refl wq)
        obtain ⟨n11, A11, k11, c11, rfl, s11⟩ := r11
        exact wp_of_value (op_pair 29 30 E10 E11) (hK.out _ _ (Grows.refl _) (fun w2 h2 => PairV.grow ⟨_, _, _, _, _, _, _, _, rfl, s10, s11⟩ h2) (fun h => absurd h (by decide)))
      refine AllOps.cons (Does.plain rfl fun lq aq wq hk hr K hK => ?_) ?_
      · obtain ⟨v2, E2, -, r2⟩ := hk.dep hr 2 21 (by kernel_rfl) (by kernel_rfl)
        have r2 : PairV wq v2 a b := r2 wq (Grows.refl wq)
        obtain ⟨n2, A2, k2, c2, n2', A2', k2', c2', rfl, s2, s2'⟩ := r2
        obtain ⟨v5, E5, -, r5⟩ := hk.dep hr 5 24 (by kernel_rfl) (by kernel_rfl)
        have r5 : PairV wq v5 b a := r5 wq (Grows.refl wq)
        obtain ⟨n5, A5, k5, c5, n5', A5', k5', c5', rfl, s5, s5'⟩ := r5
        obtain ⟨v9, E9, -, r9⟩ := hk.dep hr 9 28 (by kernel_rfl) (by kernel_rfl)
        have r9 : PairV wq v9 a x := r9 wq (Grows.refl wq)
        obtain ⟨n9, A9, k9, c9, n9', A9', k9', c9', rfl, s9, s9'⟩ := r9
        obtain ⟨v12, E12, -, r12⟩ := hk.dep hr 12 31 (by kernel_rfl) (by kernel_rfl)
        have r12 : PairV wq v12 a a := r12 wq (Grows.refl wq)
        obtain ⟨n12, A12, k12, c12, n12', A12', k12', c12', rfl, s12, s12'⟩ := r12
        exact wp_of_value (op_quad 21 24 28 31 E2 E5 E9 E12) (hK.out _ _ (Grows.refl _) (fun w2 h2 => QuadV.grow ⟨_, _, _, _, _, _, _, _, _, _, _, _, _, _, _, _, _, _, _, _, _, _, _, _, _, _, _, _, _, _, _, _, rfl, s2, s2', s5, s5', s9, s9', s12, s12'⟩ h2) (fun h => absurd h (by decide)))
      refine AllOps.cons (Does.plain rfl fun lq aq wq hk hr K hK => ?_) ?_
      · exact wp_of_value (by go_simp) (hK.out _ _ (Grows.refl _) (fun w2 h2 => rfl) (fun h => absurd h (by decide)))
      exact AllOps.nil
    case fin =>
      intro V x2 hG hV hap
      have r13 : QuadV x2 (V 13) a b b a a x a a := hV 13 (by decide)
      have r14 : (V 14) = .int .i64 0 := hV 14 (by decide)
      clear hV hap
      simp only [List.take_succ_cons, List.take_nil, List.drop_succ_cons, List.drop_nil, putAll, Act.put, List.setIfInBounds_toArray, List.set_cons_zero, List.set_cons_succ]
      have hb := grows_of hG
      replace Da := Lib.hid (Box2.below Da.out hb)
      replace Sa := Lib.hid (Sa.out.below hb)
      replace Db := Lib.hid (Box2.below Db.out hb)
      replace Sb := Lib.hid (Sb.out.below hb)
      replace HB := Lib.hid (HB.out.trans (Below.mono hb HB.out.size))
      clear hb hG
      simp only [r14]
      clear r14
      obtain ⟨n0, A0, k0, c0, n1, A1, k1, c1, n2, A2, k2, c2, n3, A3, k3, c3, n4, A4, k4, c4, n5, A5, k5, c5, n6, A6, k6, c6, n7, A7, k7, c7, eT, w0, w1, w2, w3, w4, w5, w6, w7⟩ := r13
      simp only [eT]
      clear eT
      replace w0 := Lib.hid w0
      replace w1 := Lib.hid w1
      replace w2 := Lib.hid w2
      replace w3 := Lib.hid w3
      replace w4 := Lib.hid w4
      replace w5 := Lib.hid w5
      replace w6 := Lib.hid w6
      replace w7 := Lib.hid w7
      have LB := HB.out
      clear HB
      clear Da Sa
      clear Db Sb
      go_wp2_with fail
      go_loopw [33] (fun iv wr => ∃ k : Nat, k ≤ 4 ∧ iv = .int .i64 k ∧ Below w.heap.size w wr ∧ Whole wr n0 (.slice A0 k0 c0) a ∧ Whole wr n1 (.slice A1 k1 c1) b ∧ Whole wr n2 (.slice A2 k2 c2) b ∧ Whole wr n3 (.slice A3 k3 c3) a ∧ Whole wr n4 (.slice A4 k4 c4) a ∧ Whole wr n5 (.slice A5 k5 c5) x ∧ Whole wr n6 (.slice A6 k6 c6) a ∧ Whole wr n7 (.slice A7 k7 c7) a) (fun iv _ => 4 - (intOf iv).toNat)
      case atStart => exact ⟨0, by decide, rfl, LB, w0.out, w1.out, w2.out, w3.out, w4.out, w5.out, w6.out, w7.out⟩
      case round =>
        clear LB w0 w1 w2 w3 w4 w5 w6 w7
        obtain ⟨k, hk, rfl, HB, w0, w1, w2, w3, w4, w5, w6, w7⟩ := hrel
        rcases Nat.lt_or_ge k 4 with hlt | hge
        · skip
          obtain ⟨np, Ap, ip, cp, nq, Aq, iq, cq, p, q, hidx, SX, SY, hkp, hkq⟩ := idx_quad w0 (Nat.le_trans hka (by decide) : _ ≤ 12) w1 (Nat.le_trans hkb (by decide) : _ ≤ 12) w2 (Nat.le_trans hkb (by decide) : _ ≤ 12) w3 (Nat.le_trans hka (by decide) : _ ≤ 12) w4 (Nat.le_trans hka (by decide) : _ ≤ 12) w5 (Nat.le_trans (szz_i64 hx1 hx2) (by decide) : _ ≤ 12) w6 (Nat.le_trans hka (by decide) : _ ≤ 12) w7 (Nat.le_trans hka (by decide) : _ ≤ 12) k hlt
          replace HB := Lib.hid HB
          replace SX := Lib.hid SX
          replace SY := Lib.hid SY
          replace w0 := Lib.hid w0
          replace w1 := Lib.hid w1
          replace w2 := Lib.hid w2
          replace w3 := Lib.hid w3
          replace w4 := Lib.hid w4
          replace w5 := Lib.hid w5
          replace w6 := Lib.hid w6
          replace w7 := Lib.hid w7
          go_upto_region 4 with fail
          refine wp_region_calm 2 [1] ([fun vq _ => vq = .agg #[.bool np, .slice Ap ip cp, .bool nq, .slice Aq iq cq],
              fun vq wq => ∃ bq, vq = .pointer (some ⟨bq, 0, none⟩) ∧ BoxN wq bq 27 #[.bool false, .slice none 0 0, .bool false, .slice none 0 0] ∧ (wr).heap.size ≤ bq]) (by kernel_rfl) (by decide) ?hF ?steps ?fin
          case hF =>
            intro j hj v w h
            simp only [List.mem_cons, List.not_mem_nil, or_false] at hj
            subst hj
            all_goals (obtain ⟨b, rfl, hB, _⟩ := h; exact hB.lt)
          case steps =>
            refine AllOps.cons (Does.plain rfl fun lq aq wq hk hr K hK => ?_) ?_
            · have B32 : ev aq (.tmp 32) = .agg #[.bool n0, .slice A0 k0 c0, .bool n1, .slice A1 k1 c1, .bool n2, .slice A2 k2 c2, .bool n3, .slice A3 k3 c3, .bool n4, .slice A4 k4 c4, .bool n5, .slice A5 k5 c5, .bool n6, .slice A6 k6 c6, .bool n7, .slice A7 k7 c7] := hk.base 32 (by kernel_rfl) rfl
              have B33 : ev aq (.tmp 33) = .int .i64 k := hk.base 33 (by kernel_rfl) rfl
              exact wp_of_value (by go_simp) (hK.out _ _ (Grows.refl _) (fun w2 h2 => rfl) (fun h => absurd h (by decide)))
            refine AllOps.cons (Does.plain rfl fun lq aq wq hk hr K hK => ?_) ?_
            · exact wp_of_value (by go_simp) (hK.out _ _ ((Grows.refl _).alloc _) (fun w2 h2 => ⟨_, rfl, (BoxN.new wq 27 _).below h2, hk.ext.size⟩) (fun _ => Nat.le_refl _))
            exact AllOps.nil
          case fin =>
            intro V x3 hG hV hap
            have r0 : (V 0) = .agg #[.bool np, .slice Ap ip cp, .bool nq, .slice Aq iq cq] := hV 0 (by decide)
            have r1 : ∃ bq, (V 1) = .pointer (some ⟨bq, 0, none⟩) ∧ BoxN x3 bq 27 #[.bool false, .slice none 0 0, .bool false, .slice none 0 0] ∧ (wr).heap.size ≤ bq := hV 1 (by decide)
            clear hV
            simp only [List.take_succ_cons, List.take_zero, List.drop_succ_cons, List.drop_zero, putAll, Act.put, List.setIfInBounds_toArray, List.set_cons_zero, List.set_cons_succ]
            have hb := (show Below _ _ _ from hG)
            obtain ⟨bx, ex, X4, gx⟩ := r1
            simp only [ex, r0]
            clear ex r0 hap hidx
            refine wpList_of_skip rfl (op_store4 8 35 _ rfl rfl X4) ?_
            have hB := put4_below (a := .bool np) (b := .slice Ap ip cp) (c := .bool nq) (d := .slice Aq iq cq) hb gx
            replace X4 := put4_own (a := .bool np) (b := .slice Ap ip cp) (c := .bool nq) (d := .slice Aq iq cq) X4
            clear hb hG gx
            generalize put4 x3 bx (.bool np) (.slice Ap ip cp) (.bool nq) (.slice Aq iq cq) = y1 at *
            replace w0 := Lib.hid (w0.out.below hB)
            replace w1 := Lib.hid (w1.out.below hB)
            replace w2 := Lib.hid (w2.out.below hB)
            replace w3 := Lib.hid (w3.out.below hB)
            replace w4 := Lib.hid (w4.out.below hB)
            replace w5 := Lib.hid (w5.out.below hB)
            replace w6 := Lib.hid (w6.out.below hB)
            replace w7 := Lib.hid (w7.out.below hB)
            replace SX := Lib.hid (SX.out.below hB)
            replace SY := Lib.hid (SY.out.below hB)
            replace HB := Lib.hid (HB.out.trans (Below.mono hB HB.out.size))
            clear hB
            replace X4 := Lib.hid X4
            go_upto_region 5 with fail
            simp only [Act.put]
            have HSX : Hid (∀ w', Below y1.heap.size y1 w' → w'.cell? ⟨bx, 0, none⟩ = some (.bool np) ∧ w'.cell? ⟨bx, 1, none⟩ = some (.slice Ap ip cp) ∧ w'.cell? ⟨bx, 2, none⟩ = some (.bool nq) ∧ w'.cell? ⟨bx, 3, none⟩ = some (.slice Aq iq cq) ∧ Below y1.heap.size y1 w') := Lib.hid fun w' hb => ⟨(BoxN.below X4.out hb).cell 0 rfl, (BoxN.below X4.out hb).cell 1 rfl, (BoxN.below X4.out hb).cell 2 rfl, (BoxN.below X4.out hb).cell 3 rfl, hb⟩
            go_region_held3 (fun w' => w'.cell? ⟨bx, 0, none⟩ = some (.bool np) ∧ w'.cell? ⟨bx, 1, none⟩ = some (.slice Ap ip cp) ∧ w'.cell? ⟨bx, 2, none⟩ = some (.bool nq) ∧ w'.cell? ⟨bx, 3, none⟩ = some (.slice Aq iq cq) ∧ Below y1.heap.size y1 w')
              (exact HSX.out _ (by repeat (first | exact Below.refl _ _ | refine Below.drew ?_ | refine Below.setCell ?_ (by simp) _ | refine Below.alloc ?_ (by simp) _)))
              (fail)
            · skip
              obtain ⟨Dp, Dq, hby⟩ := two_boxes y1 24 (.bool np) (.slice Ap ip cp) (.bool nq) (.slice Aq iq cq)
              generalize ((y1.alloc (.cells #[.bool np, .slice Ap ip cp] 24)).alloc (.cells #[.bool nq, .slice Aq iq cq] 24)).drew = wc at *
              clear HSX
              generalize hbs : y1.heap.size = bs at Dp Dq ⊢
              replace hbs := Lib.hid hbs
              have Sp := Lib.hid SX.out
              have Sq := Lib.hid SY.out
              clear SX SY X4
              replace Dp := Lib.hid Dp
              replace Dq := Lib.hid Dq
              replace Sp := Lib.hid (Sp.out.below hby)
              replace Sq := Lib.hid (Sq.out.below hby)
              replace w0 := Lib.hid (w0.out.below hby)
              replace w1 := Lib.hid (w1.out.below hby)
              replace w2 := Lib.hid (w2.out.below hby)
              replace w3 := Lib.hid (w3.out.below hby)
              replace w4 := Lib.hid (w4.out.below hby)
              replace w5 := Lib.hid (w5.out.below hby)
              replace w6 := Lib.hid (w6.out.below hby)
              replace w7 := Lib.hid (w7.out.below hby)
              replace HB := Lib.hid (HB.out.trans (Below.mono hby HB.out.size))
              clear hby
              obtain ⟨t, hwr⟩ := WV.wr (show WV _ (.agg #[.bool nq, .slice Aq iq cq]) q from ⟨_, _, _, _, rfl, Sq.out⟩)
              obtain ⟨n9, A9, k9, c9, lz, az, eq9, Nq, hlq, hzq, htq⟩ := hwr
              obtain ⟨rfl, rfl, rfl, rfl⟩ : nq = n9 ∧ Aq = A9 ∧ iq = k9 ∧ cq = c9 := by
                injection eq9 with g1
                injection g1 with g2
                injection g2 with g3 g4
                injection g4 with g5 g6
                injection g3 with g3
                injection g5 with g7 g8 g9
                exact ⟨g3, g7, g8, g9⟩
              clear eq9
              replace Nq := Lib.hid Nq
              replace hzq := Lib.hid hzq
              replace htq := Lib.hid htq
              obtain ⟨i1, hi1⟩ : ∃ i, Int.sign (p - q) = i := ⟨_, rfl⟩
              obtain ⟨i2, hi2⟩ : ∃ i, Int.sign q = i := ⟨_, rfl⟩
              replace hi1 := Lib.hid hi1
              replace hi2 := Lib.hid hi2
              go_upto_region 6 with fail
              refine wp_region_going 39 [] ([fun vq wq => WV wq vq p,
                  fun vq wq => WV wq vq q,
                  fun vq wq => RowV wq vq [p, q],
                  fun vq wq => ZV wq vq ((p + q)),
                  fun vq wq => WV wq vq p,
                  fun vq wq => WV wq vq q,
                  fun vq wq => ZV wq vq ((p + q)),
                  fun vq _ => vq = .bool true,
                  fun vq _ => vq = .bool false,
                  fun vq _ => vq = .bool false,
                  fun vq wq => WV wq vq p,
                  fun vq wq => WV wq vq q,
                  fun vq wq => ZV wq vq ((p - q)),
                  fun vq wq => WV wq vq p,
                  fun vq wq => WV wq vq q,
                  fun vq wq => ZV wq vq ((p - q)),
                  fun vq _ => vq = .bool true,
                  fun vq _ => vq = .bool false,
                  fun vq _ => vq = .bool false,
                  fun vq _ => vq = .bool false,
                  fun vq wq => WV wq vq p,
                  fun vq wq => WV wq vq q,
                  fun vq wq => RowV wq vq [p, q],
                  fun vq wq => ZV wq vq ((p * q)),
                  fun vq wq => WV wq vq p,
                  fun vq wq => WV wq vq q,
                  fun vq wq => ZV wq vq ((p * q)),
                  fun vq _ => vq = .bool true,
                  fun vq _ => vq = .bool false,
                  fun vq _ => vq = .bool false,
                  fun vq _ => vq = .bool false,
                  fun vq wq => WV wq vq p,
                  fun vq wq => WV wq vq q,
                  fun vq _ => vq = .int .i64 i1,
                  fun vq wq => WV wq vq p,
                  fun vq wq => WV wq vq q,
                  fun vq _ => vq = .int .i64 i1,
                  fun vq _ => vq = .bool false,
                  fun vq _ => vq = .bool false]) (by kernel_rfl) (by kernel_rfl) (by decide) (by kernel_rfl) (by kernel_rfl) ?hF ?steps ?fin
              case hF =>
                intro j hj; cases hj
              case steps =>
                refine AllOps.cons (Does.plain rfl fun lq aq wq hk hr K hK => ?_) ?_
                · have B9 : ev aq (.tmp 9) = .pointer (some ⟨bs, 0, none⟩) := hk.base 9 (by kernel_rfl) rfl
                  have hb := grows_of hk.ext
                  exact wp_of_value (op_load 9 _ B9 (Box2.below Dp.out hb)) (hK.out _ _ (Grows.refl _) (fun w2 h2 => ⟨_, _, _, _, rfl, (Sp.out.below hb).below h2⟩) (fun h => absurd h (by decide)))
                refine AllOps.cons (Does.plain rfl fun lq aq wq hk hr K hK => ?_) ?_
                · have B10 : ev aq (.tmp 10) = .pointer (some ⟨bs + 1, 0, none⟩) := hk.base 10 (by kernel_rfl) rfl
                  have hb := grows_of hk.ext
                  exact wp_of_value (op_load 10 _ B10 (Box2.below Dq.out hb)) (hK.out _ _ (Grows.refl _) (fun w2 h2 => ⟨_, _, _, _, rfl, (Sq.out.below hb).below h2⟩) (fun h => absurd h (by decide)))
                refine AllOps.cons (Does.plain rfl fun lq aq wq hk hr K hK => ?_) ?_
                · obtain ⟨v0, E0, -, r0⟩ := hk.dep hr 0 40 (by kernel_rfl) (by kernel_rfl)
                  have r0 : WV wq v0 p := r0 wq (Grows.refl wq)
                  obtain ⟨n0, A0, k0, c0, rfl, s0⟩ := r0
                  obtain ⟨v1, E1, -, r1⟩ := hk.dep hr 1 41 (by kernel_rfl) (by kernel_rfl)
                  have r1 : WV wq v1 q := r1 wq (Grows.refl wq)
                  obtain ⟨n1, A1, k1, c1, rfl, s1⟩ := r1
                  exact wp_of_value (op_row2 40 41 E0 E1) (hK.out _ _ ((Grows.refl _).alloc _) (fun w2 h2 => (RowV.two s0 s1).grow h2) (fun h => absurd h (by decide)))
                refine AllOps.cons (Does.plain rfl fun lq aq wq hk hr K hK => ?_) ?_
                · obtain ⟨v2, E2, -, r2⟩ := hk.dep hr 2 42 (by kernel_rfl) (by kernel_rfl)
                  have r2 : RowV wq v2 [p, q] := r2 wq (Grows.refl wq)
                  refine wp_of_call (f := 27) (vs := #[v2]) (by go_simp) (add2_v wq r2 (Nat.le_trans hkp (by decide)) (Nat.le_trans (szz_add hkp hkq) (by decide))) ?_
                  rintro e w1 ⟨u, rfl, hu, hb⟩
                  exact ⟨u, rfl, hK.out _ _ hb (fun w2 h2 => (hu).grow h2) (fun h => absurd h (by decide))⟩
                refine AllOps.cons (Does.plain rfl fun lq aq wq hk hr K hK => ?_) ?_
                · have B9 : ev aq (.tmp 9) = .pointer (some ⟨bs, 0, none⟩) := hk.base 9 (by kernel_rfl) rfl
                  have hb := grows_of hk.ext
                  exact wp_of_value (op_load 9 _ B9 (Box2.below Dp.out hb)) (hK.out _ _ (Grows.refl _) (fun w2 h2 => ⟨_, _, _, _, rfl, (Sp.out.below hb).below h2⟩) (fun h => absurd h (by decide)))
                refine AllOps.cons (Does.plain rfl fun lq aq wq hk hr K hK => ?_) ?_
                · have B10 : ev aq (.tmp 10) = .pointer (some ⟨bs + 1, 0, none⟩) := hk.base 10 (by kernel_rfl) rfl
                  have hb := grows_of hk.ext
                  exact wp_of_value (op_load 10 _ B10 (Box2.below Dq.out hb)) (hK.out _ _ (Grows.refl _) (fun w2 h2 => ⟨_, _, _, _, rfl, (Sq.out.below hb).below h2⟩) (fun h => absurd h (by decide)))
                refine AllOps.cons (Does.plain rfl fun lq aq wq hk hr K hK => ?_) ?_
                · obtain ⟨v4, E4, -, r4⟩ := hk.dep hr 4 44 (by kernel_rfl) (by kernel_rfl)
                  have r4 : WV wq v4 p := r4 wq (Grows.refl wq)
                  obtain ⟨v5, E5, -, r5⟩ := hk.dep hr 5 45 (by kernel_rfl) (by kernel_rfl)
                  have r5 : WV wq v5 q := r5 wq (Grows.refl wq)
                  refine wp_of_call (f := 39) (vs := #[v4, v5]) (by go_simp) (radd_v wq r4 r5 (Nat.le_trans (szz_add hkp hkq) (by decide))) ?_
                  rintro e w1 ⟨u, rfl, hu, hb⟩
                  exact ⟨u, rfl, hK.out _ _ hb (fun w2 h2 => (hu).grow h2) (fun h => absurd h (by decide))⟩
                refine AllOps.cons (Does.plain rfl fun lq aq wq hk hr K hK => ?_) ?_
                · obtain ⟨v3, E3, -, r3⟩ := hk.dep hr 3 43 (by kernel_rfl) (by kernel_rfl)
                  have r3 : ZV wq v3 ((p + q)) := r3 wq (Grows.refl wq)
                  obtain ⟨v6, E6, -, r6⟩ := hk.dep hr 6 46 (by kernel_rfl) (by kernel_rfl)
                  have r6 : ZV wq v6 ((p + q)) := r6 wq (Grows.refl wq)
                  refine wp_of_call (f := 20) (vs := #[v3, v6]) (by go_simp) (rsame_v wq r3 r6 (t := true) (decide_eq_true rfl)) ?_
                  rintro e w1 ⟨u, rfl, hu, hb⟩
                  exact ⟨u, rfl, hK.out _ _ hb (fun w2 h2 => hu) (fun h => absurd h (by decide))⟩
                refine AllOps.cons (Does.plain rfl fun lq aq wq hk hr K hK => ?_) ?_
                · obtain ⟨v7, E7, -, r7⟩ := hk.dep hr 7 47 (by kernel_rfl) (by kernel_rfl)
                  replace E7 : ev aq (.tmp 47) = .bool true := E7.trans (r7 wq (Grows.refl wq))
                  exact wp_of_value (by go_simp) (hK.out _ _ (Grows.refl _) (fun w2 h2 => rfl) (fun h => absurd h (by decide)))
                refine AllOps.cons (Does.plain rfl fun lq aq wq hk hr K hK => ?_) ?_
                · obtain ⟨v8, E8, -, r8⟩ := hk.dep hr 8 48 (by kernel_rfl) (by kernel_rfl)
                  replace E8 : ev aq (.tmp 48) = .bool false := E8.trans (r8 wq (Grows.refl wq))
                  exact wp_of_value (by go_simp) (hK.out _ _ (Grows.refl _) (fun w2 h2 => rfl) (fun h => absurd h (by decide)))
                refine AllOps.cons (Does.lets (g := 9) (d := 49) (t := false) rfl (by kernel_rfl) (by kernel_rfl) (fun vq wq h => h wq (Grows.refl wq)) fun lq aq wq hk hr K hK => ?_) ?_
                · have B9 : ev aq (.tmp 9) = .pointer (some ⟨bs, 0, none⟩) := hk.base 9 (by kernel_rfl) rfl
                  have hb := grows_of hk.ext
                  exact wp_of_value (op_load 9 _ B9 (Box2.below Dp.out hb)) (hK.out _ _ (Grows.refl _) (fun w2 h2 => ⟨_, _, _, _, rfl, (Sp.out.below hb).below h2⟩) (fun h => absurd h (by decide)))
                refine AllOps.cons (Does.lets (g := 9) (d := 49) (t := false) rfl (by kernel_rfl) (by kernel_rfl) (fun vq wq h => h wq (Grows.refl wq)) fun lq aq wq hk hr K hK => ?_) ?_
                · have B10 : ev aq (.tmp 10) = .pointer (some ⟨bs + 1, 0, none⟩) := hk.base 10 (by kernel_rfl) rfl
                  have hb := grows_of hk.ext
                  exact wp_of_value (op_load 10 _ B10 (Box2.below Dq.out hb)) (hK.out _ _ (Grows.refl _) (fun w2 h2 => ⟨_, _, _, _, rfl, (Sq.out.below hb).below h2⟩) (fun h => absurd h (by decide)))
                refine AllOps.cons (Does.lets (g := 9) (d := 49) (t := false) rfl (by kernel_rfl) (by kernel_rfl) (fun vq wq h => h wq (Grows.refl wq)) fun lq aq wq hk hr K hK => ?_) ?_
                · obtain ⟨v10, E10, -, r10⟩ := hk.dep hr 10 50 (by kernel_rfl) (by kernel_rfl)
                  have r10 : WV wq v10 p := r10 wq (Grows.refl wq)
                  obtain ⟨v11, E11, -, r11⟩ := hk.dep hr 11 51 (by kernel_rfl) (by kernel_rfl)
                  have r11 : WV wq v11 q := r11 wq (Grows.refl wq)
                  refine wp_of_call (f := 29) (vs := #[v10, v11]) (by go_simp) (sub_v wq r10 r11 (Nat.le_trans (szz_sub hkp hkq) (by decide))) ?_
                  rintro e w1 ⟨u, rfl, hu, hb⟩
                  exact ⟨u, rfl, hK.out _ _ hb (fun w2 h2 => (hu).grow h2) (fun h => absurd h (by decide))⟩
                refine AllOps.cons (Does.lets (g := 9) (d := 49) (t := false) rfl (by kernel_rfl) (by kernel_rfl) (fun vq wq h => h wq (Grows.refl wq)) fun lq aq wq hk hr K hK => ?_) ?_
                · have B9 : ev aq (.tmp 9) = .pointer (some ⟨bs, 0, none⟩) := hk.base 9 (by kernel_rfl) rfl
                  have hb := grows_of hk.ext
                  exact wp_of_value (op_load 9 _ B9 (Box2.below Dp.out hb)) (hK.out _ _ (Grows.refl _) (fun w2 h2 => ⟨_, _, _, _, rfl, (Sp.out.below hb).below h2⟩) (fun h => absurd h (by decide)))
                refine AllOps.cons (Does.lets (g := 9) (d := 49) (t := false) rfl (by kernel_rfl) (by kernel_rfl) (fun vq wq h => h wq (Grows.refl wq)) fun lq aq wq hk hr K hK => ?_) ?_
                · have B10 : ev aq (.tmp 10) = .pointer (some ⟨bs + 1, 0, none⟩) := hk.base 10 (by kernel_rfl) rfl
                  have hb := grows_of hk.ext
                  exact wp_of_value (op_load 10 _ B10 (Box2.below Dq.out hb)) (hK.out _ _ (Grows.refl _) (fun w2 h2 => ⟨_, _, _, _, rfl, (Sq.out.below hb).below h2⟩) (fun h => absurd h (by decide)))
                refine AllOps.cons (Does.lets (g := 9) (d := 49) (t := false) rfl (by kernel_rfl) (by kernel_rfl) (fun vq wq h => h wq (Grows.refl wq)) fun lq aq wq hk hr K hK => ?_) ?_
                · obtain ⟨v13, E13, -, r13⟩ := hk.dep hr 13 53 (by kernel_rfl) (by kernel_rfl)
                  have r13 : WV wq v13 p := r13 wq (Grows.refl wq)
                  obtain ⟨v14, E14, -, r14⟩ := hk.dep hr 14 54 (by kernel_rfl) (by kernel_rfl)
                  have r14 : WV wq v14 q := r14 wq (Grows.refl wq)
                  refine wp_of_call (f := 40) (vs := #[v13, v14]) (by go_simp) (rsub_v wq r13 r14 (Nat.le_trans (szz_sub hkp hkq) (by decide))) ?_
                  rintro e w1 ⟨u, rfl, hu, hb⟩
                  exact ⟨u, rfl, hK.out _ _ hb (fun w2 h2 => (hu).grow h2) (fun h => absurd h (by decide))⟩
                refine AllOps.cons (Does.lets (g := 9) (d := 49) (t := false) rfl (by kernel_rfl) (by kernel_rfl) (fun vq wq h => h wq (Grows.refl wq)) fun lq aq wq hk hr K hK => ?_) ?_
                · obtain ⟨v12, E12, -, r12⟩ := hk.dep hr 12 52 (by kernel_rfl) (by kernel_rfl)
                  have r12 : ZV wq v12 ((p - q)) := r12 wq (Grows.refl wq)
                  obtain ⟨v15, E15, -, r15⟩ := hk.dep hr 15 55 (by kernel_rfl) (by kernel_rfl)
                  have r15 : ZV wq v15 ((p - q)) := r15 wq (Grows.refl wq)
                  refine wp_of_call (f := 20) (vs := #[v12, v15]) (by go_simp) (rsame_v wq r12 r15 (t := true) (decide_eq_true rfl)) ?_
                  rintro e w1 ⟨u, rfl, hu, hb⟩
                  exact ⟨u, rfl, hK.out _ _ hb (fun w2 h2 => hu) (fun h => absurd h (by decide))⟩
                refine AllOps.cons (Does.lets (g := 9) (d := 49) (t := false) rfl (by kernel_rfl) (by kernel_rfl) (fun vq wq h => h wq (Grows.refl wq)) fun lq aq wq hk hr K hK => ?_) ?_
                · obtain ⟨v16, E16, -, r16⟩ := hk.dep hr 16 56 (by kernel_rfl) (by kernel_rfl)
                  replace E16 : ev aq (.tmp 56) = .bool true := E16.trans (r16 wq (Grows.refl wq))
                  exact wp_of_value (by go_simp) (hK.out _ _ (Grows.refl _) (fun w2 h2 => rfl) (fun h => absurd h (by decide)))
                refine AllOps.cons (Does.plain rfl fun lq aq wq hk hr K hK => ?_) ?_
                · obtain ⟨v9, E9, -, r9⟩ := hk.dep hr 9 49 (by kernel_rfl) (by kernel_rfl)
                  replace E9 : ev aq (.tmp 49) = .bool false := E9.trans (r9 wq (Grows.refl wq))
                  obtain ⟨v17, E17, -, r17⟩ := hk.dep hr 17 57 (by kernel_rfl) (by kernel_rfl)
                  replace E17 : ev aq (.tmp 57) = .bool false := E17.trans (r17 wq (Grows.refl wq))
                  exact wp_of_value (by go_simp) (hK.out _ _ (Grows.refl _) (fun w2 h2 => rfl) (fun h => absurd h (by decide)))
                refine AllOps.cons (Does.plain rfl fun lq aq wq hk hr K hK => ?_) ?_
                · obtain ⟨v18, E18, -, r18⟩ := hk.dep hr 18 58 (by kernel_rfl) (by kernel_rfl)
                  replace E18 : ev aq (.tmp 58) = .bool false := E18.trans (r18 wq (Grows.refl wq))
                  exact wp_of_value (by go_simp) (hK.out _ _ (Grows.refl _) (fun w2 h2 => rfl) (fun h => absurd h (by decide)))
                refine AllOps.cons (Does.lets (g := 19) (d := 59) (t := false) rfl (by kernel_rfl) (by kernel_rfl) (fun vq wq h => h wq (Grows.refl wq)) fun lq aq wq hk hr K hK => ?_) ?_
                · have B9 : ev aq (.tmp 9) = .pointer (some ⟨bs, 0, none⟩) := hk.base 9 (by kernel_rfl) rfl
                  have hb := grows_of hk.ext
                  exact wp_of_value (op_load 9 _ B9 (Box2.below Dp.out hb)) (hK.out _ _ (Grows.refl _) (fun w2 h2 => ⟨_, _, _, _, rfl, (Sp.out.below hb).below h2⟩) (fun h => absurd h (by decide)))
                refine AllOps.cons (Does.lets (g := 19) (d := 59) (t := false) rfl (by kernel_rfl) (by kernel_rfl) (fun vq wq h => h wq (Grows.refl wq)) fun lq aq wq hk hr K hK => ?_) ?_
                · have B10 : ev aq (.tmp 10) = .pointer (some ⟨bs + 1, 0, none⟩) := hk.base 10 (by kernel_rfl) rfl
                  have hb := grows_of hk.ext
                  exact wp_of_value (op_load 10 _ B10 (Box2.below Dq.out hb)) (hK.out _ _ (Grows.refl _) (fun w2 h2 => ⟨_, _, _, _, rfl, (Sq.out.below hb).below h2⟩) (fun h => absurd h (by decide)))
                refine AllOps.cons (Does.lets (g := 19) (d := 59) (t := false) rfl (by kernel_rfl) (by kernel_rfl) (fun vq wq h => h wq (Grows.refl wq)) fun lq aq wq hk hr K hK => ?_) ?_
                · obtain ⟨v20, E20, -, r20⟩ := hk.dep hr 20 60 (by kernel_rfl) (by kernel_rfl)
                  have r20 : WV wq v20 p := r20 wq (Grows.refl wq)
                  obtain ⟨n20, A20, k20, c20, rfl, s20⟩ := r20
                  obtain ⟨v21, E21, -, r21⟩ := hk.dep hr 21 61 (by kernel_rfl) (by kernel_rfl)
                  have r21 : WV wq v21 q := r21 wq (Grows.refl wq)
                  obtain ⟨n21, A21, k21, c21, rfl, s21⟩ := r21
                  exact wp_of_value (op_row2 60 61 E20 E21) (hK.out _ _ ((Grows.refl _).alloc _) (fun w2 h2 => (RowV.two s20 s21).grow h2) (fun h => absurd h (by decide)))
                refine AllOps.cons (Does.lets (g := 19) (d := 59) (t := false) rfl (by kernel_rfl) (by kernel_rfl) (fun vq wq h => h wq (Grows.refl wq)) fun lq aq wq hk hr K hK => ?_) ?_
                · obtain ⟨v22, E22, -, r22⟩ := hk.dep hr 22 62 (by kernel_rfl) (by kernel_rfl)
                  have r22 : RowV wq v22 [p, q] := r22 wq (Grows.refl wq)
                  refine wp_of_call (f := 28) (vs := #[v22]) (by go_simp) (mul2_v wq r22 (Nat.le_trans hkp (by decide)) (Nat.le_trans (szz_mul hkp hkq) (by decide))) ?_
                  rintro e w1 ⟨u, rfl, hu, hb⟩
                  exact ⟨u, rfl, hK.out _ _ hb (fun w2 h2 => (hu).grow h2) (fun h => absurd h (by decide))⟩
                refine AllOps.cons (Does.lets (g := 19) (d := 59) (t := false) rfl (by kernel_rfl) (by kernel_rfl) (fun vq wq h => h wq (Grows.refl wq)) fun lq aq wq hk hr K hK => ?_) ?_
                · have B9 : ev aq (.tmp 9) = .pointer (some ⟨bs, 0, none⟩) := hk.base 9 (by kernel_rfl) rfl
                  have hb := grows_of hk.ext
                  exact wp_of_value (op_load 9 _ B9 (Box2.below Dp.out hb)) (hK.out _ _ (Grows.refl _) (fun w2 h2 => ⟨_, _, _, _, rfl, (Sp.out.below hb).below h2⟩) (fun h => absurd h (by decide)))
                refine AllOps.cons (Does.lets (g := 19) (d := 59) (t := false) rfl (by kernel_rfl) (by kernel_rfl) (fun vq wq h => h wq (Grows.refl wq)) fun lq aq wq hk hr K hK => ?_) ?_
                · have B10 : ev aq (.tmp 10) = .pointer (some ⟨bs + 1, 0, none⟩) := hk.base 10 (by kernel_rfl) rfl
                  have hb := grows_of hk.ext
                  exact wp_of_value (op_load 10 _ B10 (Box2.below Dq.out hb)) (hK.out _ _ (Grows.refl _) (fun w2 h2 => ⟨_, _, _, _, rfl, (Sq.out.below hb).below h2⟩) (fun h => absurd h (by decide)))
                refine AllOps.cons (Does.lets (g := 19) (d := 59) (t := false) rfl (by kernel_rfl) (by kernel_rfl) (fun vq wq h => h wq (Grows.refl wq)) fun lq aq wq hk hr K hK => ?_) ?_
                · obtain ⟨v24, E24, -, r24⟩ := hk.dep hr 24 64 (by kernel_rfl) (by kernel_rfl)
                  have r24 : WV wq v24 p := r24 wq (Grows.refl wq)
                  obtain ⟨v25, E25, -, r25⟩ := hk.dep hr 25 65 (by kernel_rfl) (by kernel_rfl)
                  have r25 : WV wq v25 q := r25 wq (Grows.refl wq)
                  refine wp_of_call (f := 15) (vs := #[v24, v25]) (by go_simp) (rmul_v wq r24 r25 (Nat.le_trans (szz_mul hkp hkq) (by decide))) ?_
                  rintro e w1 ⟨u, rfl, hu, hb⟩
                  exact ⟨u, rfl, hK.out _ _ hb (fun w2 h2 => (hu).grow h2) (fun h => absurd h (by decide))⟩
                refine AllOps.cons (Does.lets (g := 19) (d := 59) (t := false) rfl (by kernel_rfl) (by kernel_rfl) (fun vq wq h => h wq (Grows.refl wq)) fun lq aq wq hk hr K hK => ?_) ?_
                · obtain ⟨v23, E23, -, r23⟩ := hk.dep hr 23 63 (by kernel_rfl) (by kernel_rfl)
                  have r23 : ZV wq v23 ((p * q)) := r23 wq (Grows.refl wq)
                  obtain ⟨v26, E26, -, r26⟩ := hk.dep hr 26 66 (by kernel_rfl) (by kernel_rfl)
                  have r26 : ZV wq v26 ((p * q)) := r26 wq (Grows.refl wq)
                  refine wp_of_call (f := 20) (vs := #[v23, v26]) (by go_simp) (rsame_v wq r23 r26 (t := true) (decide_eq_true rfl)) ?_
                  rintro e w1 ⟨u, rfl, hu, hb⟩
                  exact ⟨u, rfl, hK.out _ _ hb (fun w2 h2 => hu) (fun h => absurd h (by decide))⟩
                refine AllOps.cons (Does.lets (g := 19) (d := 59) (t := false) rfl (by kernel_rfl) (by kernel_rfl) (fun vq wq h => h wq (Grows.refl wq)) fun lq aq wq hk hr K hK => ?_) ?_
                · obtain ⟨v27, E27, -, r27⟩ := hk.dep hr 27 67 (by kernel_rfl) (by kernel_rfl)
                  replace E27 : ev aq (.tmp 67) = .bool true := E27.trans (r27 wq (Grows.refl wq))
                  exact wp_of_value (by go_simp) (hK.out _ _ (Grows.refl _) (fun w2 h2 => rfl) (fun h => absurd h (by decide)))
                refine AllOps.cons (Does.plain rfl fun lq aq wq hk hr K hK => ?_) ?_
                · obtain ⟨v19, E19, -, r19⟩ := hk.dep hr 19 59 (by kernel_rfl) (by kernel_rfl)
                  replace E19 : ev aq (.tmp 59) = .bool false := E19.trans (r19 wq (Grows.refl wq))
                  obtain ⟨v28, E28, -, r28⟩ := hk.dep hr 28 68 (by kernel_rfl) (by kernel_rfl)
                  replace E28 : ev aq (.tmp 68) = .bool false := E28.trans (r28 wq (Grows.refl wq))
                  exact wp_of_value (by go_simp) (hK.out _ _ (Grows.refl _) (fun w2 h2 => rfl) (fun h => absurd h (by decide)))
                refine AllOps.cons (Does.plain rfl fun lq aq wq hk hr K hK => ?_) ?_
                · obtain ⟨v29, E29, -, r29⟩ := hk.dep hr 29 69 (by kernel_rfl) (by kernel_rfl)
                  replace E29 : ev aq (.tmp 69) = .bool false := E29.trans (r29 wq (Grows.refl wq))
                  exact wp_of_value (by go_simp) (hK.out _ _ (Grows.refl _) (fun w2 h2 => rfl) (fun h => absurd h (by decide)))
                refine AllOps.cons (Does.lets (g := 30) (d := 70) (t := false) rfl (by kernel_rfl) (by kernel_rfl) (fun vq wq h => h wq (Grows.refl wq)) fun lq aq wq hk hr K hK => ?_) ?_
                · have B9 : ev aq (.tmp 9) = .pointer (some ⟨bs, 0, none⟩) := hk.base 9 (by kernel_rfl) rfl
                  have hb := grows_of hk.ext
                  exact wp_of_value (op_load 9 _ B9 (Box2.below Dp.out hb)) (hK.out _ _ (Grows.refl _) (fun w2 h2 => ⟨_, _, _, _, rfl, (Sp.out.below hb).below h2⟩) (fun h => absurd h (by decide)))
                refine AllOps.cons (Does.lets (g := 30) (d := 70) (t := false) rfl (by kernel_rfl) (by kernel_rfl) (fun vq wq h => h wq (Grows.refl wq)) fun lq aq wq hk hr K hK => ?_) ?_
                · have B10 : ev aq (.tmp 10) = .pointer (some ⟨bs + 1, 0, none⟩) := hk.base 10 (by kernel_rfl) rfl
                  have hb := grows_of hk.ext
                  exact wp_of_value (op_load 10 _ B10 (Box2.below Dq.out hb)) (hK.out _ _ (Grows.refl _) (fun w2 h2 => ⟨_, _, _, _, rfl, (Sq.out.below hb).below h2⟩) (fun h => absurd h (by decide)))
                refine AllOps.cons (Does.lets (g := 30) (d := 70) (t := false) rfl (by kernel_rfl) (by kernel_rfl) (fun vq wq h => h wq (Grows.refl wq)) fun lq aq wq hk hr K hK => ?_) ?_
                · obtain ⟨v31, E31, -, r31⟩ := hk.dep hr 31 71 (by kernel_rfl) (by kernel_rfl)
                  have r31 : WV wq v31 p := r31 wq (Grows.refl wq)
                  obtain ⟨v32, E32, -, r32⟩ := hk.dep hr 32 72 (by kernel_rfl) (by kernel_rfl)
                  have r32 : WV wq v32 q := r32 wq (Grows.refl wq)
                  refine wp_of_call (f := 37) (vs := #[v31, v32]) (by go_simp) (cmp_v wq r31 r32 (k := i1) hi1.out) ?_
                  rintro e w1 ⟨u, rfl, hu, hb⟩
                  exact ⟨u, rfl, hK.out _ _ hb (fun w2 h2 => hu) (fun h => absurd h (by decide))⟩
                refine AllOps.cons (Does.lets (g := 30) (d := 70) (t := false) rfl (by kernel_rfl) (by kernel_rfl) (fun vq wq h => h wq (Grows.refl wq)) fun lq aq wq hk hr K hK => ?_) ?_
                · have B9 : ev aq (.tmp 9) = .pointer (some ⟨bs, 0, none⟩) := hk.base 9 (by kernel_rfl) rfl
                  have hb := grows_of hk.ext
                  exact wp_of_value (op_load 9 _ B9 (Box2.below Dp.out hb)) (hK.out _ _ (Grows.refl _) (fun w2 h2 => ⟨_, _, _, _, rfl, (Sp.out.below hb).below h2⟩) (fun h => absurd h (by decide)))
                refine AllOps.cons (Does.lets (g := 30) (d := 70) (t := false) rfl (by kernel_rfl) (by kernel_rfl) (fun vq wq h => h wq (Grows.refl wq)) fun lq aq wq hk hr K hK => ?_) ?_
                · have B10 : ev aq (.tmp 10) = .pointer (some ⟨bs + 1, 0, none⟩) := hk.base 10 (by kernel_rfl) rfl
                  have hb := grows_of hk.ext
                  exact wp_of_value (op_load 10 _ B10 (Box2.below Dq.out hb)) (hK.out _ _ (Grows.refl _) (fun w2 h2 => ⟨_, _, _, _, rfl, (Sq.out.below hb).below h2⟩) (fun h => absurd h (by decide)))
                refine AllOps.cons (Does.lets (g := 30) (d := 70) (t := false) rfl (by kernel_rfl) (by kernel_rfl) (fun vq wq h => h wq (Grows.refl wq)) fun lq aq wq hk hr K hK => ?_) ?_
                · obtain ⟨v34, E34, -, r34⟩ := hk.dep hr 34 74 (by kernel_rfl) (by kernel_rfl)
                  have r34 : WV wq v34 p := r34 wq (Grows.refl wq)
                  obtain ⟨v35, E35, -, r35⟩ := hk.dep hr 35 75 (by kernel_rfl) (by kernel_rfl)
                  have r35 : WV wq v35 q := r35 wq (Grows.refl wq)
                  refine wp_of_call (f := 41) (vs := #[v34, v35]) (by go_simp) (rcmp_v wq r34 r35 (k := i1) hi1.out (Nat.le_trans (szz_sub hkp hkq) (by decide))) ?_
                  rintro e w1 ⟨u, rfl, hu, hb⟩
                  exact ⟨u, rfl, hK.out _ _ hb (fun w2 h2 => hu) (fun h => absurd h (by decide))⟩
                refine AllOps.cons (Does.lets (g := 30) (d := 70) (t := false) rfl (by kernel_rfl) (by kernel_rfl) (fun vq wq h => h wq (Grows.refl wq)) fun lq aq wq hk hr K hK => ?_) ?_
                · obtain ⟨v33, E33, -, r33⟩ := hk.dep hr 33 73 (by kernel_rfl) (by kernel_rfl)
                  replace E33 : ev aq (.tmp 73) = .int .i64 i1 := E33.trans (r33 wq (Grows.refl wq))
                  obtain ⟨v36, E36, -, r36⟩ := hk.dep hr 36 76 (by kernel_rfl) (by kernel_rfl)
                  replace E36 : ev aq (.tmp 76) = .int .i64 i1 := E36.trans (r36 wq (Grows.refl wq))
                  exact wp_of_value (by go_simp) (hK.out _ _ (Grows.refl _) (fun w2 h2 => rfl) (fun h => absurd h (by decide)))
                refine AllOps.cons (Does.plain rfl fun lq aq wq hk hr K hK => ?_) ?_
                · obtain ⟨v30, E30, -, r30⟩ := hk.dep hr 30 70 (by kernel_rfl) (by kernel_rfl)
                  replace E30 : ev aq (.tmp 70) = .bool false := E30.trans (r30 wq (Grows.refl wq))
                  obtain ⟨v37, E37, -, r37⟩ := hk.dep hr 37 77 (by kernel_rfl) (by kernel_rfl)
                  replace E37 : ev aq (.tmp 77) = .bool false := E37.trans (r37 wq (Grows.refl wq))
                  exact wp_of_value (by go_simp) (hK.out _ _ (Grows.refl _) (fun w2 h2 => rfl) (fun h => absurd h (by decide)))
                exact AllOps.nil
              case fin =>
                intro V x4 hG hV hap
                have r38 : (V 38) = .bool false := hV 38 (by decide)
                clear hV hap
                simp only [List.take_succ_cons, List.take_nil, List.drop_succ_cons, List.drop_nil, putAll, Act.put, List.setIfInBounds_toArray, List.set_cons_zero, List.set_cons_succ]
                have hb := grows_of hG
                replace Dp := Lib.hid (Box2.below Dp.out hb)
                replace Sp := Lib.hid (Sp.out.below hb)
                replace Dq := Lib.hid (Box2.below Dq.out hb)
                replace Sq := Lib.hid (Sq.out.below hb)
                replace w0 := Lib.hid (w0.out.below hb)
                replace w1 := Lib.hid (w1.out.below hb)
                replace w2 := Lib.hid (w2.out.below hb)
                replace w3 := Lib.hid (w3.out.below hb)
                replace w4 := Lib.hid (w4.out.below hb)
                replace w5 := Lib.hid (w5.out.below hb)
                replace w6 := Lib.hid (w6.out.below hb)
                replace w7 := Lib.hid (w7.out.below hb)
                replace Nq := Lib.hid (Nq.out.below hb)
                replace HB := Lib.hid (HB.out.trans (Below.mono hb HB.out.size))
                clear hb hG
                rw [r38]
                clear r38
                rcases Decidable.em (-9223372036854775808 ≤ q ∧ q ≤ 9223372036854775807) with hin | hin
                · skip
                  replace hin := Lib.hid hin
                  go_upto_region 8 with fail
                  refine wp_region_calm 5 [] ([fun vq wq => WV wq vq q,
                      fun vq wq => vq = .tuple #[.int .i64 q, .bool true],
                      fun vq wq => vq = .tuple #[.int .i64 q, .bool true],
                      fun vq _ => vq = .int .i64 q,
                      fun vq _ => vq = .bool true]) (by kernel_rfl) (by decide) ?hF ?steps ?fin
                  case hF =>
                    intro j hj; cases hj
                  case steps =>
                    refine AllOps.cons (Does.plain rfl fun lq aq wq hk hr K hK => ?_) ?_
                    · have B10 : ev aq (.tmp 10) = .pointer (some ⟨bs + 1, 0, none⟩) := hk.base 10 (by kernel_rfl) rfl
                      have hb : Below _ _ _ := hk.ext
                      exact wp_of_value (op_load 10 _ B10 (Box2.below Dq.out hb)) (hK.out _ _ (Grows.refl _) (fun w2 h2 => ⟨_, _, _, _, rfl, (Sq.out.below hb).below h2⟩) (fun h => absurd h (by decide)))
                    refine AllOps.cons (Does.plain rfl fun lq aq wq hk hr K hK => ?_) ?_
                    · obtain ⟨v0, E0, -, r0⟩ := hk.dep hr 0 80 (by kernel_rfl) (by kernel_rfl)
                      have r0 : WV wq v0 q := r0 wq (Grows.refl wq)
                      refine wp_of_call (f := 38) (vs := #[v0]) (by go_simp) (small_v wq r0 hin.out.1 hin.out.2) ?_
                      rintro e w1 ⟨u, rfl, hu, hb⟩
                      exact ⟨u, rfl, hK.out _ _ hb (fun w2 h2 => hu) (fun h => absurd h (by decide))⟩
                    refine AllOps.cons (Does.plain rfl fun lq aq wq hk hr K hK => ?_) ?_
                    · obtain ⟨v1, E1, -, r1⟩ := hk.dep hr 1 81 (by kernel_rfl) (by kernel_rfl)
                      have r1 : v1 = .tuple #[.int .i64 q, .bool true] := r1 wq (Grows.refl wq)
                      exact wp_of_value (by go_simp) (hK.out _ _ (Grows.refl _) (fun w2 h2 => r1) (fun h => absurd h (by decide)))
                    refine AllOps.cons (Does.plain rfl fun lq aq wq hk hr K hK => ?_) ?_
                    · obtain ⟨v2, E2, -, r2⟩ := hk.dep hr 2 79 (by kernel_rfl) (by kernel_rfl)
                      have r2 : v2 = .tuple #[.int .i64 q, .bool true] := r2 wq (Grows.refl wq)
                      obtain ⟨rfl⟩ := r2
                      exact wp_of_value (by go_simp) (hK.out _ _ (Grows.refl _) (fun w2 h2 => rfl) (fun h => absurd h (by decide)))
                    refine AllOps.cons (Does.plain rfl fun lq aq wq hk hr K hK => ?_) ?_
                    · obtain ⟨v2, E2, -, r2⟩ := hk.dep hr 2 79 (by kernel_rfl) (by kernel_rfl)
                      have r2 : v2 = .tuple #[.int .i64 q, .bool true] := r2 wq (Grows.refl wq)
                      obtain ⟨rfl⟩ := r2
                      exact wp_of_value (by go_simp) (hK.out _ _ (Grows.refl _) (fun w2 h2 => rfl) (fun h => absurd h (by decide)))
                    exact AllOps.nil
                  case fin =>
                    intro V x5 hG hV hap
                    have r3 : (V 3) = .int .i64 q := hV 3 (by decide)
                    have r4 : (V 4) = .bool true := hV 4 (by decide)
                    clear hV hap
                    simp only [List.take_succ_cons, List.take_zero, List.drop_succ_cons, List.drop_zero, putAll, Act.put, List.setIfInBounds_toArray, List.set_cons_zero, List.set_cons_succ]
                    have hb := (show Below _ _ _ from hG)
                    replace Dp := Lib.hid (Box2.below Dp.out hb)
                    replace Sp := Lib.hid (Sp.out.below hb)
                    replace Dq := Lib.hid (Box2.below Dq.out hb)
                    replace Sq := Lib.hid (Sq.out.below hb)
                    replace w0 := Lib.hid (w0.out.below hb)
                    replace w1 := Lib.hid (w1.out.below hb)
                    replace w2 := Lib.hid (w2.out.below hb)
                    replace w3 := Lib.hid (w3.out.below hb)
                    replace w4 := Lib.hid (w4.out.below hb)
                    replace w5 := Lib.hid (w5.out.below hb)
                    replace w6 := Lib.hid (w6.out.below hb)
                    replace w7 := Lib.hid (w7.out.below hb)
                    replace Nq := Lib.hid (Nq.out.below hb)
                    replace HB := Lib.hid (HB.out.trans (Below.mono hb HB.out.size))
                    clear hb hG
                    rw [r3, r4]
                    clear r3 r4
                    go_upto_region 9 with fail
                    refine wp_region_calm 5 [] ([fun vq wq => WV wq vq q,
                        fun vq wq => vq = .tuple #[.int .i64 q, .bool true],
                        fun vq wq => vq = .tuple #[.int .i64 q, .bool true],
                        fun vq _ => vq = .int .i64 q,
                        fun vq _ => vq = .bool true]) (by kernel_rfl) (by decide) ?hF ?steps ?fin
                    case hF =>
                      intro j hj; cases hj
                    case steps =>
                      refine AllOps.cons (Does.plain rfl fun lq aq wq hk hr K hK => ?_) ?_
                      · have B10 : ev aq (.tmp 10) = .pointer (some ⟨bs + 1, 0, none⟩) := hk.base 10 (by kernel_rfl) rfl
                        have hb : Below _ _ _ := hk.ext
                        exact wp_of_value (op_load 10 _ B10 (Box2.below Dq.out hb)) (hK.out _ _ (Grows.refl _) (fun w2 h2 => ⟨_, _, _, _, rfl, (Sq.out.below hb).below h2⟩) (fun h => absurd h (by decide)))
                      refine AllOps.cons (Does.plain rfl fun lq aq wq hk hr K hK => ?_) ?_
                      · obtain ⟨v0, E0, -, r0⟩ := hk.dep hr 0 85 (by kernel_rfl) (by kernel_rfl)
                        have r0 : WV wq v0 q := r0 wq (Grows.refl wq)
                        refine wp_of_call (f := 42) (vs := #[v0]) (by go_simp) (rsmall_v wq r0 hin.out.1 hin.out.2) ?_
                        rintro e w1 ⟨u, rfl, hu, hb⟩
                        exact ⟨u, rfl, hK.out _ _ hb (fun w2 h2 => hu) (fun h => absurd h (by decide))⟩
                      refine AllOps.cons (Does.plain rfl fun lq aq wq hk hr K hK => ?_) ?_
                      · obtain ⟨v1, E1, -, r1⟩ := hk.dep hr 1 86 (by kernel_rfl) (by kernel_rfl)
                        have r1 : v1 = .tuple #[.int .i64 q, .bool true] := r1 wq (Grows.refl wq)
                        exact wp_of_value (by go_simp) (hK.out _ _ (Grows.refl _) (fun w2 h2 => r1) (fun h => absurd h (by decide)))
                      refine AllOps.cons (Does.plain rfl fun lq aq wq hk hr K hK => ?_) ?_
                      · obtain ⟨v2, E2, -, r2⟩ := hk.dep hr 2 84 (by kernel_rfl) (by kernel_rfl)
                        have r2 : v2 = .tuple #[.int .i64 q, .bool true] := r2 wq (Grows.refl wq)
                        obtain ⟨rfl⟩ := r2
                        exact wp_of_value (by go_simp) (hK.out _ _ (Grows.refl _) (fun w2 h2 => rfl) (fun h => absurd h (by decide)))
                      refine AllOps.cons (Does.plain rfl fun lq aq wq hk hr K hK => ?_) ?_
                      · obtain ⟨v2, E2, -, r2⟩ := hk.dep hr 2 84 (by kernel_rfl) (by kernel_rfl)
                        have r2 : v2 = .tuple #[.int .i64 q, .bool true] := r2 wq (Grows.refl wq)
                        obtain ⟨rfl⟩ := r2
                        exact wp_of_value (by go_simp) (hK.out _ _ (Grows.refl _) (fun w2 h2 => rfl) (fun h => absurd h (by decide)))
                      exact AllOps.nil
                    case fin =>
                      intro V x6 hG hV hap
                      have r3 : (V 3) = .int .i64 q := hV 3 (by decide)
                      have r4 : (V 4) = .bool true := hV 4 (by decide)
                      clear hV hap
                      simp only [List.take_succ_cons, List.take_zero, List.drop_succ_cons, List.drop_zero, putAll, Act.put, List.setIfInBounds_toArray, List.set_cons_zero, List.set_cons_succ]
                      have hb := (show Below _ _ _ from hG)
                      replace Dp := Lib.hid (Box2.below Dp.out hb)
                      replace Sp := Lib.hid (Sp.out.below hb)
                      replace Dq := Lib.hid (Box2.below Dq.out hb)
                      replace Sq := Lib.hid (Sq.out.below hb)
                      replace w0 := Lib.hid (w0.out.below hb)
                      replace w1 := Lib.hid (w1.out.below hb)
                      replace w2 := Lib.hid (w2.out.below hb)
                      replace w3 := Lib.hid (w3.out.below hb)
                      replace w4 := Lib.hid (w4.out.below hb)
                      replace w5 := Lib.hid (w5.out.below hb)
                      replace w6 := Lib.hid (w6.out.below hb)
                      replace w7 := Lib.hid (w7.out.below hb)
                      replace Nq := Lib.hid (Nq.out.below hb)
                      replace HB := Lib.hid (HB.out.trans (Below.mono hb HB.out.size))
                      clear hb hG
                      rw [r3, r4]
                      clear r3 r4
                      go_upto_region 10 with fail
                      refine wp_region_going 41 [] ([fun vq _ => vq = .int .i64 q,
                          fun vq _ => vq = .int .i64 q,
                          fun vq _ => vq = .bool false,
                          fun vq _ => vq = .bool false,
                          fun vq _ => vq = .bool true,
                          fun vq _ => vq = .bool true,
                          fun vq _ => vq = .bool false,
                          fun vq _ => vq = .bool false,
                          fun vq _ => vq = .bool false,
                          fun vq _ => vq = .agg #[.bool nq, .slice Aq iq cq],
                          fun vq _ => vq = .bool t,
                          fun vq _ => vq = .agg #[.bool nq, .slice Aq iq cq],
                          fun vq _ => vq = .bool t,
                          fun vq _ => vq = .bool false,
                          fun vq _ => vq = .bool false,
                          fun vq _ => vq = .bool false,
                          fun vq wq => WV wq vq q,
                          fun vq _ => vq = .int .i64 i2,
                          fun vq wq => WV wq vq q,
                          fun vq _ => vq = .int .i64 i2,
                          fun vq _ => vq = .bool false,
                          fun vq _ => vq = .bool false,
                          fun vq _ => vq = .bool false,
                          fun vq wq => WV wq vq q,
                          fun vq wq => ZV wq vq ((-q)),
                          fun vq wq => WV wq vq q,
                          fun vq wq => ZV wq vq ((-q)),
                          fun vq _ => vq = .bool true,
                          fun vq _ => vq = .bool false,
                          fun vq _ => vq = .bool false,
                          fun vq _ => vq = .bool false,
                          fun vq _ => vq = .pointer (some ⟨bs + 1, 0, none⟩),
                          fun vq _ => vq = .bool nq,
                          fun vq _ => vq = .pointer (some ⟨bs + 1, 1, none⟩),
                          fun vq _ => vq = .slice Aq iq cq,
                          fun vq wq => ZV wq vq q,
                          fun vq wq => WV wq vq q,
                          fun vq wq => ZV wq vq q,
                          fun vq _ => vq = .bool true,
                          fun vq _ => vq = .bool false,
                          fun vq _ => vq = .bool false]) (by kernel_rfl) (by kernel_rfl) (by decide) (by kernel_rfl) (by kernel_rfl) ?hF ?steps ?fin
                      case hF =>
                        intro j hj; cases hj
                      case steps =>
                        refine AllOps.cons (Does.plain rfl fun lq aq wq hk hr K hK => ?_) ?_
                        · have B11 : ev aq (.tmp 11) = .int .i64 q := hk.base 11 (by kernel_rfl) rfl
                          exact wp_of_value (by go_simp) (hK.out _ _ (Grows.refl _) (fun w2 h2 => rfl) (fun h => absurd h (by decide)))
                        refine AllOps.cons (Does.plain rfl fun lq aq wq hk hr K hK => ?_) ?_
                        · have B13 : ev aq (.tmp 13) = .int .i64 q := hk.base 13 (by kernel_rfl) rfl
                          exact wp_of_value (by go_simp) (hK.out _ _ (Grows.refl _) (fun w2 h2 => rfl) (fun h => absurd h (by decide)))
                        refine AllOps.cons (Does.plain rfl fun lq aq wq hk hr K hK => ?_) ?_
                        · obtain ⟨v0, E0, -, r0⟩ := hk.dep hr 0 89 (by kernel_rfl) (by kernel_rfl)
                          replace E0 : ev aq (.tmp 89) = .int .i64 q := E0.trans (r0 wq (Grows.refl wq))
                          obtain ⟨v1, E1, -, r1⟩ := hk.dep hr 1 90 (by kernel_rfl) (by kernel_rfl)
                          replace E1 : ev aq (.tmp 90) = .int .i64 q := E1.trans (r1 wq (Grows.refl wq))
                          exact wp_of_value (by go_simp) (hK.out _ _ (Grows.refl _) (fun w2 h2 => rfl) (fun h => absurd h (by decide)))
                        refine AllOps.cons (Does.plain rfl fun lq aq wq hk hr K hK => ?_) ?_
                        · obtain ⟨v2, E2, -, r2⟩ := hk.dep hr 2 91 (by kernel_rfl) (by kernel_rfl)
                          replace E2 : ev aq (.tmp 91) = .bool false := E2.trans (r2 wq (Grows.refl wq))
                          exact wp_of_value (by go_simp) (hK.out _ _ (Grows.refl _) (fun w2 h2 => rfl) (fun h => absurd h (by decide)))
                        refine AllOps.cons (Does.lets (g := 3) (d := 92) (t := false) rfl (by kernel_rfl) (by kernel_rfl) (fun vq wq h => h wq (Grows.refl wq)) fun lq aq wq hk hr K hK => ?_) ?_
                        · have B12 : ev aq (.tmp 12) = .bool true := hk.base 12 (by kernel_rfl) rfl
                          exact wp_of_value (by go_simp) (hK.out _ _ (Grows.refl _) (fun w2 h2 => rfl) (fun h => absurd h (by decide)))
                        refine AllOps.cons (Does.lets (g := 3) (d := 92) (t := false) rfl (by kernel_rfl) (by kernel_rfl) (fun vq wq h => h wq (Grows.refl wq)) fun lq aq wq hk hr K hK => ?_) ?_
                        · have B14 : ev aq (.tmp 14) = .bool true := hk.base 14 (by kernel_rfl) rfl
                          exact wp_of_value (by go_simp) (hK.out _ _ (Grows.refl _) (fun w2 h2 => rfl) (fun h => absurd h (by decide)))
                        refine AllOps.cons (Does.lets (g := 3) (d := 92) (t := false) rfl (by kernel_rfl) (by kernel_rfl) (fun vq wq h => h wq (Grows.refl wq)) fun lq aq wq hk hr K hK => ?_) ?_
                        · obtain ⟨v4, E4, -, r4⟩ := hk.dep hr 4 93 (by kernel_rfl) (by kernel_rfl)
                          replace E4 : ev aq (.tmp 93) = .bool true := E4.trans (r4 wq (Grows.refl wq))
                          obtain ⟨v5, E5, -, r5⟩ := hk.dep hr 5 94 (by kernel_rfl) (by kernel_rfl)
                          replace E5 : ev aq (.tmp 94) = .bool true := E5.trans (r5 wq (Grows.refl wq))
                          exact wp_of_value (by go_simp) (hK.out _ _ (Grows.refl _) (fun w2 h2 => rfl) (fun h => absurd h (by decide)))
                        refine AllOps.cons (Does.plain rfl fun lq aq wq hk hr K hK => ?_) ?_
                        · obtain ⟨v3, E3, -, r3⟩ := hk.dep hr 3 92 (by kernel_rfl) (by kernel_rfl)
                          replace E3 : ev aq (.tmp 92) = .bool false := E3.trans (r3 wq (Grows.refl wq))
                          obtain ⟨v6, E6, -, r6⟩ := hk.dep hr 6 95 (by kernel_rfl) (by kernel_rfl)
                          replace E6 : ev aq (.tmp 95) = .bool false := E6.trans (r6 wq (Grows.refl wq))
                          exact wp_of_value (by go_simp) (hK.out _ _ (Grows.refl _) (fun w2 h2 => rfl) (fun h => absurd h (by decide)))
                        refine AllOps.cons (Does.plain rfl fun lq aq wq hk hr K hK => ?_) ?_
                        · obtain ⟨v7, E7, -, r7⟩ := hk.dep hr 7 96 (by kernel_rfl) (by kernel_rfl)
                          replace E7 : ev aq (.tmp 96) = .bool false := E7.trans (r7 wq (Grows.refl wq))
                          exact wp_of_value (by go_simp) (hK.out _ _ (Grows.refl _) (fun w2 h2 => rfl) (fun h => absurd h (by decide)))
                        refine AllOps.cons (Does.lets (g := 8) (d := 97) (t := false) rfl (by kernel_rfl) (by kernel_rfl) (fun vq wq h => h wq (Grows.refl wq)) fun lq aq wq hk hr K hK => ?_) ?_
                        · have B10 : ev aq (.tmp 10) = .pointer (some ⟨bs + 1, 0, none⟩) := hk.base 10 (by kernel_rfl) rfl
                          have hb := grows_of hk.ext
                          exact wp_of_value (op_load 10 _ B10 (Box2.below Dq.out hb)) (hK.out _ _ (Grows.refl _) (fun w2 h2 => rfl) (fun h => absurd h (by decide)))
                        refine AllOps.cons (Does.lets (g := 8) (d := 97) (t := false) rfl (by kernel_rfl) (by kernel_rfl) (fun vq wq h => h wq (Grows.refl wq)) fun lq aq wq hk hr K hK => ?_) ?_
                        · obtain ⟨v9, E9, -, r9⟩ := hk.dep hr 9 98 (by kernel_rfl) (by kernel_rfl)
                          replace E9 : ev aq (.tmp 98) = .agg #[.bool nq, .slice Aq iq cq] := E9.trans (r9 wq (Grows.refl wq))
                          refine wp_of_call (f := 33) (vs := #[.agg #[.bool nq, .slice Aq iq cq]]) (by go_simp) (brightR_v wq ⟨nq, Aq, iq, cq, lz, az, rfl, Nq.out.below (grows_of hk.ext), hlq, hzq.out, htq.out⟩) ?_
                          rintro e w1 ⟨u, rfl, hu, hb⟩
                          exact ⟨u, rfl, hK.out _ _ hb (fun w2 h2 => hu) (fun h => absurd h (by decide))⟩
                        refine AllOps.cons (Does.lets (g := 8) (d := 97) (t := false) rfl (by kernel_rfl) (by kernel_rfl) (fun vq wq h => h wq (Grows.refl wq)) fun lq aq wq hk hr K hK => ?_) ?_
                        · have B10 : ev aq (.tmp 10) = .pointer (some ⟨bs + 1, 0, none⟩) := hk.base 10 (by kernel_rfl) rfl
                          have hb := grows_of hk.ext
                          exact wp_of_value (op_load 10 _ B10 (Box2.below Dq.out hb)) (hK.out _ _ (Grows.refl _) (fun w2 h2 => rfl) (fun h => absurd h (by decide)))
                        refine AllOps.cons (Does.lets (g := 8) (d := 97) (t := false) rfl (by kernel_rfl) (by kernel_rfl) (fun vq wq h => h wq (Grows.refl wq)) fun lq aq wq hk hr K hK => ?_) ?_
                        · obtain ⟨v11, E11, -, r11⟩ := hk.dep hr 11 100 (by kernel_rfl) (by kernel_rfl)
                          replace E11 : ev aq (.tmp 100) = .agg #[.bool nq, .slice Aq iq cq] := E11.trans (r11 wq (Grows.refl wq))
                          refine wp_of_call (f := 43) (vs := #[.agg #[.bool nq, .slice Aq iq cq]]) (by go_simp) (rright_v wq ⟨nq, Aq, iq, cq, lz, az, rfl, Nq.out.below (grows_of hk.ext), hlq, hzq.out, htq.out⟩) ?_
                          rintro e w1 ⟨u, rfl, hu, hb⟩
                          exact ⟨u, rfl, hK.out _ _ hb (fun w2 h2 => hu) (fun h => absurd h (by decide))⟩
                        refine AllOps.cons (Does.lets (g := 8) (d := 97) (t := false) rfl (by kernel_rfl) (by kernel_rfl) (fun vq wq h => h wq (Grows.refl wq)) fun lq aq wq hk hr K hK => ?_) ?_
                        · obtain ⟨v10, E10, -, r10⟩ := hk.dep hr 10 99 (by kernel_rfl) (by kernel_rfl)
                          replace E10 : ev aq (.tmp 99) = .bool t := E10.trans (r10 wq (Grows.refl wq))
                          obtain ⟨v12, E12, -, r12⟩ := hk.dep hr 12 101 (by kernel_rfl) (by kernel_rfl)
                          replace E12 : ev aq (.tmp 101) = .bool t := E12.trans (r12 wq (Grows.refl wq))
                          exact wp_of_value (by go_simp) (hK.out _ _ (Grows.refl _) (fun w2 h2 => rfl) (fun h => absurd h (by decide)))
                        refine AllOps.cons (Does.plain rfl fun lq aq wq hk hr K hK => ?_) ?_
                        · obtain ⟨v8, E8, -, r8⟩ := hk.dep hr 8 97 (by kernel_rfl) (by kernel_rfl)
                          replace E8 : ev aq (.tmp 97) = .bool false := E8.trans (r8 wq (Grows.refl wq))
                          obtain ⟨v13, E13, -, r13⟩ := hk.dep hr 13 102 (by kernel_rfl) (by kernel_rfl)
                          replace E13 : ev aq (.tmp 102) = .bool false := E13.trans (r13 wq (Grows.refl wq))
                          exact wp_of_value (by go_simp) (hK.out _ _ (Grows.refl _) (fun w2 h2 => rfl) (fun h => absurd h (by decide)))
                        refine AllOps.cons (Does.plain rfl fun lq aq wq hk hr K hK => ?_) ?_
                        · obtain ⟨v14, E14, -, r14⟩ := hk.dep hr 14 103 (by kernel_rfl) (by kernel_rfl)
                          replace E14 : ev aq (.tmp 103) = .bool false := E14.trans (r14 wq (Grows.refl wq))
                          exact wp_of_value (by go_simp) (hK.out _ _ (Grows.refl _) (fun w2 h2 => rfl) (fun h => absurd h (by decide)))
                        refine AllOps.cons (Does.lets (g := 15) (d := 104) (t := false) rfl (by kernel_rfl) (by kernel_rfl) (fun vq wq h => h wq (Grows.refl wq)) fun lq aq wq hk hr K hK => ?_) ?_
                        · have B10 : ev aq (.tmp 10) = .pointer (some ⟨bs + 1, 0, none⟩) := hk.base 10 (by kernel_rfl) rfl
                          have hb := grows_of hk.ext
                          exact wp_of_value (op_load 10 _ B10 (Box2.below Dq.out hb)) (hK.out _ _ (Grows.refl _) (fun w2 h2 => ⟨_, _, _, _, rfl, (Sq.out.below hb).below h2⟩) (fun h => absurd h (by decide)))
                        refine AllOps.cons (Does.lets (g := 15) (d := 104) (t := false) rfl (by kernel_rfl) (by kernel_rfl) (fun vq wq h => h wq (Grows.refl wq)) fun lq aq wq hk hr K hK => ?_) ?_
                        · obtain ⟨v16, E16, -, r16⟩ := hk.dep hr 16 105 (by kernel_rfl) (by kernel_rfl)
                          have r16 : WV wq v16 q := r16 wq (Grows.refl wq)
                          refine wp_of_call (f := 36) (vs := #[v16]) (by go_simp) (sign_v wq r16 (k := i2) hi2.out) ?_
                          rintro e w1 ⟨u, rfl, hu, hb⟩
                          exact ⟨u, rfl, hK.out _ _ hb (fun w2 h2 => hu) (fun h => absurd h (by decide))⟩
                        refine AllOps.cons (Does.lets (g := 15) (d := 104) (t := false) rfl (by kernel_rfl) (by kernel_rfl) (fun vq wq h => h wq (Grows.refl wq)) fun lq aq wq hk hr K hK => ?_) ?_
                        · have B10 : ev aq (.tmp 10) = .pointer (some ⟨bs + 1, 0, none⟩) := hk.base 10 (by kernel_rfl) rfl
                          have hb := grows_of hk.ext
                          exact wp_of_value (op_load 10 _ B10 (Box2.below Dq.out hb)) (hK.out _ _ (Grows.refl _) (fun w2 h2 => ⟨_, _, _, _, rfl, (Sq.out.below hb).below h2⟩) (fun h => absurd h (by decide)))
                        refine AllOps.cons (Does.lets (g := 15) (d := 104) (t := false) rfl (by kernel_rfl) (by kernel_rfl) (fun vq wq h => h wq (Grows.refl wq)) fun lq aq wq hk hr K hK => ?_) ?_
                        · obtain ⟨v18, E18, -, r18⟩ := hk.dep hr 18 107 (by kernel_rfl) (by kernel_rfl)
                          have r18 : WV wq v18 q := r18 wq (Grows.refl wq)
                          refine wp_of_call (f := 44) (vs := #[v18]) (by go_simp) (rsign_v wq r18 (k := i2) hi2.out) ?_
                          rintro e w1 ⟨u, rfl, hu, hb⟩
                          exact ⟨u, rfl, hK.out _ _ hb (fun w2 h2 => hu) (fun h => absurd h (by decide))⟩
                        refine AllOps.cons (Does.lets (g := 15) (d := 104) (t := false) rfl (by kernel_rfl) (by kernel_rfl) (fun vq wq h => h wq (Grows.refl wq)) fun lq aq wq hk hr K hK => ?_) ?_
                        · obtain ⟨v17, E17, -, r17⟩ := hk.dep hr 17 106 (by kernel_rfl) (by kernel_rfl)
                          replace E17 : ev aq (.tmp 106) = .int .i64 i2 := E17.trans (r17 wq (Grows.refl wq))
                          obtain ⟨v19, E19, -, r19⟩ := hk.dep hr 19 108 (by kernel_rfl) (by kernel_rfl)
                          replace E19 : ev aq (.tmp 108) = .int .i64 i2 := E19.trans (r19 wq (Grows.refl wq))
                          exact wp_of_value (by go_simp) (hK.out _ _ (Grows.refl _) (fun w2 h2 => rfl) (fun h => absurd h (by decide)))
                        refine AllOps.cons (Does.plain rfl fun lq aq wq hk hr K hK => ?_) ?_
                        · obtain ⟨v15, E15, -, r15⟩ := hk.dep hr 15 104 (by kernel_rfl) (by kernel_rfl)
                          replace E15 : ev aq (.tmp 104) = .bool false := E15.trans (r15 wq (Grows.refl wq))
                          obtain ⟨v20, E20, -, r20⟩ := hk.dep hr 20 109 (by kernel_rfl) (by kernel_rfl)
                          replace E20 : ev aq (.tmp 109) = .bool false := E20.trans (r20 wq (Grows.refl wq))
                          exact wp_of_value (by go_simp) (hK.out _ _ (Grows.refl _) (fun w2 h2 => rfl) (fun h => absurd h (by decide)))
                        refine AllOps.cons (Does.plain rfl fun lq aq wq hk hr K hK => ?_) ?_
                        · obtain ⟨v21, E21, -, r21⟩ := hk.dep hr 21 110 (by kernel_rfl) (by kernel_rfl)
                          replace E21 : ev aq (.tmp 110) = .bool false := E21.trans (r21 wq (Grows.refl wq))
                          exact wp_of_value (by go_simp) (hK.out _ _ (Grows.refl _) (fun w2 h2 => rfl) (fun h => absurd h (by decide)))
                        refine AllOps.cons (Does.lets (g := 22) (d := 111) (t := false) rfl (by kernel_rfl) (by kernel_rfl) (fun vq wq h => h wq (Grows.refl wq)) fun lq aq wq hk hr K hK => ?_) ?_
                        · have B10 : ev aq (.tmp 10) = .pointer (some ⟨bs + 1, 0, none⟩) := hk.base 10 (by kernel_rfl) rfl
                          have hb := grows_of hk.ext
                          exact wp_of_value (op_load 10 _ B10 (Box2.below Dq.out hb)) (hK.out _ _ (Grows.refl _) (fun w2 h2 => ⟨_, _, _, _, rfl, (Sq.out.below hb).below h2⟩) (fun h => absurd h (by decide)))
                        refine AllOps.cons (Does.lets (g := 22) (d := 111) (t := false) rfl (by kernel_rfl) (by kernel_rfl) (fun vq wq h => h wq (Grows.refl wq)) fun lq aq wq hk hr K hK => ?_) ?_
                        · obtain ⟨v23, E23, -, r23⟩ := hk.dep hr 23 112 (by kernel_rfl) (by kernel_rfl)
                          have r23 : WV wq v23 q := r23 wq (Grows.refl wq)
                          refine wp_of_call (f := 30) (vs := #[v23]) (by go_simp) (neg_v wq r23 (Nat.le_trans (szz_neg hkq) (by decide))) ?_
                          rintro e w1 ⟨u, rfl, hu, hb⟩
                          exact ⟨u, rfl, hK.out _ _ hb (fun w2 h2 => (hu).grow h2) (fun h => absurd h (by decide))⟩
                        refine AllOps.cons (Does.lets (g := 22) (d := 111) (t := false) rfl (by kernel_rfl) (by kernel_rfl) (fun vq wq h => h wq (Grows.refl wq)) fun lq aq wq hk hr K hK => ?_) ?_
                        · have B10 : ev aq (.tmp 10) = .pointer (some ⟨bs + 1, 0, none⟩) := hk.base 10 (by kernel_rfl) rfl
                          have hb := grows_of hk.ext
                          exact wp_of_value (op_load 10 _ B10 (Box2.below Dq.out hb)) (hK.out _ _ (Grows.refl _) (fun w2 h2 => ⟨_, _, _, _, rfl, (Sq.out.below hb).below h2⟩) (fun h => absurd h (by decide)))
                        refine AllOps.cons (Does.lets (g := 22) (d := 111) (t := false) rfl (by kernel_rfl) (by kernel_rfl) (fun vq wq h => h wq (Grows.refl wq)) fun lq aq wq hk hr K hK => ?_) ?_
                        · obtain ⟨v25, E25, -, r25⟩ := hk.dep hr 25 114 (by kernel_rfl) (by kernel_rfl)
                          have r25 : WV wq v25 q := r25 wq (Grows.refl wq)
                          refine wp_of_call (f := 45) (vs := #[v25]) (by go_simp) (rneg_v wq r25) ?_
                          rintro e w1 ⟨u, rfl, hu, hb⟩
                          exact ⟨u, rfl, hK.out _ _ hb (fun w2 h2 => (hu).grow h2) (fun h => absurd h (by decide))⟩
                        refine AllOps.cons (Does.lets (g := 22) (d := 111) (t := false) rfl (by kernel_rfl) (by kernel_rfl) (fun vq wq h => h wq (Grows.refl wq)) fun lq aq wq hk hr K hK => ?_) ?_
                        · obtain ⟨v24, E24, -, r24⟩ := hk.dep hr 24 113 (by kernel_rfl) (by kernel_rfl)
                          have r24 : ZV wq v24 ((-q)) := r24 wq (Grows.refl wq)
                          obtain ⟨v26, E26, -, r26⟩ := hk.dep hr 26 115 (by kernel_rfl) (by kernel_rfl)
                          have r26 : ZV wq v26 ((-q)) := r26 wq (Grows.refl wq)
                          refine wp_of_call (f := 20) (vs := #[v24, v26]) (by go_simp) (rsame_v wq r24 r26 (t := true) (decide_eq_true rfl)) ?_
                          rintro e w1 ⟨u, rfl, hu, hb⟩
                          exact ⟨u, rfl, hK.out _ _ hb (fun w2 h2 => hu) (fun h => absurd h (by decide))⟩
                        refine AllOps.cons (Does.lets (g := 22) (d := 111) (t := false) rfl (by kernel_rfl) (by kernel_rfl) (fun vq wq h => h wq (Grows.refl wq)) fun lq aq wq hk hr K hK => ?_) ?_
                        · obtain ⟨v27, E27, -, r27⟩ := hk.dep hr 27 116 (by kernel_rfl) (by kernel_rfl)
                          replace E27 : ev aq (.tmp 116) = .bool true := E27.trans (r27 wq (Grows.refl wq))
                          exact wp_of_value (by go_simp) (hK.out _ _ (Grows.refl _) (fun w2 h2 => rfl) (fun h => absurd h (by decide)))
                        refine AllOps.cons (Does.plain rfl fun lq aq wq hk hr K hK => ?_) ?_
                        · obtain ⟨v22, E22, -, r22⟩ := hk.dep hr 22 111 (by kernel_rfl) (by kernel_rfl)
                          replace E22 : ev aq (.tmp 111) = .bool false := E22.trans (r22 wq (Grows.refl wq))
                          obtain ⟨v28, E28, -, r28⟩ := hk.dep hr 28 117 (by kernel_rfl) (by kernel_rfl)
                          replace E28 : ev aq (.tmp 117) = .bool false := E28.trans (r28 wq (Grows.refl wq))
                          exact wp_of_value (by go_simp) (hK.out _ _ (Grows.refl _) (fun w2 h2 => rfl) (fun h => absurd h (by decide)))
                        refine AllOps.cons (Does.plain rfl fun lq aq wq hk hr K hK => ?_) ?_
                        · obtain ⟨v29, E29, -, r29⟩ := hk.dep hr 29 118 (by kernel_rfl) (by kernel_rfl)
                          replace E29 : ev aq (.tmp 118) = .bool false := E29.trans (r29 wq (Grows.refl wq))
                          exact wp_of_value (by go_simp) (hK.out _ _ (Grows.refl _) (fun w2 h2 => rfl) (fun h => absurd h (by decide)))
                        refine AllOps.cons (Does.lets (g := 30) (d := 119) (t := false) rfl (by kernel_rfl) (by kernel_rfl) (fun vq wq h => h wq (Grows.refl wq)) fun lq aq wq hk hr K hK => ?_) ?_
                        · have B10 : ev aq (.tmp 10) = .pointer (some ⟨bs + 1, 0, none⟩) := hk.base 10 (by kernel_rfl) rfl
                          exact wp_of_value (by go_simp) (hK.out _ _ (Grows.refl _) (fun w2 h2 => rfl) (fun h => absurd h (by decide)))
                        refine AllOps.cons (Does.lets (g := 30) (d := 119) (t := false) rfl (by kernel_rfl) (by kernel_rfl) (fun vq wq h => h wq (Grows.refl wq)) fun lq aq wq hk hr K hK => ?_) ?_
                        · obtain ⟨v31, E31, -, r31⟩ := hk.dep hr 31 120 (by kernel_rfl) (by kernel_rfl)
                          replace E31 : ev aq (.tmp 120) = .pointer (some ⟨bs + 1, 0, none⟩) := E31.trans (r31 wq (Grows.refl wq))
                          have hb := grows_of hk.ext
                          have c0 := (Box2.below Dq.out hb).c0
                          exact wp_of_value (by go_simp) (hK.out _ _ (Grows.refl _) (fun w2 h2 => rfl) (fun h => absurd h (by decide)))
                        refine AllOps.cons (Does.lets (g := 30) (d := 119) (t := false) rfl (by kernel_rfl) (by kernel_rfl) (fun vq wq h => h wq (Grows.refl wq)) fun lq aq wq hk hr K hK => ?_) ?_
                        · have B10 : ev aq (.tmp 10) = .pointer (some ⟨bs + 1, 0, none⟩) := hk.base 10 (by kernel_rfl) rfl
                          exact wp_of_value (by go_simp) (hK.out _ _ (Grows.refl _) (fun w2 h2 => rfl) (fun h => absurd h (by decide)))
                        refine AllOps.cons (Does.lets (g := 30) (d := 119) (t := false) rfl (by kernel_rfl) (by kernel_rfl) (fun vq wq h => h wq (Grows.refl wq)) fun lq aq wq hk hr K hK => ?_) ?_
                        · obtain ⟨v33, E33, -, r33⟩ := hk.dep hr 33 122 (by kernel_rfl) (by kernel_rfl)
                          replace E33 : ev aq (.tmp 122) = .pointer (some ⟨bs + 1, 1, none⟩) := E33.trans (r33 wq (Grows.refl wq))
                          have hb := grows_of hk.ext
                          have c1 := (Box2.below Dq.out hb).c1
                          exact wp_of_value (by go_simp) (hK.out _ _ (Grows.refl _) (fun w2 h2 => rfl) (fun h => absurd h (by decide)))
                        refine AllOps.cons (Does.lets (g := 30) (d := 119) (t := false) rfl (by kernel_rfl) (by kernel_rfl) (fun vq wq h => h wq (Grows.refl wq)) fun lq aq wq hk hr K hK => ?_) ?_
                        · obtain ⟨v32, E32, -, r32⟩ := hk.dep hr 32 121 (by kernel_rfl) (by kernel_rfl)
                          replace E32 : ev aq (.tmp 121) = .bool nq := E32.trans (r32 wq (Grows.refl wq))
                          obtain ⟨v34, E34, -, r34⟩ := hk.dep hr 34 123 (by kernel_rfl) (by kernel_rfl)
                          replace E34 : ev aq (.tmp 123) = .slice Aq iq cq := E34.trans (r34 wq (Grows.refl wq))
                          refine wp_of_call (f := 34) (vs := #[.bool nq, .slice Aq iq cq]) (by go_simp) (of_v wq nq (Nq.out.below (grows_of hk.ext)).lv hzq.out.symm (Nat.le_trans hkq (by decide))) ?_
                          rintro e w1 ⟨u, rfl, hu, hb⟩
                          exact ⟨u, rfl, hK.out _ _ hb (fun w2 h2 => (hu).grow h2) (fun h => absurd h (by decide))⟩
                        refine AllOps.cons (Does.lets (g := 30) (d := 119) (t := false) rfl (by kernel_rfl) (by kernel_rfl) (fun vq wq h => h wq (Grows.refl wq)) fun lq aq wq hk hr K hK => ?_) ?_
                        · have B10 : ev aq (.tmp 10) = .pointer (some ⟨bs + 1, 0, none⟩) := hk.base 10 (by kernel_rfl) rfl
                          have hb := grows_of hk.ext
                          exact wp_of_value (op_load 10 _ B10 (Box2.below Dq.out hb)) (hK.out _ _ (Grows.refl _) (fun w2 h2 => ⟨_, _, _, _, rfl, (Sq.out.below hb).below h2⟩) (fun h => absurd h (by decide)))
                        refine AllOps.cons (Does.lets (g := 30) (d := 119) (t := false) rfl (by kernel_rfl) (by kernel_rfl) (fun vq wq h => h wq (Grows.refl wq)) fun lq aq wq hk hr K hK => ?_) ?_
                        · obtain ⟨v36, E36, -, r36⟩ := hk.dep hr 36 125 (by kernel_rfl) (by kernel_rfl)
                          have r36 : WV wq v36 q := r36 wq (Grows.refl wq)
                          refine wp_of_call (f := 46) (vs := #[v36]) (by go_simp) (rmade_v wq r36) ?_
                          rintro e w1 ⟨u, rfl, hu, hb⟩
                          exact ⟨u, rfl, hK.out _ _ hb (fun w2 h2 => (hu).grow h2) (fun h => absurd h (by decide))⟩
                        refine AllOps.cons (Does.lets (g := 30) (d := 119) (t := false) rfl (by kernel_rfl) (by kernel_rfl) (fun vq wq h => h wq (Grows.refl wq)) fun lq aq wq hk hr K hK => ?_) ?_
                        · obtain ⟨v35, E35, -, r35⟩ := hk.dep hr 35 124 (by kernel_rfl) (by kernel_rfl)
                          have r35 : ZV wq v35 q := r35 wq (Grows.refl wq)
                          obtain ⟨v37, E37, -, r37⟩ := hk.dep hr 37 126 (by kernel_rfl) (by kernel_rfl)
                          have r37 : ZV wq v37 q := r37 wq (Grows.refl wq)
                          refine wp_of_call (f := 20) (vs := #[v35, v37]) (by go_simp) (rsame_v wq r35 r37 (t := true) (decide_eq_true rfl)) ?_
                          rintro e w1 ⟨u, rfl, hu, hb⟩
                          exact ⟨u, rfl, hK.out _ _ hb (fun w2 h2 => hu) (fun h => absurd h (by decide))⟩
                        refine AllOps.cons (Does.lets (g := 30) (d := 119) (t := false) rfl (by kernel_rfl) (by kernel_rfl) (fun vq wq h => h wq (Grows.refl wq)) fun lq aq wq hk hr K hK => ?_) ?_
                        · obtain ⟨v38, E38, -, r38⟩ := hk.dep hr 38 127 (by kernel_rfl) (by kernel_rfl)
                          replace E38 : ev aq (.tmp 127) = .bool true := E38.trans (r38 wq (Grows.refl wq))
                          exact wp_of_value (by go_simp) (hK.out _ _ (Grows.refl _) (fun w2 h2 => rfl) (fun h => absurd h (by decide)))
                        refine AllOps.cons (Does.plain rfl fun lq aq wq hk hr K hK => ?_) ?_
                        · obtain ⟨v30, E30, -, r30⟩ := hk.dep hr 30 119 (by kernel_rfl) (by kernel_rfl)
                          replace E30 : ev aq (.tmp 119) = .bool false := E30.trans (r30 wq (Grows.refl wq))
                          obtain ⟨v39, E39, -, r39⟩ := hk.dep hr 39 128 (by kernel_rfl) (by kernel_rfl)
                          replace E39 : ev aq (.tmp 128) = .bool false := E39.trans (r39 wq (Grows.refl wq))
                          exact wp_of_value (by go_simp) (hK.out _ _ (Grows.refl _) (fun w2 h2 => rfl) (fun h => absurd h (by decide)))
                        exact AllOps.nil
                      case fin =>
                        intro V x7 hG hV hap
                        have r40 : (V 40) = .bool false := hV 40 (by decide)
                        clear hV hap
                        simp only [List.take_succ_cons, List.take_nil, List.drop_succ_cons, List.drop_nil, putAll, Act.put, List.setIfInBounds_toArray, List.set_cons_zero, List.set_cons_succ]
                        have hb := grows_of hG
                        replace Dp := Lib.hid (Box2.below Dp.out hb)
                        replace Sp := Lib.hid (Sp.out.below hb)
                        replace Dq := Lib.hid (Box2.below Dq.out hb)
                        replace Sq := Lib.hid (Sq.out.below hb)
                        replace w0 := Lib.hid (w0.out.below hb)
                        replace w1 := Lib.hid (w1.out.below hb)
                        replace w2 := Lib.hid (w2.out.below hb)
                        replace w3 := Lib.hid (w3.out.below hb)
                        replace w4 := Lib.hid (w4.out.below hb)
                        replace w5 := Lib.hid (w5.out.below hb)
                        replace w6 := Lib.hid (w6.out.below hb)
                        replace w7 := Lib.hid (w7.out.below hb)
                        replace Nq := Lib.hid (Nq.out.below hb)
                        replace HB := Lib.hid (HB.out.trans (Below.mono hb HB.out.size))
                        clear hb hG
                        rw [r40]
                        clear r40
                        go_wp2_with fail
                        go_roundw
                        case rel =>
                          first
                            | exact ⟨k + 1, by omega, (by first | rfl | simp), HB.out, w0.out, w1.out, w2.out, w3.out, w4.out, w5.out, w6.out, w7.out⟩
                            | ((repeat apply Exists.intro); refine ⟨?_, rfl⟩; exact ⟨k + 1, by omega, (by first | rfl | simp), HB.out, w0.out, w1.out, w2.out, w3.out, w4.out, w5.out, w6.out, w7.out⟩)
                        case measure => simp [intOf]; omega
                · skip
                  replace hin := Lib.hid (show q < -9223372036854775808 ∨ 9223372036854775807 < q by omega)
                  go_upto_region 8 with fail
                  refine wp_region_calm 5 [] ([fun vq wq => WV wq vq q,
                      fun vq wq => vq = .tuple #[.int .i64 0, .bool false],
                      fun vq wq => vq = .tuple #[.int .i64 0, .bool false],
                      fun vq _ => vq = .int .i64 0,
                      fun vq _ => vq = .bool false]) (by kernel_rfl) (by decide) ?hF ?steps ?fin
                  case hF =>
                    intro j hj; cases hj
                  case steps =>
                    refine AllOps.cons (Does.plain rfl fun lq aq wq hk hr K hK => ?_) ?_
                    · have B10 : ev aq (.tmp 10) = .pointer (some ⟨bs + 1, 0, none⟩) := hk.base 10 (by kernel_rfl) rfl
                      have hb : Below _ _ _ := hk.ext
                      exact wp_of_value (op_load 10 _ B10 (Box2.below Dq.out hb)) (hK.out _ _ (Grows.refl _) (fun w2 h2 => ⟨_, _, _, _, rfl, (Sq.out.below hb).below h2⟩) (fun h => absurd h (by decide)))
                    refine AllOps.cons (Does.plain rfl fun lq aq wq hk hr K hK => ?_) ?_
                    · obtain ⟨v0, E0, -, r0⟩ := hk.dep hr 0 80 (by kernel_rfl) (by kernel_rfl)
                      have r0 : WV wq v0 q := r0 wq (Grows.refl wq)
                      refine wp_of_call (f := 38) (vs := #[v0]) (by go_simp) (small0_v wq r0 hin.out) ?_
                      rintro e w1 ⟨u, rfl, hu, hb⟩
                      exact ⟨u, rfl, hK.out _ _ hb (fun w2 h2 => hu) (fun h => absurd h (by decide))⟩
                    refine AllOps.cons (Does.plain rfl fun lq aq wq hk hr K hK => ?_) ?_
                    · obtain ⟨v1, E1, -, r1⟩ := hk.dep hr 1 81 (by kernel_rfl) (by kernel_rfl)
                      have r1 : v1 = .tuple #[.int .i64 0, .bool false] := r1 wq (Grows.refl wq)
                      exact wp_of_value (by go_simp) (hK.out _ _ (Grows.refl _) (fun w2 h2 => r1) (fun h => absurd h (by decide)))
                    refine AllOps.cons (Does.plain rfl fun lq aq wq hk hr K hK => ?_) ?_
                    · obtain ⟨v2, E2, -, r2⟩ := hk.dep hr 2 79 (by kernel_rfl) (by kernel_rfl)
                      have r2 : v2 = .tuple #[.int .i64 0, .bool false] := r2 wq (Grows.refl wq)
                      obtain ⟨rfl⟩ := r2
                      exact wp_of_value (by go_simp) (hK.out _ _ (Grows.refl _) (fun w2 h2 => rfl) (fun h => absurd h (by decide)))
                    refine AllOps.cons (Does.plain rfl fun lq aq wq hk hr K hK => ?_) ?_
                    · obtain ⟨v2, E2, -, r2⟩ := hk.dep hr 2 79 (by kernel_rfl) (by kernel_rfl)
                      have r2 : v2 = .tuple #[.int .i64 0, .bool false] := r2 wq (Grows.refl wq)
                      obtain ⟨rfl⟩ := r2
                      exact wp_of_value (by go_simp) (hK.out _ _ (Grows.refl _) (fun w2 h2 => rfl) (fun h => absurd h (by decide)))
                    exact AllOps.nil
                  case fin =>
                    intro V x5 hG hV hap
                    have r3 : (V 3) = .int .i64 0 := hV 3 (by decide)
                    have r4 : (V 4) = .bool false := hV 4 (by decide)
                    clear hV hap
                    simp only [List.take_succ_cons, List.take_zero, List.drop_succ_cons, List.drop_zero, putAll, Act.put, List.setIfInBounds_toArray, List.set_cons_zero, List.set_cons_succ]
                    have hb := (show Below _ _ _ from hG)
                    replace Dp := Lib.hid (Box2.below Dp.out hb)
                    replace Sp := Lib.hid (Sp.out.below hb)
                    replace Dq := Lib.hid (Box2.below Dq.out hb)
                    replace Sq := Lib.hid (Sq.out.below hb)
                    replace w0 := Lib.hid (w0.out.below hb)
                    replace w1 := Lib.hid (w1.out.below hb)
                    replace w2 := Lib.hid (w2.out.below hb)
                    replace w3 := Lib.hid (w3.out.below hb)
                    replace w4 := Lib.hid (w4.out.below hb)
                    replace w5 := Lib.hid (w5.out.below hb)
                    replace w6 := Lib.hid (w6.out.below hb)
                    replace w7 := Lib.hid (w7.out.below hb)
                    replace Nq := Lib.hid (Nq.out.below hb)
                    replace HB := Lib.hid (HB.out.trans (Below.mono hb HB.out.size))
                    clear hb hG
                    rw [r3, r4]
                    clear r3 r4
                    go_upto_region 9 with fail
                    refine wp_region_calm 5 [] ([fun vq wq => WV wq vq q,
                        fun vq wq => vq = .tuple #[.int .i64 0, .bool false],
                        fun vq wq => vq = .tuple #[.int .i64 0, .bool false],
                        fun vq _ => vq = .int .i64 0,
                        fun vq _ => vq = .bool false]) (by kernel_rfl) (by decide) ?hF ?steps ?fin
                    case hF =>
                      intro j hj; cases hj
                    case steps =>
                      refine AllOps.cons (Does.plain rfl fun lq aq wq hk hr K hK => ?_) ?_
                      · have B10 : ev aq (.tmp 10) = .pointer (some ⟨bs + 1, 0, none⟩) := hk.base 10 (by kernel_rfl) rfl
                        have hb : Below _ _ _ := hk.ext
                        exact wp_of_value (op_load 10 _ B10 (Box2.below Dq.out hb)) (hK.out _ _ (Grows.refl _) (fun w2 h2 => ⟨_, _, _, _, rfl, (Sq.out.below hb).below h2⟩) (fun h => absurd h (by decide)))
                      refine AllOps.cons (Does.plain rfl fun lq aq wq hk hr K hK => ?_) ?_
                      · obtain ⟨v0, E0, -, r0⟩ := hk.dep hr 0 85 (by kernel_rfl) (by kernel_rfl)
                        have r0 : WV wq v0 q := r0 wq (Grows.refl wq)
                        refine wp_of_call (f := 42) (vs := #[v0]) (by go_simp) (rsmall0_v wq r0 (Nat.le_trans hkq (by decide)) hin.out) ?_
                        rintro e w1 ⟨u, rfl, hu, hb⟩
                        exact ⟨u, rfl, hK.out _ _ hb (fun w2 h2 => hu) (fun h => absurd h (by decide))⟩
                      refine AllOps.cons (Does.plain rfl fun lq aq wq hk hr K hK => ?_) ?_
                      · obtain ⟨v1, E1, -, r1⟩ := hk.dep hr 1 86 (by kernel_rfl) (by kernel_rfl)
                        have r1 : v1 = .tuple #[.int .i64 0, .bool false] := r1 wq (Grows.refl wq)
                        exact wp_of_value (by go_simp) (hK.out _ _ (Grows.refl _) (fun w2 h2 => r1) (fun h => absurd h (by decide)))
                      refine AllOps.cons (Does.plain rfl fun lq aq wq hk hr K hK => ?_) ?_
                      · obtain ⟨v2, E2, -, r2⟩ := hk.dep hr 2 84 (by kernel_rfl) (by kernel_rfl)
                        have r2 : v2 = .tuple #[.int .i64 0, .bool false] := r2 wq (Grows.refl wq)
                        obtain ⟨rfl⟩ := r2
                        exact wp_of_value (by go_simp) (hK.out _ _ (Grows.refl _) (fun w2 h2 => rfl) (fun h => absurd h (by decide)))
                      refine AllOps.cons (Does.plain rfl fun lq aq wq hk hr K hK => ?_) ?_
                      · obtain ⟨v2, E2, -, r2⟩ := hk.dep hr 2 84 (by kernel_rfl) (by kernel_rfl)
                        have r2 : v2 = .tuple #[.int .i64 0, .bool false] := r2 wq (Grows.refl wq)
                        obtain ⟨rfl⟩ := r2
                        exact wp_of_value (by go_simp) (hK.out _ _ (Grows.refl _) (fun w2 h2 => rfl) (fun h => absurd h (by decide)))
                      exact AllOps.nil
                    case fin =>
                      intro V x6 hG hV hap
                      have r3 : (V 3) = .int .i64 0 := hV 3 (by decide)
                      have r4 : (V 4) = .bool false := hV 4 (by decide)
                      clear hV hap
                      simp only [List.take_succ_cons, List.take_zero, List.drop_succ_cons, List.drop_zero, putAll, Act.put, List.setIfInBounds_toArray, List.set_cons_zero, List.set_cons_succ]
                      have hb := (show Below _ _ _ from hG)
                      replace Dp := Lib.hid (Box2.below Dp.out hb)
                      replace Sp := Lib.hid (Sp.out.below hb)
                      replace Dq := Lib.hid (Box2.below Dq.out hb)
                      replace Sq := Lib.hid (Sq.out.below hb)
                      replace w0 := Lib.hid (w0.out.below hb)
                      replace w1 := Lib.hid (w1.out.below hb)
                      replace w2 := Lib.hid (w2.out.below hb)
                      replace w3 := Lib.hid (w3.out.below hb)
                      replace w4 := Lib.hid (w4.out.below hb)
                      replace w5 := Lib.hid (w5.out.below hb)
                      replace w6 := Lib.hid (w6.out.below hb)
                      replace w7 := Lib.hid (w7.out.below hb)
                      replace Nq := Lib.hid (Nq.out.below hb)
                      replace HB := Lib.hid (HB.out.trans (Below.mono hb HB.out.size))
                      clear hb hG
                      rw [r3, r4]
                      clear r3 r4
                      go_upto_region 10 with fail
                      refine wp_region_going 41 [] ([fun vq _ => vq = .int .i64 0,
                          fun vq _ => vq = .int .i64 0,
                          fun vq _ => vq = .bool false,
                          fun vq _ => vq = .bool false,
                          fun vq _ => vq = .bool false,
                          fun vq _ => vq = .bool false,
                          fun vq _ => vq = .bool false,
                          fun vq _ => vq = .bool false,
                          fun vq _ => vq = .bool false,
                          fun vq _ => vq = .agg #[.bool nq, .slice Aq iq cq],
                          fun vq _ => vq = .bool t,
                          fun vq _ => vq = .agg #[.bool nq, .slice Aq iq cq],
                          fun vq _ => vq = .bool t,
                          fun vq _ => vq = .bool false,
                          fun vq _ => vq = .bool false,
                          fun vq _ => vq = .bool false,
                          fun vq wq => WV wq vq q,
                          fun vq _ => vq = .int .i64 i2,
                          fun vq wq => WV wq vq q,
                          fun vq _ => vq = .int .i64 i2,
                          fun vq _ => vq = .bool false,
                          fun vq _ => vq = .bool false,
                          fun vq _ => vq = .bool false,
                          fun vq wq => WV wq vq q,
                          fun vq wq => ZV wq vq ((-q)),
                          fun vq wq => WV wq vq q,
                          fun vq wq => ZV wq vq ((-q)),
                          fun vq _ => vq = .bool true,
                          fun vq _ => vq = .bool false,
                          fun vq _ => vq = .bool false,
                          fun vq _ => vq = .bool false,
                          fun vq _ => vq = .pointer (some ⟨bs + 1, 0, none⟩),
                          fun vq _ => vq = .bool nq,
                          fun vq _ => vq = .pointer (some ⟨bs + 1, 1, none⟩),
                          fun vq _ => vq = .slice Aq iq cq,
                          fun vq wq => ZV wq vq q,
                          fun vq wq => WV wq vq q,
                          fun vq wq => ZV wq vq q,
                          fun vq _ => vq = .bool true,
                          fun vq _ => vq = .bool false,
                          fun vq _ => vq = .bool false]) (by kernel_rfl) (by kernel_rfl) (by decide) (by kernel_rfl) (by kernel_rfl) ?hF ?steps ?fin
                      case hF =>
                        intro j hj; cases hj
                      case steps =>
                        refine AllOps.cons (Does.plain rfl fun lq aq wq hk hr K hK => ?_) ?_
                        · have B11 : ev aq (.tmp 11) = .int .i64 0 := hk.base 11 (by kernel_rfl) rfl
                          exact wp_of_value (by go_simp) (hK.out _ _ (Grows.refl _) (fun w2 h2 => rfl) (fun h => absurd h (by decide)))
                        refine AllOps.cons (Does.plain rfl fun lq aq wq hk hr K hK => ?_) ?_
                        · have B13 : ev aq (.tmp 13) = .int .i64 0 := hk.base 13 (by kernel_rfl) rfl
                          exact wp_of_value (by go_simp) (hK.out _ _ (Grows.refl _) (fun w2 h2 => rfl) (fun h => absurd h (by decide)))
                        refine AllOps.cons (Does.plain rfl fun lq aq wq hk hr K hK => ?_) ?_
                        · obtain ⟨v0, E0, -, r0⟩ := hk.dep hr 0 89 (by kernel_rfl) (by kernel_rfl)
                          replace E0 : ev aq (.tmp 89) = .int .i64 0 := E0.trans (r0 wq (Grows.refl wq))
                          obtain ⟨v1, E1, -, r1⟩ := hk.dep hr 1 90 (by kernel_rfl) (by kernel_rfl)
                          replace E1 : ev aq (.tmp 90) = .int .i64 0 := E1.trans (r1 wq (Grows.refl wq))
                          exact wp_of_value (by go_simp) (hK.out _ _ (Grows.refl _) (fun w2 h2 => rfl) (fun h => absurd h (by decide)))
                        refine AllOps.cons (Does.plain rfl fun lq aq wq hk hr K hK => ?_) ?_
                        · obtain ⟨v2, E2, -, r2⟩ := hk.dep hr 2 91 (by kernel_rfl) (by kernel_rfl)
                          replace E2 : ev aq (.tmp 91) = .bool false := E2.trans (r2 wq (Grows.refl wq))
                          exact wp_of_value (by go_simp) (hK.out _ _ (Grows.refl _) (fun w2 h2 => rfl) (fun h => absurd h (by decide)))
                        refine AllOps.cons (Does.lets (g := 3) (d := 92) (t := false) rfl (by kernel_rfl) (by kernel_rfl) (fun vq wq h => h wq (Grows.refl wq)) fun lq aq wq hk hr K hK => ?_) ?_
                        · have B12 : ev aq (.tmp 12) = .bool false := hk.base 12 (by kernel_rfl) rfl
                          exact wp_of_value (by go_simp) (hK.out _ _ (Grows.refl _) (fun w2 h2 => rfl) (fun h => absurd h (by decide)))
                        refine AllOps.cons (Does.lets (g := 3) (d := 92) (t := false) rfl (by kernel_rfl) (by kernel_rfl) (fun vq wq h => h wq (Grows.refl wq)) fun lq aq wq hk hr K hK => ?_) ?_
                        · have B14 : ev aq (.tmp 14) = .bool false := hk.base 14 (by kernel_rfl) rfl
                          exact wp_of_value (by go_simp) (hK.out _ _ (Grows.refl _) (fun w2 h2 => rfl) (fun h => absurd h (by decide)))
                        refine AllOps.cons (Does.lets (g := 3) (d := 92) (t := false) rfl (by kernel_rfl) (by kernel_rfl) (fun vq wq h => h wq (Grows.refl wq)) fun lq aq wq hk hr K hK => ?_) ?_
                        · obtain ⟨v4, E4, -, r4⟩ := hk.dep hr 4 93 (by kernel_rfl) (by kernel_rfl)
                          replace E4 : ev aq (.tmp 93) = .bool false := E4.trans (r4 wq (Grows.refl wq))
                          obtain ⟨v5, E5, -, r5⟩ := hk.dep hr 5 94 (by kernel_rfl) (by kernel_rfl)
                          replace E5 : ev aq (.tmp 94) = .bool false := E5.trans (r5 wq (Grows.refl wq))
                          exact wp_of_value (by go_simp) (hK.out _ _ (Grows.refl _) (fun w2 h2 => rfl) (fun h => absurd h (by decide)))
                        refine AllOps.cons (Does.plain rfl fun lq aq wq hk hr K hK => ?_) ?_
                        · obtain ⟨v3, E3, -, r3⟩ := hk.dep hr 3 92 (by kernel_rfl) (by kernel_rfl)
                          replace E3 : ev aq (.tmp 92) = .bool false := E3.trans (r3 wq (Grows.refl wq))
                          obtain ⟨v6, E6, -, r6⟩ := hk.dep hr 6 95 (by kernel_rfl) (by kernel_rfl)
                          replace E6 : ev aq (.tmp 95) = .bool false := E6.trans (r6 wq (Grows.refl wq))
                          exact wp_of_value (by go_simp) (hK.out _ _ (Grows.refl _) (fun w2 h2 => rfl) (fun h => absurd h (by decide)))
                        refine AllOps.cons (Does.plain rfl fun lq aq wq hk hr K hK => ?_) ?_
                        · obtain ⟨v7, E7, -, r7⟩ := hk.dep hr 7 96 (by kernel_rfl) (by kernel_rfl)
                          replace E7 : ev aq (.tmp 96) = .bool false := E7.trans (r7 wq (Grows.refl wq))
                          exact wp_of_value (by go_simp) (hK.out _ _ (Grows.refl _) (fun w2 h2 => rfl) (fun h => absurd h (by decide)))
                        refine AllOps.cons (Does.lets (g := 8) (d := 97) (t := false) rfl (by kernel_rfl) (by kernel_rfl) (fun vq wq h => h wq (Grows.refl wq)) fun lq aq wq hk hr K hK => ?_) ?_
                        · have B10 : ev aq (.tmp 10) = .pointer (some ⟨bs + 1, 0, none⟩) := hk.base 10 (by kernel_rfl) rfl
                          have hb := grows_of hk.ext
                          exact wp_of_value (op_load 10 _ B10 (Box2.below Dq.out hb)) (hK.out _ _ (Grows.refl _) (fun w2 h2 => rfl) (fun h => absurd h (by decide)))
                        refine AllOps.cons (Does.lets (g := 8) (d := 97) (t := false) rfl (by kernel_rfl) (by kernel_rfl) (fun vq wq h => h wq (Grows.refl wq)) fun lq aq wq hk hr K hK => ?_) ?_
                        · obtain ⟨v9, E9, -, r9⟩ := hk.dep hr 9 98 (by kernel_rfl) (by kernel_rfl)
                          replace E9 : ev aq (.tmp 98) = .agg #[.bool nq, .slice Aq iq cq] := E9.trans (r9 wq (Grows.refl wq))
                          refine wp_of_call (f := 33) (vs := #[.agg #[.bool nq, .slice Aq iq cq]]) (by go_simp) (brightR_v wq ⟨nq, Aq, iq, cq, lz, az, rfl, Nq.out.below (grows_of hk.ext), hlq, hzq.out, htq.out⟩) ?_
                          rintro e w1 ⟨u, rfl, hu, hb⟩
                          exact ⟨u, rfl, hK.out _ _ hb (fun w2 h2 => hu) (fun h => absurd h (by decide))⟩
                        refine AllOps.cons (Does.lets (g := 8) (d := 97) (t := false) rfl (by kernel_rfl) (by kernel_rfl) (fun vq wq h => h wq (Grows.refl wq)) fun lq aq wq hk hr K hK => ?_) ?_
                        · have B10 : ev aq (.tmp 10) = .pointer (some ⟨bs + 1, 0, none⟩) := hk.base 10 (by kernel_rfl) rfl
                          have hb := grows_of hk.ext
                          exact wp_of_value (op_load 10 _ B10 (Box2.below Dq.out hb)) (hK.out _ _ (Grows.refl _) (fun w2 h2 => rfl) (fun h => absurd h (by decide)))
                        refine AllOps.cons (Does.lets (g := 8) (d := 97) (t := false) rfl (by kernel_rfl) (by kernel_rfl) (fun vq wq h => h wq (Grows.refl wq)) fun lq aq wq hk hr K hK => ?_) ?_
                        · obtain ⟨v11, E11, -, r11⟩ := hk.dep hr 11 100 (by kernel_rfl) (by kernel_rfl)
                          replace E11 : ev aq (.tmp 100) = .agg #[.bool nq, .slice Aq iq cq] := E11.trans (r11 wq (Grows.refl wq))
                          refine wp_of_call (f := 43) (vs := #[.agg #[.bool nq, .slice Aq iq cq]]) (by go_simp) (rright_v wq ⟨nq, Aq, iq, cq, lz, az, rfl, Nq.out.below (grows_of hk.ext), hlq, hzq.out, htq.out⟩) ?_
                          rintro e w1 ⟨u, rfl, hu, hb⟩
                          exact ⟨u, rfl, hK.out _ _ hb (fun w2 h2 => hu) (fun h => absurd h (by decide))⟩
                        refine AllOps.cons (Does.lets (g := 8) (d := 97) (t := false) rfl (by kernel_rfl) (by kernel_rfl) (fun vq wq h => h wq (Grows.refl wq)) fun lq aq wq hk hr K hK => ?_) ?_
                        · obtain ⟨v10, E10, -, r10⟩ := hk.dep hr 10 99 (by kernel_rfl) (by kernel_rfl)
                          replace E10 : ev aq (.tmp 99) = .bool t := E10.trans (r10 wq (Grows.refl wq))
                          obtain ⟨v12, E12, -, r12⟩ := hk.dep hr 12 101 (by kernel_rfl) (by kernel_rfl)
                          replace E12 : ev aq (.tmp 101) = .bool t := E12.trans (r12 wq (Grows.refl wq))
                          exact wp_of_value (by go_simp) (hK.out _ _ (Grows.refl _) (fun w2 h2 => rfl) (fun h => absurd h (by decide)))
                        refine AllOps.cons (Does.plain rfl fun lq aq wq hk hr K hK => ?_) ?_
                        · obtain ⟨v8, E8, -, r8⟩ := hk.dep hr 8 97 (by kernel_rfl) (by kernel_rfl)
                          replace E8 : ev aq (.tmp 97) = .bool false := E8.trans (r8 wq (Grows.refl wq))
                          obtain ⟨v13, E13, -, r13⟩ := hk.dep hr 13 102 (by kernel_rfl) (by kernel_rfl)
                          replace E13 : ev aq (.tmp 102) = .bool false := E13.trans (r13 wq (Grows.refl wq))
                          exact wp_of_value (by go_simp) (hK.out _ _ (Grows.refl _) (fun w2 h2 => rfl) (fun h => absurd h (by decide)))
                        refine AllOps.cons (Does.plain rfl fun lq aq wq hk hr K hK => ?_) ?_
                        · obtain ⟨v14, E14, -, r14⟩ := hk.dep hr 14 103 (by kernel_rfl) (by kernel_rfl)
                          replace E14 : ev aq (.tmp 103) = .bool false := E14.trans (r14 wq (Grows.refl wq))
                          exact wp_of_value (by go_simp) (hK.out _ _ (Grows.refl _) (fun w2 h2 => rfl) (fun h => absurd h (by decide)))
                        refine AllOps.cons (Does.lets (g := 15) (d := 104) (t := false) rfl (by kernel_rfl) (by kernel_rfl) (fun vq wq h => h wq (Grows.refl wq)) fun lq aq wq hk hr K hK => ?_) ?_
                        · have B10 : ev aq (.tmp 10) = .pointer (some ⟨bs + 1, 0, none⟩) := hk.base 10 (by kernel_rfl) rfl
                          have hb := grows_of hk.ext
                          exact wp_of_value (op_load 10 _ B10 (Box2.below Dq.out hb)) (hK.out _ _ (Grows.refl _) (fun w2 h2 => ⟨_, _, _, _, rfl, (Sq.out.below hb).below h2⟩) (fun h => absurd h (by decide)))
                        refine AllOps.cons (Does.lets (g := 15) (d := 104) (t := false) rfl (by kernel_rfl) (by kernel_rfl) (fun vq wq h => h wq (Grows.refl wq)) fun lq aq wq hk hr K hK => ?_) ?_
                        · obtain ⟨v16, E16, -, r16⟩ := hk.dep hr 16 105 (by kernel_rfl) (by kernel_rfl)
                          have r16 : WV wq v16 q := r16 wq (Grows.refl wq)
                          refine wp_of_call (f := 36) (vs := #[v16]) (by go_simp) (sign_v wq r16 (k := i2) hi2.out) ?_
                          rintro e w1 ⟨u, rfl, hu, hb⟩
                          exact ⟨u, rfl, hK.out _ _ hb (fun w2 h2 => hu) (fun h => absurd h (by decide))⟩
                        refine AllOps.cons (Does.lets (g := 15) (d := 104) (t := false) rfl (by kernel_rfl) (by kernel_rfl) (fun vq wq h => h wq (Grows.refl wq)) fun lq aq wq hk hr K hK => ?_) ?_
                        · have B10 : ev aq (.tmp 10) = .pointer (some ⟨bs + 1, 0, none⟩) := hk.base 10 (by kernel_rfl) rfl
                          have hb := grows_of hk.ext
                          exact wp_of_value (op_load 10 _ B10 (Box2.below Dq.out hb)) (hK.out _ _ (Grows.refl _) (fun w2 h2 => ⟨_, _, _, _, rfl, (Sq.out.below hb).below h2⟩) (fun h => absurd h (by decide)))
                        refine AllOps.cons (Does.lets (g := 15) (d := 104) (t := false) rfl (by kernel_rfl) (by kernel_rfl) (fun vq wq h => h wq (Grows.refl wq)) fun lq aq wq hk hr K hK => ?_) ?_
                        · obtain ⟨v18, E18, -, r18⟩ := hk.dep hr 18 107 (by kernel_rfl) (by kernel_rfl)
                          have r18 : WV wq v18 q := r18 wq (Grows.refl wq)
                          refine wp_of_call (f := 44) (vs := #[v18]) (by go_simp) (rsign_v wq r18 (k := i2) hi2.out) ?_
                          rintro e w1 ⟨u, rfl, hu, hb⟩
                          exact ⟨u, rfl, hK.out _ _ hb (fun w2 h2 => hu) (fun h => absurd h (by decide))⟩
                        refine AllOps.cons (Does.lets (g := 15) (d := 104) (t := false) rfl (by kernel_rfl) (by kernel_rfl) (fun vq wq h => h wq (Grows.refl wq)) fun lq aq wq hk hr K hK => ?_) ?_
                        · obtain ⟨v17, E17, -, r17⟩ := hk.dep hr 17 106 (by kernel_rfl) (by kernel_rfl)
                          replace E17 : ev aq (.tmp 106) = .int .i64 i2 := E17.trans (r17 wq (Grows.refl wq))
                          obtain ⟨v19, E19, -, r19⟩ := hk.dep hr 19 108 (by kernel_rfl) (by kernel_rfl)
                          replace E19 : ev aq (.tmp 108) = .int .i64 i2 := E19.trans (r19 wq (Grows.refl wq))
                          exact wp_of_value (by go_simp) (hK.out _ _ (Grows.refl _) (fun w2 h2 => rfl) (fun h => absurd h (by decide)))
                        refine AllOps.cons (Does.plain rfl fun lq aq wq hk hr K hK => ?_) ?_
                        · obtain ⟨v15, E15, -, r15⟩ := hk.dep hr 15 104 (by kernel_rfl) (by kernel_rfl)
                          replace E15 : ev aq (.tmp 104) = .bool false := E15.trans (r15 wq (Grows.refl wq))
                          obtain ⟨v20, E20, -, r20⟩ := hk.dep hr 20 109 (by kernel_rfl) (by kernel_rfl)
                          replace E20 : ev aq (.tmp 109) = .bool false := E20.trans (r20 wq (Grows.refl wq))
                          exact wp_of_value (by go_simp) (hK.out _ _ (Grows.refl _) (fun w2 h2 => rfl) (fun h => absurd h (by decide)))
                        refine AllOps.cons (Does.plain rfl fun lq aq wq hk hr K hK => ?_) ?_
                        · obtain ⟨v21, E21, -, r21⟩ := hk.dep hr 21 110 (by kernel_rfl) (by kernel_rfl)
                          replace E21 : ev aq (.tmp 110) = .bool false := E21.trans (r21 wq (Grows.refl wq))
                          exact wp_of_value (by go_simp) (hK.out _ _ (Grows.refl _) (fun w2 h2 => rfl) (fun h => absurd h (by decide)))
                        refine AllOps.cons (Does.lets (g := 22) (d := 111) (t := false) rfl (by kernel_rfl) (by kernel_rfl) (fun vq wq h => h wq (Grows.refl wq)) fun lq aq wq hk hr K hK => ?_) ?_
                        · have B10 : ev aq (.tmp 10) = .pointer (some ⟨bs + 1, 0, none⟩) := hk.base 10 (by kernel_rfl) rfl
                          have hb := grows_of hk.ext
                          exact wp_of_value (op_load 10 _ B10 (Box2.below Dq.out hb)) (hK.out _ _ (Grows.refl _) (fun w2 h2 => ⟨_, _, _, _, rfl, (Sq.out.below hb).below h2⟩) (fun h => absurd h (by decide)))
                        refine AllOps.cons (Does.lets (g := 22) (d := 111) (t := false) rfl (by kernel_rfl) (by kernel_rfl) (fun vq wq h => h wq (Grows.refl wq)) fun lq aq wq hk hr K hK => ?_) ?_
                        · obtain ⟨v23, E23, -, r23⟩ := hk.dep hr 23 112 (by kernel_rfl) (by kernel_rfl)
                          have r23 : WV wq v23 q := r23 wq (Grows.refl wq)
                          refine wp_of_call (f := 30) (vs := #[v23]) (by go_simp) (neg_v wq r23 (Nat.le_trans (szz_neg hkq) (by decide))) ?_
                          rintro e w1 ⟨u, rfl, hu, hb⟩
                          exact ⟨u, rfl, hK.out _ _ hb (fun w2 h2 => (hu).grow h2) (fun h => absurd h (by decide))⟩
                        refine AllOps.cons (Does.lets (g := 22) (d := 111) (t := false) rfl (by kernel_rfl) (by kernel_rfl) (fun vq wq h => h wq (Grows.refl wq)) fun lq aq wq hk hr K hK => ?_) ?_
                        · have B10 : ev aq (.tmp 10) = .pointer (some ⟨bs + 1, 0, none⟩) := hk.base 10 (by kernel_rfl) rfl
                          have hb := grows_of hk.ext
                          exact wp_of_value (op_load 10 _ B10 (Box2.below Dq.out hb)) (hK.out _ _ (Grows.refl _) (fun w2 h2 => ⟨_, _, _, _, rfl, (Sq.out.below hb).below h2⟩) (fun h => absurd h (by decide)))
                        refine AllOps.cons (Does.lets (g := 22) (d := 111) (t := false) rfl (by kernel_rfl) (by kernel_rfl) (fun vq wq h => h wq (Grows.refl wq)) fun lq aq wq hk hr K hK => ?_) ?_
                        · obtain ⟨v25, E25, -, r25⟩ := hk.dep hr 25 114 (by kernel_rfl) (by kernel_rfl)
                          have r25 : WV wq v25 q := r25 wq (Grows.refl wq)
                          refine wp_of_call (f := 45) (vs := #[v25]) (by go_simp) (rneg_v wq r25) ?_
                          rintro e w1 ⟨u, rfl, hu, hb⟩
                          exact ⟨u, rfl, hK.out _ _ hb (fun w2 h2 => (hu).grow h2) (fun h => absurd h (by decide))⟩
                        refine AllOps.cons (Does.lets (g := 22) (d := 111) (t := false) rfl (by kernel_rfl) (by kernel_rfl) (fun vq wq h => h wq (Grows.refl wq)) fun lq aq wq hk hr K hK => ?_) ?_
                        · obtain ⟨v24, E24, -, r24⟩ := hk.dep hr 24 113 (by kernel_rfl) (by kernel_rfl)
                          have r24 : ZV wq v24 ((-q)) := r24 wq (Grows.refl wq)
                          obtain ⟨v26, E26, -, r26⟩ := hk.dep hr 26 115 (by kernel_rfl) (by kernel_rfl)
                          have r26 : ZV wq v26 ((-q)) := r26 wq (Grows.refl wq)
                          refine wp_of_call (f := 20) (vs := #[v24, v26]) (by go_simp) (rsame_v wq r24 r26 (t := true) (decide_eq_true rfl)) ?_
                          rintro e w1 ⟨u, rfl, hu, hb⟩
                          exact ⟨u, rfl, hK.out _ _ hb (fun w2 h2 => hu) (fun h => absurd h (by decide))⟩
                        refine AllOps.cons (Does.lets (g := 22) (d := 111) (t := false) rfl (by kernel_rfl) (by kernel_rfl) (fun vq wq h => h wq (Grows.refl wq)) fun lq aq wq hk hr K hK => ?_) ?_
                        · obtain ⟨v27, E27, -, r27⟩ := hk.dep hr 27 116 (by kernel_rfl) (by kernel_rfl)
                          replace E27 : ev aq (.tmp 116) = .bool true := E27.trans (r27 wq (Grows.refl wq))
                          exact wp_of_value (by go_simp) (hK.out _ _ (Grows.refl _) (fun w2 h2 => rfl) (fun h => absurd h (by decide)))
                        refine AllOps.cons (Does.plain rfl fun lq aq wq hk hr K hK => ?_) ?_
                        · obtain ⟨v22, E22, -, r22⟩ := hk.dep hr 22 111 (by kernel_rfl) (by kernel_rfl)
                          replace E22 : ev aq (.tmp 111) = .bool false := E22.trans (r22 wq (Grows.refl wq))
                          obtain ⟨v28, E28, -, r28⟩ := hk.dep hr 28 117 (by kernel_rfl) (by kernel_rfl)
                          replace E28 : ev aq (.tmp 117) = .bool false := E28.trans (r28 wq (Grows.refl wq))
                          exact wp_of_value (by go_simp) (hK.out _ _ (Grows.refl _) (fun w2 h2 => rfl) (fun h => absurd h (by decide)))
                        refine AllOps.cons (Does.plain rfl fun lq aq wq hk hr K hK => ?_) ?_
                        · obtain ⟨v29, E29, -, r29⟩ := hk.dep hr 29 118 (by kernel_rfl) (by kernel_rfl)
                          replace E29 : ev aq (.tmp 118) = .bool false := E29.trans (r29 wq (Grows.refl wq))
                          exact wp_of_value (by go_simp) (hK.out _ _ (Grows.refl _) (fun w2 h2 => rfl) (fun h => absurd h (by decide)))
                        refine AllOps.cons (Does.lets (g := 30) (d := 119) (t := false) rfl (by kernel_rfl) (by kernel_rfl) (fun vq wq h => h wq (Grows.refl wq)) fun lq aq wq hk hr K hK => ?_) ?_
                        · have B10 : ev aq (.tmp 10) = .pointer (some ⟨bs + 1, 0, none⟩) := hk.base 10 (by kernel_rfl) rfl
                          exact wp_of_value (by go_simp) (hK.out _ _ (Grows.refl _) (fun w2 h2 => rfl) (fun h => absurd h (by decide)))
                        refine AllOps.cons (Does.lets (g := 30) (d := 119) (t := false) rfl (by kernel_rfl) (by kernel_rfl) (fun vq wq h => h wq (Grows.refl wq)) fun lq aq wq hk hr K hK => ?_) ?_
                        · obtain ⟨v31, E31, -, r31⟩ := hk.dep hr 31 120 (by kernel_rfl) (by kernel_rfl)
                          replace E31 : ev aq (.tmp 120) = .pointer (some ⟨bs + 1, 0, none⟩) := E31.trans (r31 wq (Grows.refl wq))
                          have hb := grows_of hk.ext
                          have c0 := (Box2.below Dq.out hb).c0
                          exact wp_of_value (by go_simp) (hK.out _ _ (Grows.refl _) (fun w2 h2 => rfl) (fun h => absurd h (by decide)))
                        refine AllOps.cons (Does.lets (g := 30) (d := 119) (t := false) rfl (by kernel_rfl) (by kernel_rfl) (fun vq wq h => h wq (Grows.refl wq)) fun lq aq wq hk hr K hK => ?_) ?_
                        · have B10 : ev aq (.tmp 10) = .pointer (some ⟨bs + 1, 0, none⟩) := hk.base 10 (by kernel_rfl) rfl
                          exact wp_of_value (by go_simp) (hK.out _ _ (Grows.refl _) (fun w2 h2 => rfl) (fun h => absurd h (by decide)))
                        refine AllOps.cons (Does.lets (g := 30) (d := 119) (t := false) rfl (by kernel_rfl) (by kernel_rfl) (fun vq wq h => h wq (Grows.refl wq)) fun lq aq wq hk hr K hK => ?_) ?_
                        · obtain ⟨v33, E33, -, r33⟩ := hk.dep hr 33 122 (by kernel_rfl) (by kernel_rfl)
                          replace E33 : ev aq (.tmp 122) = .pointer (some ⟨bs + 1, 1, none⟩) := E33.trans (r33 wq (Grows.refl wq))
                          have hb := grows_of hk.ext
                          have c1 := (Box2.below Dq.out hb).c1
                          exact wp_of_value (by go_simp) (hK.out _ _ (Grows.refl _) (fun w2 h2 => rfl) (fun h => absurd h (by decide)))
                        refine AllOps.cons (Does.lets (g := 30) (d := 119) (t := false) rfl (by kernel_rfl) (by kernel_rfl) (fun vq wq h => h wq (Grows.refl wq)) fun lq aq wq hk hr K hK => ?_) ?_
                        · obtain ⟨v32, E32, -, r32⟩ := hk.dep hr 32 121 (by kernel_rfl) (by kernel_rfl)
                          replace E32 : ev aq (.tmp 121) = .bool nq := E32.trans (r32 wq (Grows.refl wq))
                          obtain ⟨v34, E34, -, r34⟩ := hk.dep hr 34 123 (by kernel_rfl) (by kernel_rfl)
                          replace E34 : ev aq (.tmp 123) = .slice Aq iq cq := E34.trans (r34 wq (Grows.refl wq))
                          refine wp_of_call (f := 34) (vs := #[.bool nq, .slice Aq iq cq]) (by go_simp) (of_v wq nq (Nq.out.below (grows_of hk.ext)).lv hzq.out.symm (Nat.le_trans hkq (by decide))) ?_
                          rintro e w1 ⟨u, rfl, hu, hb⟩
                          exact ⟨u, rfl, hK.out _ _ hb (fun w2 h2 => (hu).grow h2) (fun h => absurd h (by decide))⟩
                        refine AllOps.cons (Does.lets (g := 30) (d := 119) (t := false) rfl (by kernel_rfl) (by kernel_rfl) (fun vq wq h => h wq (Grows.refl wq)) fun lq aq wq hk hr K hK => ?_) ?_
                        · have B10 : ev aq (.tmp 10) = .pointer (some ⟨bs + 1, 0, none⟩) := hk.base 10 (by kernel_rfl) rfl
                          have hb := grows_of hk.ext
                          exact wp_of_value (op_load 10 _ B10 (Box2.below Dq.out hb)) (hK.out _ _ (Grows.refl _) (fun w2 h2 => ⟨_, _, _, _, rfl, (Sq.out.below hb).below h2⟩) (fun h => absurd h (by decide)))
                        refine AllOps.cons (Does.lets (g := 30) (d := 119) (t := false) rfl (by kernel_rfl) (by kernel_rfl) (fun vq wq h => h wq (Grows.refl wq)) fun lq aq wq hk hr K hK => ?_) ?_
                        · obtain ⟨v36, E36, -, r36⟩ := hk.dep hr 36 125 (by kernel_rfl) (by kernel_rfl)
                          have r36 : WV wq v36 q := r36 wq (Grows.refl wq)
                          refine wp_of_call (f := 46) (vs := #[v36]) (by go_simp) (rmade_v wq r36) ?_
                          rintro e w1 ⟨u, rfl, hu, hb⟩
                          exact ⟨u, rfl, hK.out _ _ hb (fun w2 h2 => (hu).grow h2) (fun h => absurd h (by decide))⟩
                        refine AllOps.cons (Does.lets (g := 30) (d := 119) (t := false) rfl (by kernel_rfl) (by kernel_rfl) (fun vq wq h => h wq (Grows.refl wq)) fun lq aq wq hk hr K hK => ?_) ?_
                        · obtain ⟨v35, E35, -, r35⟩ := hk.dep hr 35 124 (by kernel_rfl) (by kernel_rfl)
                          have r35 : ZV wq v35 q := r35 wq (Grows.refl wq)
                          obtain ⟨v37, E37, -, r37⟩ := hk.dep hr 37 126 (by kernel_rfl) (by kernel_rfl)
                          have r37 : ZV wq v37 q := r37 wq (Grows.refl wq)
                          refine wp_of_call (f := 20) (vs := #[v35, v37]) (by go_simp) (rsame_v wq r35 r37 (t := true) (decide_eq_true rfl)) ?_
                          rintro e w1 ⟨u, rfl, hu, hb⟩
                          exact ⟨u, rfl, hK.out _ _ hb (fun w2 h2 => hu) (fun h => absurd h (by decide))⟩
                        refine AllOps.cons (Does.lets (g := 30) (d := 119) (t := false) rfl (by kernel_rfl) (by kernel_rfl) (fun vq wq h => h wq (Grows.refl wq)) fun lq aq wq hk hr K hK => ?_) ?_
                        · obtain ⟨v38, E38, -, r38⟩ := hk.dep hr 38 127 (by kernel_rfl) (by kernel_rfl)
                          replace E38 : ev aq (.tmp 127) = .bool true := E38.trans (r38 wq (Grows.refl wq))
                          exact wp_of_value (by go_simp) (hK.out _ _ (Grows.refl _) (fun w2 h2 => rfl) (fun h => absurd h (by decide)))
                        refine AllOps.cons (Does.plain rfl fun lq aq wq hk hr K hK => ?_) ?_
                        · obtain ⟨v30, E30, -, r30⟩ := hk.dep hr 30 119 (by kernel_rfl) (by kernel_rfl)
                          replace E30 : ev aq (.tmp 119) = .bool false := E30.trans (r30 wq (Grows.refl wq))
                          obtain ⟨v39, E39, -, r39⟩ := hk.dep hr 39 128 (by kernel_rfl) (by kernel_rfl)
                          replace E39 : ev aq (.tmp 128) = .bool false := E39.trans (r39 wq (Grows.refl wq))
                          exact wp_of_value (by go_simp) (hK.out _ _ (Grows.refl _) (fun w2 h2 => rfl) (fun h => absurd h (by decide)))
                        exact AllOps.nil
                      case fin =>
                        intro V x7 hG hV hap
                        have r40 : (V 40) = .bool false := hV 40 (by decide)
                        clear hV hap
                        simp only [List.take_succ_cons, List.take_nil, List.drop_succ_cons, List.drop_nil, putAll, Act.put, List.setIfInBounds_toArray, List.set_cons_zero, List.set_cons_succ]
                        have hb := grows_of hG
                        replace Dp := Lib.hid (Box2.below Dp.out hb)
                        replace Sp := Lib.hid (Sp.out.below hb)
                        replace Dq := Lib.hid (Box2.below Dq.out hb)
                        replace Sq := Lib.hid (Sq.out.below hb)
                        replace w0 := Lib.hid (w0.out.below hb)
                        replace w1 := Lib.hid (w1.out.below hb)
                        replace w2 := Lib.hid (w2.out.below hb)
                        replace w3 := Lib.hid (w3.out.below hb)
                        replace w4 := Lib.hid (w4.out.below hb)
                        replace w5 := Lib.hid (w5.out.below hb)
                        replace w6 := Lib.hid (w6.out.below hb)
                        replace w7 := Lib.hid (w7.out.below hb)
                        replace Nq := Lib.hid (Nq.out.below hb)
                        replace HB := Lib.hid (HB.out.trans (Below.mono hb HB.out.size))
                        clear hb hG
                        rw [r40]
                        clear r40
                        go_wp2_with fail
                        go_roundw
                        case rel =>
                          first
                            | exact ⟨k + 1, by omega, (by first | rfl | simp), HB.out, w0.out, w1.out, w2.out, w3.out, w4.out, w5.out, w6.out, w7.out⟩
                            | ((repeat apply Exists.intro); refine ⟨?_, rfl⟩; exact ⟨k + 1, by omega, (by first | rfl | simp), HB.out, w0.out, w1.out, w2.out, w3.out, w4.out, w5.out, w6.out, w7.out⟩)
                        case measure => simp [intOf]; omega
            · skip
              obtain ⟨Dq, Dp, hby⟩ := two_boxes y1 24 (.bool nq) (.slice Aq iq cq) (.bool np) (.slice Ap ip cp)
              generalize ((y1.alloc (.cells #[.bool nq, .slice Aq iq cq] 24)).alloc (.cells #[.bool np, .slice Ap ip cp] 24)).drew = wc at *
              clear HSX
              generalize hbs : y1.heap.size = bs at Dp Dq ⊢
              replace hbs := Lib.hid hbs
              have Sp := Lib.hid SX.out
              have Sq := Lib.hid SY.out
              clear SX SY X4
              replace Dp := Lib.hid Dp
              replace Dq := Lib.hid Dq
              replace Sp := Lib.hid (Sp.out.below hby)
              replace Sq := Lib.hid (Sq.out.below hby)
              replace w0 := Lib.hid (w0.out.below hby)
              replace w1 := Lib.hid (w1.out.below hby)
              replace w2 := Lib.hid (w2.out.below hby)
              replace w3 := Lib.hid (w3.out.below hby)
              replace w4 := Lib.hid (w4.out.below hby)
              replace w5 := Lib.hid (w5.out.below hby)
              replace w6 := Lib.hid (w6.out.below hby)
              replace w7 := Lib.hid (w7.out.below hby)
              replace HB := Lib.hid (HB.out.trans (Below.mono hby HB.out.size))
              clear hby
              obtain ⟨t, hwr⟩ := WV.wr (show WV _ (.agg #[.bool nq, .slice Aq iq cq]) q from ⟨_, _, _, _, rfl, Sq.out⟩)
              obtain ⟨n9, A9, k9, c9, lz, az, eq9, Nq, hlq, hzq, htq⟩ := hwr
              obtain ⟨rfl, rfl, rfl, rfl⟩ : nq = n9 ∧ Aq = A9 ∧ iq = k9 ∧ cq = c9 := by
                injection eq9 with g1
                injection g1 with g2
                injection g2 with g3 g4
                injection g4 with g5 g6
                injection g3 with g3
                injection g5 with g7 g8 g9
                exact ⟨g3, g7, g8, g9⟩
              clear eq9
              replace Nq := Lib.hid Nq
              replace hzq := Lib.hid hzq
              replace htq := Lib.hid htq
              obtain ⟨i1, hi1⟩ : ∃ i, Int.sign (p - q) = i := ⟨_, rfl⟩
              obtain ⟨i2, hi2⟩ : ∃ i, Int.sign q = i := ⟨_, rfl⟩
              replace hi1 := Lib.hid hi1
              replace hi2 := Lib.hid hi2
              go_upto_region 6 with fail
              refine wp_region_going 39 [] ([fun vq wq => WV wq vq p,
                  fun vq wq => WV wq vq q,
                  fun vq wq => RowV wq vq [p, q],
                  fun vq wq => ZV wq vq ((p + q)),
                  fun vq wq => WV wq vq p,
                  fun vq wq => WV wq vq q,
                  fun vq wq => ZV wq vq ((p + q)),
                  fun vq _ => vq = .bool true,
                  fun vq _ => vq = .bool false,
                  fun vq _ => vq = .bool false,
                  fun vq wq => WV wq vq p,
                  fun vq wq => WV wq vq q,
                  fun vq wq => ZV wq vq ((p - q)),
                  fun vq wq => WV wq vq p,
                  fun vq wq => WV wq vq q,
                  fun vq wq => ZV wq vq ((p - q)),
                  fun vq _ => vq = .bool true,
                  fun vq _ => vq = .bool false,
                  fun vq _ => vq = .bool false,
                  fun vq _ => vq = .bool false,
                  fun vq wq => WV wq vq p,
                  fun vq wq => WV wq vq q,
                  fun vq wq => RowV wq vq [p, q],
                  fun vq wq => ZV wq vq ((p * q)),
                  fun vq wq => WV wq vq p,
                  fun vq wq => WV wq vq q,
                  fun vq wq => ZV wq vq ((p * q)),
                  fun vq _ => vq = .bool true,
                  fun vq _ => vq = .bool false,
                  fun vq _ => vq = .bool false,
                  fun vq _ => vq = .bool false,
                  fun vq wq => WV wq vq p,
                  fun vq wq => WV wq vq q,
                  fun vq _ => vq = .int .i64 i1,
                  fun vq wq => WV wq vq p,
                  fun vq wq => WV wq vq q,
                  fun vq _ => vq = .int .i64 i1,
                  fun vq _ => vq = .bool false,
                  fun vq _ => vq = .bool false]) (by kernel_rfl) (by kernel_rfl) (by decide) (by kernel_rfl) (by kernel_rfl) ?hF ?steps ?fin
              case hF =>
                intro j hj; cases hj
              case steps =>
                refine AllOps.cons (Does.plain rfl fun lq aq wq hk hr K hK => ?_) ?_
                · have B9 : ev aq (.tmp 9) = .pointer (some ⟨bs + 1, 0, none⟩) := hk.base 9 (by kernel_rfl) rfl
                  have hb := grows_of hk.ext
                  exact wp_of_value (op_load 9 _ B9 (Box2.below Dp.out hb)) (hK.out _ _ (Grows.refl _) (fun w2 h2 => ⟨_, _, _, _, rfl, (Sp.out.below hb).below h2⟩) (fun h => absurd h (by decide)))
                refine AllOps.cons (Does.plain rfl fun lq aq wq hk hr K hK => ?_) ?_
                · have B10 : ev aq (.tmp 10) = .pointer (some ⟨bs, 0, none⟩) := hk.base 10 (by kernel_rfl) rfl
                  have hb := grows_of hk.ext
                  exact wp_of_value (op_load 10 _ B10 (Box2.below Dq.out hb)) (hK.out _ _ (Grows.refl _) (fun w2 h2 => ⟨_, _, _, _, rfl, (Sq.out.below hb).below h2⟩) (fun h => absurd h (by decide)))
                refine AllOps.cons (Does.plain rfl fun lq aq wq hk hr K hK => ?_) ?_
                · obtain ⟨v0, E0, -, r0⟩ := hk.dep hr 0 40 (by kernel_rfl) (by kernel_rfl)
                  have r0 : WV wq v0 p := r0 wq (Grows.refl wq)
                  obtain ⟨n0, A0, k0, c0, rfl, s0⟩ := r0
                  obtain ⟨v1, E1, -, r1⟩ := hk.dep hr 1 41 (by kernel_rfl) (by kernel_rfl)
                  have r1 : WV wq v1 q := r1 wq (Grows.refl wq)
                  obtain ⟨n1, A1, k1, c1, rfl, s1⟩ := r1
                  exact wp_of_value (op_row2 40 41 E0 E1) (hK.out _ _ ((Grows.refl _).alloc _) (fun w2 h2 => (RowV.two s0 s1).grow h2) (fun h => absurd h (by decide)))
                refine AllOps.cons (Does.plain rfl fun lq aq wq hk hr K hK => ?_) ?_
                · obtain ⟨v2, E2, -, r2⟩ := hk.dep hr 2 42 (by kernel_rfl) (by kernel_rfl)
                  have r2 : RowV wq v2 [p, q] := r2 wq (Grows.refl wq)
                  refine wp_of_call (f := 27) (vs := #[v2]) (by go_simp) (add2_v wq r2 (Nat.le_trans hkp (by decide)) (Nat.le_trans (szz_add hkp hkq) (by decide))) ?_
                  rintro e w1 ⟨u, rfl, hu, hb⟩
                  exact ⟨u, rfl, hK.out _ _ hb (fun w2 h2 => (hu).grow h2) (fun h => absurd h (by decide))⟩
                refine AllOps.cons (Does.plain rfl fun lq aq wq hk hr K hK => ?_) ?_
                · have B9 : ev aq (.tmp 9) = .pointer (some ⟨bs + 1, 0, none⟩) := hk.base 9 (by kernel_rfl) rfl
                  have hb := grows_of hk.ext
                  exact wp_of_value (op_load 9 _ B9 (Box2.below Dp.out hb)) (hK.out _ _ (Grows.refl _) (fun w2 h2 => ⟨_, _, _, _, rfl, (Sp.out.below hb).below h2⟩) (fun h => absurd h (by decide)))
                refine AllOps.cons (Does.plain rfl fun lq aq wq hk hr K hK => ?_) ?_
                · have B10 : ev aq (.tmp 10) = .pointer (some ⟨bs, 0, none⟩) := hk.base 10 (by kernel_rfl) rfl
                  have hb := grows_of hk.ext
                  exact wp_of_value (op_load 10 _ B10 (Box2.below Dq.out hb)) (hK.out _ _ (Grows.refl _) (fun w2 h2 => ⟨_, _, _, _, rfl, (Sq.out.below hb).below h2⟩) (fun h => absurd h (by decide)))
                refine AllOps.cons (Does.plain rfl fun lq aq wq hk hr K hK => ?_) ?_
                · obtain ⟨v4, E4, -, r4⟩ := hk.dep hr 4 44 (by kernel_rfl) (by kernel_rfl)
                  have r4 : WV wq v4 p := r4 wq (Grows.refl wq)
                  obtain ⟨v5, E5, -, r5⟩ := hk.dep hr 5 45 (by kernel_rfl) (by kernel_rfl)
                  have r5 : WV wq v5 q := r5 wq (Grows.refl wq)
                  refine wp_of_call (f := 39) (vs := #[v4, v5]) (by go_simp) (radd_v wq r4 r5 (Nat.le_trans (szz_add hkp hkq) (by decide))) ?_
                  rintro e w1 ⟨u, rfl, hu, hb⟩
                  exact ⟨u, rfl, hK.out _ _ hb (fun w2 h2 => (hu).grow h2) (fun h => absurd h (by decide))⟩
                refine AllOps.cons (Does.plain rfl fun lq aq wq hk hr K hK => ?_) ?_
                · obtain ⟨v3, E3, -, r3⟩ := hk.dep hr 3 43 (by kernel_rfl) (by kernel_rfl)
                  have r3 : ZV wq v3 ((p + q)) := r3 wq (Grows.refl wq)
                  obtain ⟨v6, E6, -, r6⟩ := hk.dep hr 6 46 (by kernel_rfl) (by kernel_rfl)
                  have r6 : ZV wq v6 ((p + q)) := r6 wq (Grows.refl wq)
                  refine wp_of_call (f := 20) (vs := #[v3, v6]) (by go_simp) (rsame_v wq r3 r6 (t := true) (decide_eq_true rfl)) ?_
                  rintro e w1 ⟨u, rfl, hu, hb⟩
                  exact ⟨u, rfl, hK.out _ _ hb (fun w2 h2 => hu) (fun h => absurd h (by decide))⟩
                refine AllOps.cons (Does.plain rfl fun lq aq wq hk hr K hK => ?_) ?_
                · obtain ⟨v7, E7, -, r7⟩ := hk.dep hr 7 47 (by kernel_rfl) (by kernel_rfl)
                  replace E7 : ev aq (.tmp 47) = .bool true := E7.trans (r7 wq (Grows.refl wq))
                  exact wp_of_value (by go_simp) (hK.out _ _ (Grows.refl _) (fun w2 h2 => rfl) (fun h => absurd h (by decide)))
                refine AllOps.cons (Does.plain rfl fun lq aq wq hk hr K hK => ?_) ?_
                · obtain ⟨v8, E8, -, r8⟩ := hk.dep hr 8 48 (by kernel_rfl) (by kernel_rfl)
                  replace E8 : ev aq (.tmp 48) = .bool false := E8.trans (r8 wq (Grows.refl wq))
                  exact wp_of_value (by go_simp) (hK.out _ _ (Grows.refl _) (fun w2 h2 => rfl) (fun h => absurd h (by decide)))
                refine AllOps.cons (Does.lets (g := 9) (d := 49) (t := false) rfl (by kernel_rfl) (by kernel_rfl) (fun vq wq h => h wq (Grows.refl wq)) fun lq aq wq hk hr K hK => ?_) ?_
                · have B9 : ev aq (.tmp 9) = .pointer (some ⟨bs + 1, 0, none⟩) := hk.base 9 (by kernel_rfl) rfl
                  have hb := grows_of hk.ext
                  exact wp_of_value (op_load 9 _ B9 (Box2.below Dp.out hb)) (hK.out _ _ (Grows.refl _) (fun w2 h2 => ⟨_, _, _, _, rfl, (Sp.out.below hb).below h2⟩) (fun h => absurd h (by decide)))
                refine AllOps.cons (Does.lets (g := 9) (d := 49) (t := false) rfl (by kernel_rfl) (by kernel_rfl) (fun vq wq h => h wq (Grows.refl wq)) fun lq aq wq hk hr K hK => ?_) ?_
                · have B10 : ev aq (.tmp 10) = .pointer (some ⟨bs, 0, none⟩) := hk.base 10 (by kernel_rfl) rfl
                  have hb := grows_of hk.ext
                  exact wp_of_value (op_load 10 _ B10 (Box2.below Dq.out hb)) (hK.out _ _ (Grows.refl _) (fun w2 h2 => ⟨_, _, _, _, rfl, (Sq.out.below hb).below h2⟩) (fun h => absurd h (by decide)))
                refine AllOps.cons (Does.lets (g := 9) (d := 49) (t := false) rfl (by kernel_rfl) (by kernel_rfl) (fun vq wq h => h wq (Grows.refl wq)) fun lq aq wq hk hr K hK => ?_) ?_
                · obtain ⟨v10, E10, -, r10⟩ := hk.dep hr 10 50 (by kernel_rfl) (by kernel_rfl)
                  have r10 : WV wq v10 p := r10 wq (Grows.refl wq)
                  obtain ⟨v11, E11, -, r11⟩ := hk.dep hr 11 51 (by kernel_rfl) (by kernel_rfl)
                  have r11 : WV wq v11 q := r11 wq (Grows.refl wq)
                  refine wp_of_call (f := 29) (vs := #[v10, v11]) (by go_simp) (sub_v wq r10 r11 (Nat.le_trans (szz_sub hkp hkq) (by decide))) ?_
                  rintro e w1 ⟨u, rfl, hu, hb⟩
                  exact ⟨u, rfl, hK.out _ _ hb (fun w2 h2 => (hu).grow h2) (fun h => absurd h (by decide))⟩
                refine AllOps.cons (Does.lets (g := 9) (d := 49) (t := false) rfl (by kernel_rfl) (by kernel_rfl) (fun vq wq h => h wq (Grows.refl wq)) fun lq aq wq hk hr K hK => ?_) ?_
                · have B9 : ev aq (.tmp 9) = .pointer (some ⟨bs + 1, 0, none⟩) := hk.base 9 (by kernel_rfl) rfl
                  have hb := grows_of hk.ext
                  exact wp_of_value (op_load 9 _ B9 (Box2.below Dp.out hb)) (hK.out _ _ (Grows.refl _) (fun w2 h2 => ⟨_, _, _, _, rfl, (Sp.out.below hb).below h2⟩) (fun h => absurd h (by decide)))
                refine AllOps.cons (Does.lets (g := 9) (d := 49) (t := false) rfl (by kernel_rfl) (by kernel_rfl) (fun vq wq h => h wq (Grows.refl wq)) fun lq aq wq hk hr K hK => ?_) ?_
                · have B10 : ev aq (.tmp 10) = .pointer (some ⟨bs, 0, none⟩) := hk.base 10 (by kernel_rfl) rfl
                  have hb := grows_of hk.ext
                  exact wp_of_value (op_load 10 _ B10 (Box2.below Dq.out hb)) (hK.out _ _ (Grows.refl _) (fun w2 h2 => ⟨_, _, _, _, rfl, (Sq.out.below hb).below h2⟩) (fun h => absurd h (by decide)))
                refine AllOps.cons (Does.lets (g := 9) (d := 49) (t := false) rfl (by kernel_rfl) (by kernel_rfl) (fun vq wq h => h wq (Grows.refl wq)) fun lq aq wq hk hr K hK => ?_) ?_
                · obtain ⟨v13, E13, -, r13⟩ := hk.dep hr 13 53 (by kernel_rfl) (by kernel_rfl)
                  have r13 : WV wq v13 p := r13 wq (Grows.refl wq)
                  obtain ⟨v14, E14, -, r14⟩ := hk.dep hr 14 54 (by kernel_rfl) (by kernel_rfl)
                  have r14 : WV wq v14 q := r14 wq (Grows.refl wq)
                  refine wp_of_call (f := 40) (vs := #[v13, v14]) (by go_simp) (rsub_v wq r13 r14 (Nat.le_trans (szz_sub hkp hkq) (by decide))) ?_
                  rintro e w1 ⟨u, rfl, hu, hb⟩
                  exact ⟨u, rfl, hK.out _ _ hb (fun w2 h2 => (hu).grow h2) (fun h => absurd h (by decide))⟩
                refine AllOps.cons (Does.lets (g := 9) (d := 49) (t := false) rfl (by kernel_rfl) (by kernel_rfl) (fun vq wq h => h wq (Grows.refl wq)) fun lq aq wq hk hr K hK => ?_) ?_
                · obtain ⟨v12, E12, -, r12⟩ := hk.dep hr 12 52 (by kernel_rfl) (by kernel_rfl)
                  have r12 : ZV wq v12 ((p - q)) := r12 wq (Grows.refl wq)
                  obtain ⟨v15, E15, -, r15⟩ := hk.dep hr 15 55 (by kernel_rfl) (by kernel_rfl)
                  have r15 : ZV wq v15 ((p - q)) := r15 wq (Grows.refl wq)
                  refine wp_of_call (f := 20) (vs := #[v12, v15]) (by go_simp) (rsame_v wq r12 r15 (t := true) (decide_eq_true rfl)) ?_
                  rintro e w1 ⟨u, rfl, hu, hb⟩
                  exact ⟨u, rfl, hK.out _ _ hb (fun w2 h2 => hu) (fun h => absurd h (by decide))⟩
                refine AllOps.cons (Does.lets (g := 9) (d := 49) (t := false) rfl (by kernel_rfl) (by kernel_rfl) (fun vq wq h => h wq (Grows.refl wq)) fun lq aq wq hk hr K hK => ?_) ?_
                · obtain ⟨v16, E16, -, r16⟩ := hk.dep hr 16 56 (by kernel_rfl) (by kernel_rfl)
                  replace E16 : ev aq (.tmp 56) = .bool true := E16.trans (r16 wq (Grows.refl wq))
                  exact wp_of_value (by go_simp) (hK.out _ _ (Grows.refl _) (fun w2 h2 => rfl) (fun h => absurd h (by decide)))
                refine AllOps.cons (Does.plain rfl fun lq aq wq hk hr K hK => ?_) ?_
                · obtain ⟨v9, E9, -, r9⟩ := hk.dep hr 9 49 (by kernel_rfl) (by kernel_rfl)
                  replace E9 : ev aq (.tmp 49) = .bool false := E9.trans (r9 wq (Grows.refl wq))
                  obtain ⟨v17, E17, -, r17⟩ := hk.dep hr 17 57 (by kernel_rfl) (by kernel_rfl)
                  replace E17 : ev aq (.tmp 57) = .bool false := E17.trans (r17 wq (Grows.refl wq))
                  exact wp_of_value (by go_simp) (hK.out _ _ (Grows.refl _) (fun w2 h2 => rfl) (fun h => absurd h (by decide)))
                refine AllOps.cons (Does.plain rfl fun lq aq wq hk hr K hK => ?_) ?_
                · obtain ⟨v18, E18, -, r18⟩ := hk.dep hr 18 58 (by kernel_rfl) (by kernel_rfl)
                  replace E18 : ev aq (.tmp 58) = .bool false := E18.trans (r18 wq (Grows.refl wq))
                  exact wp_of_value (by go_simp) (hK.out _ _ (Grows.refl _) (fun w2 h2 => rfl) (fun h => absurd h (by decide)))
                refine AllOps.cons (Does.lets (g := 19) (d := 59) (t := false) rfl (by kernel_rfl) (by kernel_rfl) (fun vq wq h => h wq (Grows.refl wq)) fun lq aq wq hk hr K hK => ?_) ?_
                · have B9 : ev aq (.tmp 9) = .pointer (some ⟨bs + 1, 0, none⟩) := hk.base 9 (by kernel_rfl) rfl
                  have hb := grows_of hk.ext
                  exact wp_of_value (op_load 9 _ B9 (Box2.below Dp.out hb)) (hK.out _ _ (Grows.refl _) (fun w2 h2 => ⟨_, _, _, _, rfl, (Sp.out.below hb).below h2⟩) (fun h => absurd h (by decide)))
                refine AllOps.cons (Does.lets (g := 19) (d := 59) (t := false) rfl (by kernel_rfl) (by kernel_rfl) (fun vq wq h => h wq (Grows.refl wq)) fun lq aq wq hk hr K hK => ?_) ?_
                · have B10 : ev aq (.tmp 10) = .pointer (some ⟨bs, 0, none⟩) := hk.base 10 (by kernel_rfl) rfl
                  have hb := grows_of hk.ext
                  exact wp_of_value (op_load 10 _ B10 (Box2.below Dq.out hb)) (hK.out _ _ (Grows.refl _) (fun w2 h2 => ⟨_, _, _, _, rfl, (Sq.out.below hb).below h2⟩) (fun h => absurd h (by decide)))
                refine AllOps.cons (Does.lets (g := 19) (d := 59) (t := false) rfl (by kernel_rfl) (by kernel_rfl) (fun vq wq h => h wq (Grows.refl wq)) fun lq aq wq hk hr K hK => ?_) ?_
                · obtain ⟨v20, E20, -, r20⟩ := hk.dep hr 20 60 (by kernel_rfl) (by kernel_rfl)
                  have r20 : WV wq v20 p := r20 wq (Grows.refl wq)
                  obtain ⟨n20, A20, k20, c20, rfl, s20⟩ := r20
                  obtain ⟨v21, E21, -, r21⟩ := hk.dep hr 21 61 (by kernel_rfl) (by kernel_rfl)
                  have r21 : WV wq v21 q := r21 wq (Grows.refl wq)
                  obtain ⟨n21, A21, k21, c21, rfl, s21⟩ := r21
                  exact wp_of_value (op_row2 60 61 E20 E21) (hK.out _ _ ((Grows.refl _).alloc _) (fun w2 h2 => (RowV.two s20 s21).grow h2) (fun h => absurd h (by decide)))
                refine AllOps.cons (Does.lets (g := 19) (d := 59) (t := false) rfl (by kernel_rfl) (by kernel_rfl) (fun vq wq h => h wq (Grows.refl wq)) fun lq aq wq hk hr K hK => ?_) ?_
                · obtain ⟨v22, E22, -, r22⟩ := hk.dep hr 22 62 (by kernel_rfl) (by kernel_rfl)
                  have r22 : RowV wq v22 [p, q] := r22 wq (Grows.refl wq)
                  refine wp_of_call (f := 28) (vs := #[v22]) (by go_simp) (mul2_v wq r22 (Nat.le_trans hkp (by decide)) (Nat.le_trans (szz_mul hkp hkq) (by decide))) ?_
                  rintro e w1 ⟨u, rfl, hu, hb⟩
                  exact ⟨u, rfl, hK.out _ _ hb (fun w2 h2 => (hu).grow h2) (fun h => absurd h (by decide))⟩
                refine AllOps.cons (Does.lets (g := 19) (d := 59) (t := false) rfl (by kernel_rfl) (by kernel_rfl) (fun vq wq h => h wq (Grows.refl wq)) fun lq aq wq hk hr K hK => ?_) ?_
                · have B9 : ev aq (.tmp 9) = .pointer (some ⟨bs + 1, 0, none⟩) := hk.base 9 (by kernel_rfl) rfl
                  have hb := grows_of hk.ext
                  exact wp_of_value (op_load 9 _ B9 (Box2.below Dp.out hb)) (hK.out _ _ (Grows.refl _) (fun w2 h2 => ⟨_, _, _, _, rfl, (Sp.out.below hb).below h2⟩) (fun h => absurd h (by decide)))
                refine AllOps.cons (Does.lets (g := 19) (d := 59) (t := false) rfl (by kernel_rfl) (by kernel_rfl) (fun vq wq h => h wq (Grows.refl wq)) fun lq aq wq hk hr K hK => ?_) ?_
                · have B10 : ev aq (.tmp 10) = .pointer (some ⟨bs, 0, none⟩) := hk.base 10 (by kernel_rfl) rfl
                  have hb := grows_of hk.ext
                  exact wp_of_value (op_load 10 _ B10 (Box2.below Dq.out hb)) (hK.out _ _ (Grows.refl _) (fun w2 h2 => ⟨_, _, _, _, rfl, (Sq.out.below hb).below h2⟩) (fun h => absurd h (by decide)))
                refine AllOps.cons (Does.lets (g := 19) (d := 59) (t := false) rfl (by kernel_rfl) (by kernel_rfl) (fun vq wq h => h wq (Grows.refl wq)) fun lq aq wq hk hr K hK => ?_) ?_
                · obtain ⟨v24, E24, -, r24⟩ := hk.dep hr 24 64 (by kernel_rfl) (by kernel_rfl)
                  have r24 : WV wq v24 p := r24 wq (Grows.refl wq)
                  obtain ⟨v25, E25, -, r25⟩ := hk.dep hr 25 65 (by kernel_rfl) (by kernel_rfl)
                  have r25 : WV wq v25 q := r25 wq (Grows.refl wq)
                  refine wp_of_call (f := 15) (vs := #[v24, v25]) (by go_simp) (rmul_v wq r24 r25 (Nat.le_trans (szz_mul hkp hkq) (by decide))) ?_
                  rintro e w1 ⟨u, rfl, hu, hb⟩
                  exact ⟨u, rfl, hK.out _ _ hb (fun w2 h2 => (hu).grow h2) (fun h => absurd h (by decide))⟩
                refine AllOps.cons (Does.lets (g := 19) (d := 59) (t := false) rfl (by kernel_rfl) (by kernel_rfl) (fun vq wq h => h wq (Grows.refl wq)) fun lq aq wq hk hr K hK => ?_) ?_
                · obtain ⟨v23, E23, -, r23⟩ := hk.dep hr 23 63 (by kernel_rfl) (by kernel_rfl)
                  have r23 : ZV wq v23 ((p * q)) := r23 wq (Grows.refl wq)
                  obtain ⟨v26, E26, -, r26⟩ := hk.dep hr 26 66 (by kernel_rfl) (by kernel_rfl)
                  have r26 : ZV wq v26 ((p * q)) := r26 wq (Grows.refl wq)
                  refine wp_of_call (f := 20) (vs := #[v23, v26]) (by go_simp) (rsame_v wq r23 r26 (t := true) (decide_eq_true rfl)) ?_
                  rintro e w1 ⟨u, rfl, hu, hb⟩
                  exact ⟨u, rfl, hK.out _ _ hb (fun w2 h2 => hu) (fun h => absurd h (by decide))⟩
                refine AllOps.cons (Does.lets (g := 19) (d := 59) (t := false) rfl (by kernel_rfl) (by kernel_rfl) (fun vq wq h => h wq (Grows.refl wq)) fun lq aq wq hk hr K hK => ?_) ?_
                · obtain ⟨v27, E27, -, r27⟩ := hk.dep hr 27 67 (by kernel_rfl) (by kernel_rfl)
                  replace E27 : ev aq (.tmp 67) = .bool true := E27.trans (r27 wq (Grows.refl wq))
                  exact wp_of_value (by go_simp) (hK.out _ _ (Grows.refl _) (fun w2 h2 => rfl) (fun h => absurd h (by decide)))
                refine AllOps.cons (Does.plain rfl fun lq aq wq hk hr K hK => ?_) ?_
                · obtain ⟨v19, E19, -, r19⟩ := hk.dep hr 19 59 (by kernel_rfl) (by kernel_rfl)
                  replace E19 : ev aq (.tmp 59) = .bool false := E19.trans (r19 wq (Grows.refl wq))
                  obtain ⟨v28, E28, -, r28⟩ := hk.dep hr 28 68 (by kernel_rfl) (by kernel_rfl)
                  replace E28 : ev aq (.tmp 68) = .bool false := E28.trans (r28 wq (Grows.refl wq))
                  exact wp_of_value (by go_simp) (hK.out _ _ (Grows.refl _) (fun w2 h2 => rfl) (fun h => absurd h (by decide)))
                refine AllOps.cons (Does.plain rfl fun lq aq wq hk hr K hK => ?_) ?_
                · obtain ⟨v29, E29, -, r29⟩ := hk.dep hr 29 69 (by kernel_rfl) (by kernel_rfl)
                  replace E29 : ev aq (.tmp 69) = .bool false := E29.trans (r29 wq (Grows.refl wq))
                  exact wp_of_value (by go_simp) (hK.out _ _ (Grows.refl _) (fun w2 h2 => rfl) (fun h => absurd h (by decide)))
                refine AllOps.cons (Does.lets (g := 30) (d := 70) (t := false) rfl (by kernel_rfl) (by kernel_rfl) (fun vq wq h => h wq (Grows.refl wq)) fun lq aq wq hk hr K hK => ?_) ?_
                · have B9 : ev aq (.tmp 9) = .pointer (some ⟨bs + 1, 0, none⟩) := hk.base 9 (by kernel_rfl) rfl
                  have hb := grows_of hk.ext
                  exact wp_of_value (op_load 9 _ B9 (Box2.below Dp.out hb)) (hK.out _ _ (Grows.refl _) (fun w2 h2 => ⟨_, _, _, _, rfl, (Sp.out.below hb).below h2⟩) (fun h => absurd h (by decide)))
                refine AllOps.cons (Does.lets (g := 30) (d := 70) (t := false) rfl (by kernel_rfl) (by kernel_rfl) (fun vq wq h => h wq (Grows.refl wq)) fun lq aq wq hk hr K hK => ?_) ?_
                · have B10 : ev aq (.tmp 10) = .pointer (some ⟨bs, 0, none⟩) := hk.base 10 (by kernel_rfl) rfl
                  have hb := grows_of hk.ext
                  exact wp_of_value (op_load 10 _ B10 (Box2.below Dq.out hb)) (hK.out _ _ (Grows.refl _) (fun w2 h2 => ⟨_, _, _, _, rfl, (Sq.out.below hb).below h2⟩) (fun h => absurd h (by decide)))
                refine AllOps.cons (Does.lets (g := 30) (d := 70) (t := false) rfl (by kernel_rfl) (by kernel_rfl) (fun vq wq h => h wq (Grows.refl wq)) fun lq aq wq hk hr K hK => ?_) ?_
                · obtain ⟨v31, E31, -, r31⟩ := hk.dep hr 31 71 (by kernel_rfl) (by kernel_rfl)
                  have r31 : WV wq v31 p := r31 wq (Grows.refl wq)
                  obtain ⟨v32, E32, -, r32⟩ := hk.dep hr 32 72 (by kernel_rfl) (by kernel_rfl)
                  have r32 : WV wq v32 q := r32 wq (Grows.refl wq)
                  refine wp_of_call (f := 37) (vs := #[v31, v32]) (by go_simp) (cmp_v wq r31 r32 (k := i1) hi1.out) ?_
                  rintro e w1 ⟨u, rfl, hu, hb⟩
                  exact ⟨u, rfl, hK.out _ _ hb (fun w2 h2 => hu) (fun h => absurd h (by decide))⟩
                refine AllOps.cons (Does.lets (g := 30) (d := 70) (t := false) rfl (by kernel_rfl) (by kernel_rfl) (fun vq wq h => h wq (Grows.refl wq)) fun lq aq wq hk hr K hK => ?_) ?_
                · have B9 : ev aq (.tmp 9) = .pointer (some ⟨bs + 1, 0, none⟩) := hk.base 9 (by kernel_rfl) rfl
                  have hb := grows_of hk.ext
                  exact wp_of_value (op_load 9 _ B9 (Box2.below Dp.out hb)) (hK.out _ _ (Grows.refl _) (fun w2 h2 => ⟨_, _, _, _, rfl, (Sp.out.below hb).below h2⟩) (fun h => absurd h (by decide)))
                refine AllOps.cons (Does.lets (g := 30) (d := 70) (t := false) rfl (by kernel_rfl) (by kernel_rfl) (fun vq wq h => h wq (Grows.refl wq)) fun lq aq wq hk hr K hK => ?_) ?_
                · have B10 : ev aq (.tmp 10) = .pointer (some ⟨bs, 0, none⟩) := hk.base 10 (by kernel_rfl) rfl
                  have hb := grows_of hk.ext
                  exact wp_of_value (op_load 10 _ B10 (Box2.below Dq.out hb)) (hK.out _ _ (Grows.refl _) (fun w2 h2 => ⟨_, _, _, _, rfl, (Sq.out.below hb).below h2⟩) (fun h => absurd h (by decide)))
                refine AllOps.cons (Does.lets (g := 30) (d := 70) (t := false) rfl (by kernel_rfl) (by kernel_rfl) (fun vq wq h => h wq (Grows.refl wq)) fun lq aq wq hk hr K hK => ?_) ?_
                · obtain ⟨v34, E34, -, r34⟩ := hk.dep hr 34 74 (by kernel_rfl) (by kernel_rfl)
                  have r34 : WV wq v34 p := r34 wq (Grows.refl wq)
                  obtain ⟨v35, E35, -, r35⟩ := hk.dep hr 35 75 (by kernel_rfl) (by kernel_rfl)
                  have r35 : WV wq v35 q := r35 wq (Grows.refl wq)
                  refine wp_of_call (f := 41) (vs := #[v34, v35]) (by go_simp) (rcmp_v wq r34 r35 (k := i1) hi1.out (Nat.le_trans (szz_sub hkp hkq) (by decide))) ?_
                  rintro e w1 ⟨u, rfl, hu, hb⟩
                  exact ⟨u, rfl, hK.out _ _ hb (fun w2 h2 => hu) (fun h => absurd h (by decide))⟩
                refine AllOps.cons (Does.lets (g := 30) (d := 70) (t := false) rfl (by kernel_rfl) (by kernel_rfl) (fun vq wq h => h wq (Grows.refl wq)) fun lq aq wq hk hr K hK => ?_) ?_
                · obtain ⟨v33, E33, -, r33⟩ := hk.dep hr 33 73 (by kernel_rfl) (by kernel_rfl)
                  replace E33 : ev aq (.tmp 73) = .int .i64 i1 := E33.trans (r33 wq (Grows.refl wq))
                  obtain ⟨v36, E36, -, r36⟩ := hk.dep hr 36 76 (by kernel_rfl) (by kernel_rfl)
                  replace E36 : ev aq (.tmp 76) = .int .i64 i1 := E36.trans (r36 wq (Grows.refl wq))
                  exact wp_of_value (by go_simp) (hK.out _ _ (Grows.refl _) (fun w2 h2 => rfl) (fun h => absurd h (by decide)))
                refine AllOps.cons (Does.plain rfl fun lq aq wq hk hr K hK => ?_) ?_
                · obtain ⟨v30, E30, -, r30⟩ := hk.dep hr 30 70 (by kernel_rfl) (by kernel_rfl)
                  replace E30 : ev aq (.tmp 70) = .bool false := E30.trans (r30 wq (Grows.refl wq))
                  obtain ⟨v37, E37, -, r37⟩ := hk.dep hr 37 77 (by kernel_rfl) (by kernel_rfl)
                  replace E37 : ev aq (.tmp 77) = .bool false := E37.trans (r37 wq (Grows.refl wq))
                  exact wp_of_value (by go_simp) (hK.out _ _ (Grows.refl _) (fun w2 h2 => rfl) (fun h => absurd h (by decide)))
                exact AllOps.nil
              case fin =>
                intro V x4 hG hV hap
                have r38 : (V 38) = .bool false := hV 38 (by decide)
                clear hV hap
                simp only [List.take_succ_cons, List.take_nil, List.drop_succ_cons, List.drop_nil, putAll, Act.put, List.setIfInBounds_toArray, List.set_cons_zero, List.set_cons_succ]
                have hb := grows_of hG
                replace Dp := Lib.hid (Box2.below Dp.out hb)
                replace Sp := Lib.hid (Sp.out.below hb)
                replace Dq := Lib.hid (Box2.below Dq.out hb)
                replace Sq := Lib.hid (Sq.out.below hb)
                replace w0 := Lib.hid (w0.out.below hb)
                replace w1 := Lib.hid (w1.out.below hb)
                replace w2 := Lib.hid (w2.out.below hb)
                replace w3 := Lib.hid (w3.out.below hb)
                replace w4 := Lib.hid (w4.out.below hb)
                replace w5 := Lib.hid (w5.out.below hb)
                replace w6 := Lib.hid (w6.out.below hb)
                replace w7 := Lib.hid (w7.out.below hb)
                replace Nq := Lib.hid (Nq.out.below hb)
                replace HB := Lib.hid (HB.out.trans (Below.mono hb HB.out.size))
                clear hb hG
                rw [r38]
                clear r38
                rcases Decidable.em (-9223372036854775808 ≤ q ∧ q ≤ 9223372036854775807) with hin | hin
                · skip
                  replace hin := Lib.hid hin
                  go_upto_region 8 with fail
                  refine wp_region_calm 5 [] ([fun vq wq => WV wq vq q,
                      fun vq wq => vq = .tuple #[.int .i64 q, .bool true],
                      fun vq wq => vq = .tuple #[.int .i64 q, .bool true],
                      fun vq _ => vq = .int .i64 q,
                      fun vq _ => vq = .bool true]) (by kernel_rfl) (by decide) ?hF ?steps ?fin
                  case hF =>
                    intro j hj; cases hj
                  case steps =>
                    refine AllOps.cons (Does.plain rfl fun lq aq wq hk hr K hK => ?_) ?_
                    · have B10 : ev aq (.tmp 10) = .pointer (some ⟨bs, 0, none⟩) := hk.base 10 (by kernel_rfl) rfl
                      have hb : Below _ _ _ := hk.ext
                      exact wp_of_value (op_load 10 _ B10 (Box2.below Dq.out hb)) (hK.out _ _ (Grows.refl _) (fun w2 h2 => ⟨_, _, _, _, rfl, (Sq.out.below hb).below h2⟩) (fun h => absurd h (by decide)))
                    refine AllOps.cons (Does.plain rfl fun lq aq wq hk hr K hK => ?_) ?_
                    · obtain ⟨v0, E0, -, r0⟩ := hk.dep hr 0 80 (by kernel_rfl) (by kernel_rfl)
                      have r0 : WV wq v0 q := r0 wq (Grows.refl wq)
                      refine wp_of_call (f := 38) (vs := #[v0]) (by go_simp) (small_v wq r0 hin.out.1 hin.out.2) ?_
                      rintro e w1 ⟨u, rfl, hu, hb⟩
                      exact ⟨u, rfl, hK.out _ _ hb (fun w2 h2 => hu) (fun h => absurd h (by decide))⟩
                    refine AllOps.cons (Does.plain rfl fun lq aq wq hk hr K hK => ?_) ?_
                    · obtain ⟨v1, E1, -, r1⟩ := hk.dep hr 1 81 (by kernel_rfl) (by kernel_rfl)
                      have r1 : v1 = .tuple #[.int .i64 q, .bool true] := r1 wq (Grows.refl wq)
                      exact wp_of_value (by go_simp) (hK.out _ _ (Grows.refl _) (fun w2 h2 => r1) (fun h => absurd h (by decide)))
                    refine AllOps.cons (Does.plain rfl fun lq aq wq hk hr K hK => ?_) ?_
                    · obtain ⟨v2, E2, -, r2⟩ := hk.dep hr 2 79 (by kernel_rfl) (by kernel_rfl)
                      have r2 : v2 = .tuple #[.int .i64 q, .bool true] := r2 wq (Grows.refl wq)
                      obtain ⟨rfl⟩ := r2
                      exact wp_of_value (by go_simp) (hK.out _ _ (Grows.refl _) (fun w2 h2 => rfl) (fun h => absurd h (by decide)))
                    refine AllOps.cons (Does.plain rfl fun lq aq wq hk hr K hK => ?_) ?_
                    · obtain ⟨v2, E2, -, r2⟩ := hk.dep hr 2 79 (by kernel_rfl) (by kernel_rfl)
                      have r2 : v2 = .tuple #[.int .i64 q, .bool true] := r2 wq (Grows.refl wq)
                      obtain ⟨rfl⟩ := r2
                      exact wp_of_value (by go_simp) (hK.out _ _ (Grows.refl _) (fun w2 h2 => rfl) (fun h => absurd h (by decide)))
                    exact AllOps.nil
                  case fin =>
                    intro V x5 hG hV hap
                    have r3 : (V 3) = .int .i64 q := hV 3 (by decide)
                    have r4 : (V 4) = .bool true := hV 4 (by decide)
                    clear hV hap
                    simp only [List.take_succ_cons, List.take_zero, List.drop_succ_cons, List.drop_zero, putAll, Act.put, List.setIfInBounds_toArray, List.set_cons_zero, List.set_cons_succ]
                    have hb := (show Below _ _ _ from hG)
                    replace Dp := Lib.hid (Box2.below Dp.out hb)
                    replace Sp := Lib.hid (Sp.out.below hb)
                    replace Dq := Lib.hid (Box2.below Dq.out hb)
                    replace Sq := Lib.hid (Sq.out.below hb)
                    replace w0 := Lib.hid (w0.out.below hb)
                    replace w1 := Lib.hid (w1.out.below hb)
                    replace w2 := Lib.hid (w2.out.below hb)
                    replace w3 := Lib.hid (w3.out.below hb)
                    replace w4 := Lib.hid (w4.out.below hb)
                    replace w5 := Lib.hid (w5.out.below hb)
                    replace w6 := Lib.hid (w6.out.below hb)
                    replace w7 := Lib.hid (w7.out.below hb)
                    replace Nq := Lib.hid (Nq.out.below hb)
                    replace HB := Lib.hid (HB.out.trans (Below.mono hb HB.out.size))
                    clear hb hG
                    rw [r3, r4]
                    clear r3 r4
                    go_upto_region 9 with fail
                    refine wp_region_calm 5 [] ([fun vq wq => WV wq vq q,
                        fun vq wq => vq = .tuple #[.int .i64 q, .bool true],
                        fun vq wq => vq = .tuple #[.int .i64 q, .bool true],
                        fun vq _ => vq = .int .i64 q,
                        fun vq _ => vq = .bool true]) (by kernel_rfl) (by decide) ?hF ?steps ?fin
                    case hF =>
                      intro j hj; cases hj
                    case steps =>
                      refine AllOps.cons (Does.plain rfl fun lq aq wq hk hr K hK => ?_) ?_
                      · have B10 : ev aq (.tmp 10) = .pointer (some ⟨bs, 0, none⟩) := hk.base 10 (by kernel_rfl) rfl
                        have hb : Below _ _ _ := hk.ext
                        exact wp_of_value (op_load 10 _ B10 (Box2.below Dq.out hb)) (hK.out _ _ (Grows.refl _) (fun w2 h2 => ⟨_, _, _, _, rfl, (Sq.out.below hb).below h2⟩) (fun h => absurd h (by decide)))
                      refine AllOps.cons (Does.plain rfl fun lq aq wq hk hr K hK => ?_) ?_
                      · obtain ⟨v0, E0, -, r0⟩ := hk.dep hr 0 85 (by kernel_rfl) (by kernel_rfl)
                        have r0 : WV wq v0 q := r0 wq (Grows.refl wq)
                        refine wp_of_call (f := 42) (vs := #[v0]) (by go_simp) (rsmall_v wq r0 hin.out.1 hin.out.2) ?_
                        rintro e w1 ⟨u, rfl, hu, hb⟩
                        exact ⟨u, rfl, hK.out _ _ hb (fun w2 h2 => hu) (fun h => absurd h (by decide))⟩
                      refine AllOps.cons (Does.plain rfl fun lq aq wq hk hr K hK => ?_) ?_
                      · obtain ⟨v1, E1, -, r1⟩ := hk.dep hr 1 86 (by kernel_rfl) (by kernel_rfl)
                        have r1 : v1 = .tuple #[.int .i64 q, .bool true] := r1 wq (Grows.refl wq)
                        exact wp_of_value (by go_simp) (hK.out _ _ (Grows.refl _) (fun w2 h2 => r1) (fun h => absurd h (by decide)))
                      refine AllOps.cons (Does.plain rfl fun lq aq wq hk hr K hK => ?_) ?_
                      · obtain ⟨v2, E2, -, r2⟩ := hk.dep hr 2 84 (by kernel_rfl) (by kernel_rfl)
                        have r2 : v2 = .tuple #[.int .i64 q, .bool true] := r2 wq (Grows.refl wq)
                        obtain ⟨rfl⟩ := r2
                        exact wp_of_value (by go_simp) (hK.out _ _ (Grows.refl _) (fun w2 h2 => rfl) (fun h => absurd h (by decide)))
                      refine AllOps.cons (Does.plain rfl fun lq aq wq hk hr K hK => ?_) ?_
                      · obtain ⟨v2, E2, -, r2⟩ := hk.dep hr 2 84 (by kernel_rfl) (by kernel_rfl)
                        have r2 : v2 = .tuple #[.int .i64 q, .bool true] := r2 wq (Grows.refl wq)
                        obtain ⟨rfl⟩ := r2
                        exact wp_of_value (by go_simp) (hK.out _ _ (Grows.refl _) (fun w2 h2 => rfl) (fun h => absurd h (by decide)))
                      exact AllOps.nil
                    case fin =>
                      intro V x6 hG hV hap
                      have r3 : (V 3) = .int .i64 q := hV 3 (by decide)
                      have r4 : (V 4) = .bool true := hV 4 (by decide)
                      clear hV hap
                      simp only [List.take_succ_cons, List.take_zero, List.drop_succ_cons, List.drop_zero, putAll, Act.put, List.setIfInBounds_toArray, List.set_cons_zero, List.set_cons_succ]
                      have hb := (show Below _ _ _ from hG)
                      replace Dp := Lib.hid (Box2.below Dp.out hb)
                      replace Sp := Lib.hid (Sp.out.below hb)
                      replace Dq := Lib.hid (Box2.below Dq.out hb)
                      replace Sq := Lib.hid (Sq.out.below hb)
                      replace w0 := Lib.hid (w0.out.below hb)
                      replace w1 := Lib.hid (w1.out.below hb)
                      replace w2 := Lib.hid (w2.out.below hb)
                      replace w3 := Lib.hid (w3.out.below hb)
                      replace w4 := Lib.hid (w4.out.below hb)
                      replace w5 := Lib.hid (w5.out.below hb)
                      replace w6 := Lib.hid (w6.out.below hb)
                      replace w7 := Lib.hid (w7.out.below hb)
                      replace Nq := Lib.hid (Nq.out.below hb)
                      replace HB := Lib.hid (HB.out.trans (Below.mono hb HB.out.size))
                      clear hb hG
                      rw [r3, r4]
                      clear r3 r4
                      go_upto_region 10 with fail
                      refine wp_region_going 41 [] ([fun vq _ => vq = .int .i64 q,
                          fun vq _ => vq = .int .i64 q,
                          fun vq _ => vq = .bool false,
                          fun vq _ => vq = .bool false,
                          fun vq _ => vq = .bool true,
                          fun vq _ => vq = .bool true,
                          fun vq _ => vq = .bool false,
                          fun vq _ => vq = .bool false,
                          fun vq _ => vq = .bool false,
                          fun vq _ => vq = .agg #[.bool nq, .slice Aq iq cq],
                          fun vq _ => vq = .bool t,
                          fun vq _ => vq = .agg #[.bool nq, .slice Aq iq cq],
                          fun vq _ => vq = .bool t,
                          fun vq _ => vq = .bool false,
                          fun vq _ => vq = .bool false,
                          fun vq _ => vq = .bool false,
                          fun vq wq => WV wq vq q,
                          fun vq _ => vq = .int .i64 i2,
                          fun vq wq => WV wq vq q,
                          fun vq _ => vq = .int .i64 i2,
                          fun vq _ => vq = .bool false,
                          fun vq _ => vq = .bool false,
                          fun vq _ => vq = .bool false,
                          fun vq wq => WV wq vq q,
                          fun vq wq => ZV wq vq ((-q)),
                          fun vq wq => WV wq vq q,
                          fun vq wq => ZV wq vq ((-q)),
                          fun vq _ => vq = .bool true,
                          fun vq _ => vq = .bool false,
                          fun vq _ => vq = .bool false,
                          fun vq _ => vq = .bool false,
                          fun vq _ => vq = .pointer (some ⟨bs, 0, none⟩),
                          fun vq _ => vq = .bool nq,
                          fun vq _ => vq = .pointer (some ⟨bs, 1, none⟩),
                          fun vq _ => vq = .slice Aq iq cq,
                          fun vq wq => ZV wq vq q,
                          fun vq wq => WV wq vq q,
                          fun vq wq => ZV wq vq q,
                          fun vq _ => vq = .bool true,
                          fun vq _ => vq = .bool false,
                          fun vq _ => vq = .bool false]) (by kernel_rfl) (by kernel_rfl) (by decide) (by kernel_rfl) (by kernel_rfl) ?hF ?steps ?fin
                      case hF =>
                        intro j hj; cases hj
                      case steps =>
                        refine AllOps.cons (Does.plain rfl fun lq aq wq hk hr K hK => ?_) ?_
                        · have B11 : ev aq (.tmp 11) = .int .i64 q := hk.base 11 (by kernel_rfl) rfl
                          exact wp_of_value (by go_simp) (hK.out _ _ (Grows.refl _) (fun w2 h2 => rfl) (fun h => absurd h (by decide)))
                        refine AllOps.cons (Does.plain rfl fun lq aq wq hk hr K hK => ?_) ?_
                        · have B13 : ev aq (.tmp 13) = .int .i64 q := hk.base 13 (by kernel_rfl) rfl
                          exact wp_of_value (by go_simp) (hK.out _ _ (Grows.refl _) (fun w2 h2 => rfl) (fun h => absurd h (by decide)))
                        refine AllOps.cons (Does.plain rfl fun lq aq wq hk hr K hK => ?_) ?_
                        · obtain ⟨v0, E0, -, r0⟩ := hk.dep hr 0 89 (by kernel_rfl) (by kernel_rfl)
                          replace E0 : ev aq (.tmp 89) = .int .i64 q := E0.trans (r0 wq (Grows.refl wq))
                          obtain ⟨v1, E1, -, r1⟩ := hk.dep hr 1 90 (by kernel_rfl) (by kernel_rfl)
                          replace E1 : ev aq (.tmp 90) = .int .i64 q := E1.trans (r1 wq (Grows.refl wq))
                          exact wp_of_value (by go_simp) (hK.out _ _ (Grows.refl _) (fun w2 h2 => rfl) (fun h => absurd h (by decide)))
                        refine AllOps.cons (Does.plain rfl fun lq aq wq hk hr K hK => ?_) ?_
                        · obtain ⟨v2, E2, -, r2⟩ := hk.dep hr 2 91 (by kernel_rfl) (by kernel_rfl)
                          replace E2 : ev aq (.tmp 91) = .bool false := E2.trans (r2 wq (Grows.refl wq))
                          exact wp_of_value (by go_simp) (hK.out _ _ (Grows.refl _) (fun w2 h2 => rfl) (fun h => absurd h (by decide)))
                        refine AllOps.cons (Does.lets (g := 3) (d := 92) (t := false) rfl (by kernel_rfl) (by kernel_rfl) (fun vq wq h => h wq (Grows.refl wq)) fun lq aq wq hk hr K hK => ?_) ?_
                        · have B12 : ev aq (.tmp 12) = .bool true := hk.base 12 (by kernel_rfl) rfl
                          exact wp_of_value (by go_simp) (hK.out _ _ (Grows.refl _) (fun w2 h2 => rfl) (fun h => absurd h (by decide)))
                        refine AllOps.cons (Does.lets (g := 3) (d := 92) (t := false) rfl (by kernel_rfl) (by kernel_rfl) (fun vq wq h => h wq (Grows.refl wq)) fun lq aq wq hk hr K hK => ?_) ?_
                        · have B14 : ev aq (.tmp 14) = .bool true := hk.base 14 (by kernel_rfl) rfl
                          exact wp_of_value (by go_simp) (hK.out _ _ (Grows.refl _) (fun w2 h2 => rfl) (fun h => absurd h (by decide)))
                        refine AllOps.cons (Does.lets (g := 3) (d := 92) (t := false) rfl (by kernel_rfl) (by kernel_rfl) (fun vq wq h => h wq (Grows.refl wq)) fun lq aq wq hk hr K hK => ?_) ?_
                        · obtain ⟨v4, E4, -, r4⟩ := hk.dep hr 4 93 (by kernel_rfl) (by kernel_rfl)
                          replace E4 : ev aq (.tmp 93) = .bool true := E4.trans (r4 wq (Grows.refl wq))
                          obtain ⟨v5, E5, -, r5⟩ := hk.dep hr 5 94 (by kernel_rfl) (by kernel_rfl)
                          replace E5 : ev aq (.tmp 94) = .bool true := E5.trans (r5 wq (Grows.refl wq))
                          exact wp_of_value (by go_simp) (hK.out _ _ (Grows.refl _) (fun w2 h2 => rfl) (fun h => absurd h (by decide)))
                        refine AllOps.cons (Does.plain rfl fun lq aq wq hk hr K hK => ?_) ?_
                        · obtain ⟨v3, E3, -, r3⟩ := hk.dep hr 3 92 (by kernel_rfl) (by kernel_rfl)
                          replace E3 : ev aq (.tmp 92) = .bool false := E3.trans (r3 wq (Grows.refl wq))
                          obtain ⟨v6, E6, -, r6⟩ := hk.dep hr 6 95 (by kernel_rfl) (by kernel_rfl)
                          replace E6 : ev aq (.tmp 95) = .bool false := E6.trans (r6 wq (Grows.refl wq))
                          exact wp_of_value (by go_simp) (hK.out _ _ (Grows.refl _) (fun w2 h2 => rfl) (fun h => absurd h (by decide)))
                        refine AllOps.cons (Does.plain rfl fun lq aq wq hk hr K hK => ?_) ?_
                        · obtain ⟨v7, E7, -, r7⟩ := hk.dep hr 7 96 (by kernel_rfl) (by kernel_rfl)
                          replace E7 : ev aq (.tmp 96) = .bool false := E7.trans (r7 wq (Grows.refl wq))
                          exact wp_of_value (by go_simp) (hK.out _ _ (Grows.refl _) (fun w2 h2 => rfl) (fun h => absurd h (by decide)))
                        refine AllOps.cons (Does.lets (g := 8) (d := 97) (t := false) rfl (by kernel_rfl) (by kernel_rfl) (fun vq wq h => h wq (Grows.refl wq)) fun lq aq wq hk hr K hK => ?_) ?_
                        · have B10 : ev aq (.tmp 10) = .pointer (some ⟨bs, 0, none⟩) := hk.base 10 (by kernel_rfl) rfl
                          have hb := grows_of hk.ext
                          exact wp_of_value (op_load 10 _ B10 (Box2.below Dq.out hb)) (hK.out _ _ (Grows.refl _) (fun w2 h2 => rfl) (fun h => absurd h (by decide)))
                        refine AllOps.cons (Does.lets (g := 8) (d := 97) (t := false) rfl (by kernel_rfl) (by kernel_rfl) (fun vq wq h => h wq (Grows.refl wq)) fun lq aq wq hk hr K hK => ?_) ?_
                        · obtain ⟨v9, E9, -, r9⟩ := hk.dep hr 9 98 (by kernel_rfl) (by kernel_rfl)
                          replace E9 : ev aq (.tmp 98) = .agg #[.bool nq, .slice Aq iq cq] := E9.trans (r9 wq (Grows.refl wq))
                          refine wp_of_call (f := 33) (vs := #[.agg #[.bool nq, .slice Aq iq cq]]) (by go_simp) (brightR_v wq ⟨nq, Aq, iq, cq, lz, az, rfl, Nq.out.below (grows_of hk.ext), hlq, hzq.out, htq.out⟩) ?_
                          rintro e w1 ⟨u, rfl, hu, hb⟩
                          exact ⟨u, rfl, hK.out _ _ hb (fun w2 h2 => hu) (fun h => absurd h (by decide))⟩
                        refine AllOps.cons (Does.lets (g := 8) (d := 97) (t := false) rfl (by kernel_rfl) (by kernel_rfl) (fun vq wq h => h wq (Grows.refl wq)) fun lq aq wq hk hr K hK => ?_) ?_
                        · have B10 : ev aq (.tmp 10) = .pointer (some ⟨bs, 0, none⟩) := hk.base 10 (by kernel_rfl) rfl
                          have hb := grows_of hk.ext
                          exact wp_of_value (op_load 10 _ B10 (Box2.below Dq.out hb)) (hK.out _ _ (Grows.refl _) (fun w2 h2 => rfl) (fun h => absurd h (by decide)))
                        refine AllOps.cons (Does.lets (g := 8) (d := 97) (t := false) rfl (by kernel_rfl) (by kernel_rfl) (fun vq wq h => h wq (Grows.refl wq)) fun lq aq wq hk hr K hK => ?_) ?_
                        · obtain ⟨v11, E11, -, r11⟩ := hk.dep hr 11 100 (by kernel_rfl) (by kernel_rfl)
                          replace E11 : ev aq (.tmp 100) = .agg #[.bool nq, .slice Aq iq cq] := E11.trans (r11 wq (Grows.refl wq))
                          refine wp_of_call (f := 43) (vs := #[.agg #[.bool nq, .slice Aq iq cq]]) (by go_simp) (rright_v wq ⟨nq, Aq, iq, cq, lz, az, rfl, Nq.out.below (grows_of hk.ext), hlq, hzq.out, htq.out⟩) ?_
                          rintro e w1 ⟨u, rfl, hu, hb⟩
                          exact ⟨u, rfl, hK.out _ _ hb (fun w2 h2 => hu) (fun h => absurd h (by decide))⟩
                        refine AllOps.cons (Does.lets (g := 8) (d := 97) (t := false) rfl (by kernel_rfl) (by kernel_rfl) (fun vq wq h => h wq (Grows.refl wq)) fun lq aq wq hk hr K hK => ?_) ?_
                        · obtain ⟨v10, E10, -, r10⟩ := hk.dep hr 10 99 (by kernel_rfl) (by kernel_rfl)
                          replace E10 : ev aq (.tmp 99) = .bool t := E10.trans (r10 wq (Grows.refl wq))
                          obtain ⟨v12, E12, -, r12⟩ := hk.dep hr 12 101 (by kernel_rfl) (by kernel_rfl)
                          replace E12 : ev aq (.tmp 101) = .bool t := E12.trans (r12 wq (Grows.refl wq))
                          exact wp_of_value (by go_simp) (hK.out _ _ (Grows.refl _) (fun w2 h2 => rfl) (fun h => absurd h (by decide)))
                        refine AllOps.cons (Does.plain rfl fun lq aq wq hk hr K hK => ?_) ?_
                        · obtain ⟨v8, E8, -, r8⟩ := hk.dep hr 8 97 (by kernel_rfl) (by kernel_rfl)
                          replace E8 : ev aq (.tmp 97) = .bool false := E8.trans (r8 wq (Grows.refl wq))
                          obtain ⟨v13, E13, -, r13⟩ := hk.dep hr 13 102 (by kernel_rfl) (by kernel_rfl)
                          replace E13 : ev aq (.tmp 102) = .bool false := E13.trans (r13 wq (Grows.refl wq))
                          exact wp_of_value (by go_simp) (hK.out _ _ (Grows.refl _) (fun w2 h2 => rfl) (fun h => absurd h (by decide)))
                        refine AllOps.cons (Does.plain rfl fun lq aq wq hk hr K hK => ?_) ?_
                        · obtain ⟨v14, E14, -, r14⟩ := hk.dep hr 14 103 (by kernel_rfl) (by kernel_rfl)
                          replace E14 : ev aq (.tmp 103) = .bool false := E14.trans (r14 wq (Grows.refl wq))
                          exact wp_of_value (by go_simp) (hK.out _ _ (Grows.refl _) (fun w2 h2 => rfl) (fun h => absurd h (by decide)))
                        refine AllOps.cons (Does.lets (g := 15) (d := 104) (t := false) rfl (by kernel_rfl) (by kernel_rfl) (fun vq wq h => h wq (Grows.refl wq)) fun lq aq wq hk hr K hK => ?_) ?_
                        · have B10 : ev aq (.tmp 10) = .pointer (some ⟨bs, 0, none⟩) := hk.base 10 (by kernel_rfl) rfl
                          have hb := grows_of hk.ext
                          exact wp_of_value (op_load 10 _ B10 (Box2.below Dq.out hb)) (hK.out _ _ (Grows.refl _) (fun w2 h2 => ⟨_, _, _, _, rfl, (Sq.out.below hb).below h2⟩) (fun h => absurd h (by decide)))
                        refine AllOps.cons (Does.lets (g := 15) (d := 104) (t := false) rfl (by kernel_rfl) (by kernel_rfl) (fun vq wq h => h wq (Grows.refl wq)) fun lq aq wq hk hr K hK => ?_) ?_
                        · obtain ⟨v16, E16, -, r16⟩ := hk.dep hr 16 105 (by kernel_rfl) (by kernel_rfl)
                          have r16 : WV wq v16 q := r16 wq (Grows.refl wq)
                          refine wp_of_call (f := 36) (vs := #[v16]) (by go_simp) (sign_v wq r16 (k := i2) hi2.out) ?_
                          rintro e w1 ⟨u, rfl, hu, hb⟩
                          exact ⟨u, rfl, hK.out _ _ hb (fun w2 h2 => hu) (fun h => absurd h (by decide))⟩
                        refine AllOps.cons (Does.lets (g := 15) (d := 104) (t := false) rfl (by kernel_rfl) (by kernel_rfl) (fun vq wq h => h wq (Grows.refl wq)) fun lq aq wq hk hr K hK => ?_) ?_
                        · have B10 : ev aq (.tmp 10) = .pointer (some ⟨bs, 0, none⟩) := hk.base 10 (by kernel_rfl) rfl
                          have hb := grows_of hk.ext
                          exact wp_of_value (op_load 10 _ B10 (Box2.below Dq.out hb)) (hK.out _ _ (Grows.refl _) (fun w2 h2 => ⟨_, _, _, _, rfl, (Sq.out.below hb).below h2⟩) (fun h => absurd h (by decide)))
                        refine AllOps.cons (Does.lets (g := 15) (d := 104) (t := false) rfl (by kernel_rfl) (by kernel_rfl) (fun vq wq h => h wq (Grows.refl wq)) fun lq aq wq hk hr K hK => ?_) ?_
                        · obtain ⟨v18, E18, -, r18⟩ := hk.dep hr 18 107 (by kernel_rfl) (by kernel_rfl)
                          have r18 : WV wq v18 q := r18 wq (Grows.refl wq)
                          refine wp_of_call (f := 44) (vs := #[v18]) (by go_simp) (rsign_v wq r18 (k := i2) hi2.out) ?_
                          rintro e w1 ⟨u, rfl, hu, hb⟩
                          exact ⟨u, rfl, hK.out _ _ hb (fun w2 h2 => hu) (fun h => absurd h (by decide))⟩
                        refine AllOps.cons (Does.lets (g := 15) (d := 104) (t := false) rfl (by kernel_rfl) (by kernel_rfl) (fun vq wq h => h wq (Grows.refl wq)) fun lq aq wq hk hr K hK => ?_) ?_
                        · obtain ⟨v17, E17, -, r17⟩ := hk.dep hr 17 106 (by kernel_rfl) (by kernel_rfl)
                          replace E17 : ev aq (.tmp 106) = .int .i64 i2 := E17.trans (r17 wq (Grows.refl wq))
                          obtain ⟨v19, E19, -, r19⟩ := hk.dep hr 19 108 (by kernel_rfl) (by kernel_rfl)
                          replace E19 : ev aq (.tmp 108) = .int .i64 i2 := E19.trans (r19 wq (Grows.refl wq))
                          exact wp_of_value (by go_simp) (hK.out _ _ (Grows.refl _) (fun w2 h2 => rfl) (fun h => absurd h (by decide)))
                        refine AllOps.cons (Does.plain rfl fun lq aq wq hk hr K hK => ?_) ?_
                        · obtain ⟨v15, E15, -, r15⟩ := hk.dep hr 15 104 (by kernel_rfl) (by kernel_rfl)
                          replace E15 : ev aq (.tmp 104) = .bool false := E15.trans (r15 wq (Grows.refl wq))
                          obtain ⟨v20, E20, -, r20⟩ := hk.dep hr 20 109 (by kernel_rfl) (by kernel_rfl)
                          replace E20 : ev aq (.tmp 109) = .bool false := E20.trans (r20 wq (Grows.refl wq))
                          exact wp_of_value (by go_simp) (hK.out _ _ (Grows.refl _) (fun w2 h2 => rfl) (fun h => absurd h (by decide)))
                        refine AllOps.cons (Does.plain rfl fun lq aq wq hk hr K hK => ?_) ?_
                        · obtain ⟨v21, E21, -, r21⟩ := hk.dep hr 21 110 (by kernel_rfl) (by kernel_rfl)
                          replace E21 : ev aq (.tmp 110) = .bool false := E21.trans (r21 wq (Grows.refl wq))
                          exact wp_of_value (by go_simp) (hK.out _ _ (Grows.refl _) (fun w2 h2 => rfl) (fun h => absurd h (by decide)))
                        refine AllOps.cons (Does.lets (g := 22) (d := 111) (t := false) rfl (by kernel_rfl) (by kernel_rfl) (fun vq wq h => h wq (Grows.refl wq)) fun lq aq wq hk hr K hK => ?_) ?_
                        · have B10 : ev aq (.tmp 10) = .pointer (some ⟨bs, 0, none⟩) := hk.base 10 (by kernel_rfl) rfl
                          have hb := grows_of hk.ext
                          exact wp_of_value (op_load 10 _ B10 (Box2.below Dq.out hb)) (hK.out _ _ (Grows.refl _) (fun w2 h2 => ⟨_, _, _, _, rfl, (Sq.out.below hb).below h2⟩) (fun h => absurd h (by decide)))
                        refine AllOps.cons (Does.lets (g := 22) (d := 111) (t := false) rfl (by kernel_rfl) (by kernel_rfl) (fun vq wq h => h wq (Grows.refl wq)) fun lq aq wq hk hr K hK => ?_) ?_
                        · obtain ⟨v23, E23, -, r23⟩ := hk.dep hr 23 112 (by kernel_rfl) (by kernel_rfl)
                          have r23 : WV wq v23 q := r23 wq (Grows.refl wq)
                          refine wp_of_call (f := 30) (vs := #[v23]) (by go_simp) (neg_v wq r23 (Nat.le_trans (szz_neg hkq) (by decide))) ?_
                          rintro e w1 ⟨u, rfl, hu, hb⟩
                          exact ⟨u, rfl, hK.out _ _ hb (fun w2 h2 => (hu).grow h2) (fun h => absurd h (by decide))⟩
                        refine AllOps.cons (Does.lets (g := 22) (d := 111) (t := false) rfl (by kernel_rfl) (by kernel_rfl) (fun vq wq h => h wq (Grows.refl wq)) fun lq aq wq hk hr K hK => ?_) ?_
                        · have B10 : ev aq (.tmp 10) = .pointer (some ⟨bs, 0, none⟩) := hk.base 10 (by kernel_rfl) rfl
                          have hb := grows_of hk.ext
                          exact wp_of_value (op_load 10 _ B10 (Box2.below Dq.out hb)) (hK.out _ _ (Grows.refl _) (fun w2 h2 => ⟨_, _, _, _, rfl, (Sq.out.below hb).below h2⟩) (fun h => absurd h (by decide)))
                        refine AllOps.cons (Does.lets (g := 22) (d := 111) (t := false) rfl (by kernel_rfl) (by kernel_rfl) (fun vq wq h => h wq (Grows.refl wq)) fun lq aq wq hk hr K hK => ?_) ?_
                        · obtain ⟨v25, E25, -, r25⟩ := hk.dep hr 25 114 (by kernel_rfl) (by kernel_rfl)
                          have r25 : WV wq v25 q := r25 wq (Grows.refl wq)
                          refine wp_of_call (f := 45) (vs := #[v25]) (by go_simp) (rneg_v wq r25) ?_
                          rintro e w1 ⟨u, rfl, hu, hb⟩
                          exact ⟨u, rfl, hK.out _ _ hb (fun w2 h2 => (hu).grow h2) (fun h => absurd h (by decide))⟩
                        refine AllOps.cons (Does.lets (g := 22) (d := 111) (t := false) rfl (by kernel_rfl) (by kernel_rfl) (fun vq wq h => h wq (Grows.refl wq)) fun lq aq wq hk hr K hK => ?_) ?_
                        · obtain ⟨v24, E24, -, r24⟩ := hk.dep hr 24 113 (by kernel_rfl) (by kernel_rfl)
                          have r24 : ZV wq v24 ((-q)) := r24 wq (Grows.refl wq)
                          obtain ⟨v26, E26, -, r26⟩ := hk.dep hr 26 115 (by kernel_rfl) (by kernel_rfl)
                          have r26 : ZV wq v26 ((-q)) := r26 wq (Grows.refl wq)
                          refine wp_of_call (f := 20) (vs := #[v24, v26]) (by go_simp) (rsame_v wq r24 r26 (t := true) (decide_eq_true rfl)) ?_
                          rintro e w1 ⟨u, rfl, hu, hb⟩
                          exact ⟨u, rfl, hK.out _ _ hb (fun w2 h2 => hu) (fun h => absurd h (by decide))⟩
                        refine AllOps.cons (Does.lets (g := 22) (d := 111) (t := false) rfl (by kernel_rfl) (by kernel_rfl) (fun vq wq h => h wq (Grows.refl wq)) fun lq aq wq hk hr K hK => ?_) ?_
                        · obtain ⟨v27, E27, -, r27⟩ := hk.dep hr 27 116 (by kernel_rfl) (by kernel_rfl)
                          replace E27 : ev aq (.tmp 116) = .bool true := E27.trans (r27 wq (Grows.refl wq))
                          exact wp_of_value (by go_simp) (hK.out _ _ (Grows.refl _) (fun w2 h2 => rfl) (fun h => absurd h (by decide)))
                        refine AllOps.cons (Does.plain rfl fun lq aq wq hk hr K hK => ?_) ?_
                        · obtain ⟨v22, E22, -, r22⟩ := hk.dep hr 22 111 (by kernel_rfl) (by kernel_rfl)
                          replace E22 : ev aq (.tmp 111) = .bool false := E22.trans (r22 wq (Grows.refl wq))
                          obtain ⟨v28, E28, -, r28⟩ := hk.dep hr 28 117 (by kernel_rfl) (by kernel_rfl)
                          replace E28 : ev aq (.tmp 117) = .bool false := E28.trans (r28 wq (Grows.refl wq))
                          exact wp_of_value (by go_simp) (hK.out _ _ (Grows.refl _) (fun w2 h2 => rfl) (fun h => absurd h (by decide)))
                        refine AllOps.cons (Does.plain rfl fun lq aq wq hk hr K hK => ?_) ?_
                        · obtain ⟨v29, E29, -, r29⟩ := hk.dep hr 29 118 (by kernel_rfl) (by kernel_rfl)
                          replace E29 : ev aq (.tmp 118) = .bool false := E29.trans (r29 wq (Grows.refl wq))
                          exact wp_of_value (by go_simp) (hK.out _ _ (Grows.refl _) (fun w2 h2 => rfl) (fun h => absurd h (by decide)))
                        refine AllOps.cons (Does.lets (g := 30) (d := 119) (t := false) rfl (by kernel_rfl) (by kernel_rfl) (fun vq wq h => h wq (Grows.refl wq)) fun lq aq wq hk hr K hK => ?_) ?_
                        · have B10 : ev aq (.tmp 10) = .pointer (some ⟨bs, 0, none⟩) := hk.base 10 (by kernel_rfl) rfl
                          exact wp_of_value (by go_simp) (hK.out _ _ (Grows.refl _) (fun w2 h2 => rfl) (fun h => absurd h (by decide)))
                        refine AllOps.cons (Does.lets (g := 30) (d := 119) (t := false) rfl (by kernel_rfl) (by kernel_rfl) (fun vq wq h => h wq (Grows.refl wq)) fun lq aq wq hk hr K hK => ?_) ?_
                        · obtain ⟨v31, E31, -, r31⟩ := hk.dep hr 31 120 (by kernel_rfl) (by kernel_rfl)
                          replace E31 : ev aq (.tmp 120) = .pointer (some ⟨bs, 0, none⟩) := E31.trans (r31 wq (Grows.refl wq))
                          have hb := grows_of hk.ext
                          have c0 := (Box2.below Dq.out hb).c0
                          exact wp_of_value (by go_simp) (hK.out _ _ (Grows.refl _) (fun w2 h2 => rfl) (fun h => absurd h (by decide)))
                        refine AllOps.cons (Does.lets (g := 30) (d := 119) (t := false) rfl (by kernel_rfl) (by kernel_rfl) (fun vq wq h => h wq (Grows.refl wq)) fun lq aq wq hk hr K hK => ?_) ?_
                        · have B10 : ev aq (.tmp 10) = .pointer (some ⟨bs, 0, none⟩) := hk.base 10 (by kernel_rfl) rfl
                          exact wp_of_value (by go_simp) (hK.out _ _ (Grows.refl _) (fun w2 h2 => rfl) (fun h => absurd h (by decide)))
                        refine AllOps.cons (Does.lets (g := 30) (d := 119) (t := false) rfl (by kernel_rfl) (by kernel_rfl) (fun vq wq h => h wq (Grows.refl wq)) fun lq aq wq hk hr K hK => ?_) ?_
                        · obtain ⟨v33, E33, -, r33⟩ := hk.dep hr 33 122 (by kernel_rfl) (by kernel_rfl)
                          replace E33 : ev aq (.tmp 122) = .pointer (some ⟨bs, 1, none⟩) := E33.trans (r33 wq (Grows.refl wq))
                          have hb := grows_of hk.ext
                          have c1 := (Box2.below Dq.out hb).c1
                          exact wp_of_value (by go_simp) (hK.out _ _ (Grows.refl _) (fun w2 h2 => rfl) (fun h => absurd h (by decide)))
                        refine AllOps.cons (Does.lets (g := 30) (d := 119) (t := false) rfl (by kernel_rfl) (by kernel_rfl) (fun vq wq h => h wq (Grows.refl wq)) fun lq aq wq hk hr K hK => ?_) ?_
                        · obtain ⟨v32, E32, -, r32⟩ := hk.dep hr 32 121 (by kernel_rfl) (by kernel_rfl)
                          replace E32 : ev aq (.tmp 121) = .bool nq := E32.trans (r32 wq (Grows.refl wq))
                          obtain ⟨v34, E34, -, r34⟩ := hk.dep hr 34 123 (by kernel_rfl) (by kernel_rfl)
                          replace E34 : ev aq (.tmp 123) = .slice Aq iq cq := E34.trans (r34 wq (Grows.refl wq))
                          refine wp_of_call (f := 34) (vs := #[.bool nq, .slice Aq iq cq]) (by go_simp) (of_v wq nq (Nq.out.below (grows_of hk.ext)).lv hzq.out.symm (Nat.le_trans hkq (by decide))) ?_
                          rintro e w1 ⟨u, rfl, hu, hb⟩
                          exact ⟨u, rfl, hK.out _ _ hb (fun w2 h2 => (hu).grow h2) (fun h => absurd h (by decide))⟩
                        refine AllOps.cons (Does.lets (g := 30) (d := 119) (t := false) rfl (by kernel_rfl) (by kernel_rfl) (fun vq wq h => h wq (Grows.refl wq)) fun lq aq wq hk hr K hK => ?_) ?_
                        · have B10 : ev aq (.tmp 10) = .pointer (some ⟨bs, 0, none⟩) := hk.base 10 (by kernel_rfl) rfl
                          have hb := grows_of hk.ext
                          exact wp_of_value (op_load 10 _ B10 (Box2.below Dq.out hb)) (hK.out _ _ (Grows.refl _) (fun w2 h2 => ⟨_, _, _, _, rfl, (Sq.out.below hb).below h2⟩) (fun h => absurd h (by decide)))
                        refine AllOps.cons (Does.lets (g := 30) (d := 119) (t := false) rfl (by kernel_rfl) (by kernel_rfl) (fun vq wq h => h wq (Grows.refl wq)) fun lq aq wq hk hr K hK => ?_) ?_
                        · obtain ⟨v36, E36, -, r36⟩ := hk.dep hr 36 125 (by kernel_rfl) (by kernel_rfl)
                          have r36 : WV wq v36 q := r36 wq (Grows.refl wq)
                          refine wp_of_call (f := 46) (vs := #[v36]) (by go_simp) (rmade_v wq r36) ?_
                          rintro e w1 ⟨u, rfl, hu, hb⟩
                          exact ⟨u, rfl, hK.out _ _ hb (fun w2 h2 => (hu).grow h2) (fun h => absurd h (by decide))⟩
                        refine AllOps.cons (Does.lets (g := 30) (d := 119) (t := false) rfl (by kernel_rfl) (by kernel_rfl) (fun vq wq h => h wq (Grows.refl wq)) fun lq aq wq hk hr K hK => ?_) ?_
                        · obtain ⟨v35, E35, -, r35⟩ := hk.dep hr 35 124 (by kernel_rfl) (by kernel_rfl)
                          have r35 : ZV wq v35 q := r35 wq (Grows.refl wq)
                          obtain ⟨v37, E37, -, r37⟩ := hk.dep hr 37 126 (by kernel_rfl) (by kernel_rfl)
                          have r37 : ZV wq v37 q := r37 wq (Grows.refl wq)
                          refine wp_of_call (f := 20) (vs := #[v35, v37]) (by go_simp) (rsame_v wq r35 r37 (t := true) (decide_eq_true rfl)) ?_
                          rintro e w1 ⟨u, rfl, hu, hb⟩
                          exact ⟨u, rfl, hK.out _ _ hb (fun w2 h2 => hu) (fun h => absurd h (by decide))⟩
                        refine AllOps.cons (Does.lets (g := 30) (d := 119) (t := false) rfl (by kernel_rfl) (by kernel_rfl) (fun vq wq h => h wq (Grows.refl wq)) fun lq aq wq hk hr K hK => ?_) ?_
                        · obtain ⟨v38, E38, -, r38⟩ := hk.dep hr 38 127 (by kernel_rfl) (by kernel_rfl)
                          replace E38 : ev aq (.tmp 127) = .bool true := E38.trans (r38 wq (Grows.refl wq))
                          exact wp_of_value (by go_simp) (hK.out _ _ (Grows.refl _) (fun w2 h2 => rfl) (fun h => absurd h (by decide)))
                        refine AllOps.cons (Does.plain rfl fun lq aq wq hk hr K hK => ?_) ?_
                        · obtain ⟨v30, E30, -, r30⟩ := hk.dep hr 30 119 (by kernel_rfl) (by kernel_rfl)
                          replace E30 : ev aq (.tmp 119) = .bool false := E30.trans (r30 wq (Grows.refl wq))
                          obtain ⟨v39, E39, -, r39⟩ := hk.dep hr 39 128 (by kernel_rfl) (by kernel_rfl)
                          replace E39 : ev aq (.tmp 128) = .bool false := E39.trans (r39 wq (Grows.refl wq))
                          exact wp_of_value (by go_simp) (hK.out _ _ (Grows.refl _) (fun w2 h2 => rfl) (fun h => absurd h (by decide)))
                        exact AllOps.nil
                      case fin =>
                        intro V x7 hG hV hap
                        have r40 : (V 40) = .bool false := hV 40 (by decide)
                        clear hV hap
                        simp only [List.take_succ_cons, List.take_nil, List.drop_succ_cons, List.drop_nil, putAll, Act.put, List.setIfInBounds_toArray, List.set_cons_zero, List.set_cons_succ]
                        have hb := grows_of hG
                        replace Dp := Lib.hid (Box2.below Dp.out hb)
                        replace Sp := Lib.hid (Sp.out.below hb)
                        replace Dq := Lib.hid (Box2.below Dq.out hb)
                        replace Sq := Lib.hid (Sq.out.below hb)
                        replace w0 := Lib.hid (w0.out.below hb)
                        replace w1 := Lib.hid (w1.out.below hb)
                        replace w2 := Lib.hid (w2.out.below hb)
                        replace w3 := Lib.hid (w3.out.below hb)
                        replace w4 := Lib.hid (w4.out.below hb)
                        replace w5 := Lib.hid (w5.out.below hb)
                        replace w6 := Lib.hid (w6.out.below hb)
                        replace w7 := Lib.hid (w7.out.below hb)
                        replace Nq := Lib.hid (Nq.out.below hb)
                        replace HB := Lib.hid (HB.out.trans (Below.mono hb HB.out.size))
                        clear hb hG
                        rw [r40]
                        clear r40
                        go_wp2_with fail
                        go_roundw
                        case rel =>
                          first
                            | exact ⟨k + 1, by omega, (by first | rfl | simp), HB.out, w0.out, w1.out, w2.out, w3.out, w4.out, w5.out, w6.out, w7.out⟩
                            | ((repeat apply Exists.intro); refine ⟨?_, rfl⟩; exact ⟨k + 1, by omega, (by first | rfl | simp), HB.out, w0.out, w1.out, w2.out, w3.out, w4.out, w5.out, w6.out, w7.out⟩)
                        case measure => simp [intOf]; omega
                · skip
                  replace hin := Lib.hid (show q < -9223372036854775808 ∨ 9223372036854775807 < q by omega)
                  go_upto_region 8 with fail
                  refine wp_region_calm 5 [] ([fun vq wq => WV wq vq q,
                      fun vq wq => vq = .tuple #[.int .i64 0, .bool false],
                      fun vq wq => vq = .tuple #[.int .i64 0, .bool false],
                      fun vq _ => vq = .int .i64 0,
                      fun vq _ => vq = .bool false]) (by kernel_rfl) (by decide) ?hF ?steps ?fin
                  case hF =>
                    intro j hj; cases hj
                  case steps =>
                    refine AllOps.cons (Does.plain rfl fun lq aq wq hk hr K hK => ?_) ?_
                    · have B10 : ev aq (.tmp 10) = .pointer (some ⟨bs, 0, none⟩) := hk.base 10 (by kernel_rfl) rfl
                      have hb : Below _ _ _ := hk.ext
                      exact wp_of_value (op_load 10 _ B10 (Box2.below Dq.out hb)) (hK.out _ _ (Grows.refl _) (fun w2 h2 => ⟨_, _, _, _, rfl, (Sq.out.below hb).below h2⟩) (fun h => absurd h (by decide)))
                    refine AllOps.cons (Does.plain rfl fun lq aq wq hk hr K hK => ?_) ?_
                    · obtain ⟨v0, E0, -, r0⟩ := hk.dep hr 0 80 (by kernel_rfl) (by kernel_rfl)
                      have r0 : WV wq v0 q := r0 wq (Grows.refl wq)
                      refine wp_of_call (f := 38) (vs := #[v0]) (by go_simp) (small0_v wq r0 hin.out) ?_
                      rintro e w1 ⟨u, rfl, hu, hb⟩
                      exact ⟨u, rfl, hK.out _ _ hb (fun w2 h2 => hu) (fun h => absurd h (by decide))⟩
                    refine AllOps.cons (Does.plain rfl fun lq aq wq hk hr K hK => ?_) ?_
                    · obtain ⟨v1, E1, -, r1⟩ := hk.dep hr 1 81 (by kernel_rfl) (by kernel_rfl)
                      have r1 : v1 = .tuple #[.int .i64 0, .bool false] := r1 wq (Grows.refl wq)
                      exact wp_of_value (by go_simp) (hK.out _ _ (Grows.refl _) (fun w2 h2 => r1) (fun h => absurd h (by decide)))
                    refine AllOps.cons (Does.plain rfl fun lq aq wq hk hr K hK => ?_) ?_
                    · obtain ⟨v2, E2, -, r2⟩ := hk.dep hr 2 79 (by kernel_rfl) (by kernel_rfl)
                      have r2 : v2 = .tuple #[.int .i64 0, .bool false] := r2 wq (Grows.refl wq)
                      obtain ⟨rfl⟩ := r2
                      exact wp_of_value (by go_simp) (hK.out _ _ (Grows.refl _) (fun w2 h2 => rfl) (fun h => absurd h (by decide)))
                    refine AllOps.cons (Does.plain rfl fun lq aq wq hk hr K hK => ?_) ?_
                    · obtain ⟨v2, E2, -, r2⟩ := hk.dep hr 2 79 (by kernel_rfl) (by kernel_rfl)
                      have r2 : v2 = .tuple #[.int .i64 0, .bool false] := r2 wq (Grows.refl wq)
                      obtain ⟨rfl⟩ := r2
                      exact wp_of_value (by go_simp) (hK.out _ _ (Grows.refl _) (fun w2 h2 => rfl) (fun h => absurd h (by decide)))
                    exact AllOps.nil
                  case fin =>
                    intro V x5 hG hV hap
                    have r3 : (V 3) = .int .i64 0 := hV 3 (by decide)
                    have r4 : (V 4) = .bool false := hV 4 (by decide)
                    clear hV hap
                    simp only [List.take_succ_cons, List.take_zero, List.drop_succ_cons, List.drop_zero, putAll, Act.put, List.setIfInBounds_toArray, List.set_cons_zero, List.set_cons_succ]
                    have hb := (show Below _ _ _ from hG)
                    replace Dp := Lib.hid (Box2.below Dp.out hb)
                    replace Sp := Lib.hid (Sp.out.below hb)
                    replace Dq := Lib.hid (Box2.below Dq.out hb)
                    replace Sq := Lib.hid (Sq.out.below hb)
                    replace w0 := Lib.hid (w0.out.below hb)
                    replace w1 := Lib.hid (w1.out.below hb)
                    replace w2 := Lib.hid (w2.out.below hb)
                    replace w3 := Lib.hid (w3.out.below hb)
                    replace w4 := Lib.hid (w4.out.below hb)
                    replace w5 := Lib.hid (w5.out.below hb)
                    replace w6 := Lib.hid (w6.out.below hb)
                    replace w7 := Lib.hid (w7.out.below hb)
                    replace Nq := Lib.hid (Nq.out.below hb)
                    replace HB := Lib.hid (HB.out.trans (Below.mono hb HB.out.size))
                    clear hb hG
                    rw [r3, r4]
                    clear r3 r4
                    go_upto_region 9 with fail
                    refine wp_region_calm 5 [] ([fun vq wq => WV wq vq q,
                        fun vq wq => vq = .tuple #[.int .i64 0, .bool false],
                        fun vq wq => vq = .tuple #[.int .i64 0, .bool false],
                        fun vq _ => vq = .int .i64 0,
                        fun vq _ => vq = .bool false]) (by kernel_rfl) (by decide) ?hF ?steps ?fin
                    case hF =>
                      intro j hj; cases hj
                    case steps =>
                      refine AllOps.cons (Does.plain rfl fun lq aq wq hk hr K hK => ?_) ?_
                      · have B10 : ev aq (.tmp 10) = .pointer (some ⟨bs, 0, none⟩) := hk.base 10 (by kernel_rfl) rfl
                        have hb : Below _ _ _ := hk.ext
                        exact wp_of_value (op_load 10 _ B10 (Box2.below Dq.out hb)) (hK.out _ _ (Grows.refl _) (fun w2 h2 => ⟨_, _, _, _, rfl, (Sq.out.below hb).below h2⟩) (fun h => absurd h (by decide)))
                      refine AllOps.cons (Does.plain rfl fun lq aq wq hk hr K hK => ?_) ?_
                      · obtain ⟨v0, E0, -, r0⟩ := hk.dep hr 0 85 (by kernel_rfl) (by kernel_rfl)
                        have r0 : WV wq v0 q := r0 wq (Grows.refl wq)
                        refine wp_of_call (f := 42) (vs := #[v0]) (by go_simp) (rsmall0_v wq r0 (Nat.le_trans hkq (by decide)) hin.out) ?_
                        rintro e w1 ⟨u, rfl, hu, hb⟩
                        exact ⟨u, rfl, hK.out _ _ hb (fun w2 h2 => hu) (fun h => absurd h (by decide))⟩
                      refine AllOps.cons (Does.plain rfl fun lq aq wq hk hr K hK => ?_) ?_
                      · obtain ⟨v1, E1, -, r1⟩ := hk.dep hr 1 86 (by kernel_rfl) (by kernel_rfl)
                        have r1 : v1 = .tuple #[.int .i64 0, .bool false] := r1 wq (Grows.refl wq)
                        exact wp_of_value (by go_simp) (hK.out _ _ (Grows.refl _) (fun w2 h2 => r1) (fun h => absurd h (by decide)))
                      refine AllOps.cons (Does.plain rfl fun lq aq wq hk hr K hK => ?_) ?_
                      · obtain ⟨v2, E2, -, r2⟩ := hk.dep hr 2 84 (by kernel_rfl) (by kernel_rfl)
                        have r2 : v2 = .tuple #[.int .i64 0, .bool false] := r2 wq (Grows.refl wq)
                        obtain ⟨rfl⟩ := r2
                        exact wp_of_value (by go_simp) (hK.out _ _ (Grows.refl _) (fun w2 h2 => rfl) (fun h => absurd h (by decide)))
                      refine AllOps.cons (Does.plain rfl fun lq aq wq hk hr K hK => ?_) ?_
                      · obtain ⟨v2, E2, -, r2⟩ := hk.dep hr 2 84 (by kernel_rfl) (by kernel_rfl)
                        have r2 : v2 = .tuple #[.int .i64 0, .bool false] := r2 wq (Grows.refl wq)
                        obtain ⟨rfl⟩ := r2
                        exact wp_of_value (by go_simp) (hK.out _ _ (Grows.refl _) (fun w2 h2 => rfl) (fun h => absurd h (by decide)))
                      exact AllOps.nil
                    case fin =>
                      intro V x6 hG hV hap
                      have r3 : (V 3) = .int .i64 0 := hV 3 (by decide)
                      have r4 : (V 4) = .bool false := hV 4 (by decide)
                      clear hV hap
                      simp only [List.take_succ_cons, List.take_zero, List.drop_succ_cons, List.drop_zero, putAll, Act.put, List.setIfInBounds_toArray, List.set_cons_zero, List.set_cons_succ]
                      have hb := (show Below _ _ _ from hG)
                      replace Dp := Lib.hid (Box2.below Dp.out hb)
                      replace Sp := Lib.hid (Sp.out.below hb)
                      replace Dq := Lib.hid (Box2.below Dq.out hb)
                      replace Sq := Lib.hid (Sq.out.below hb)
                      replace w0 := Lib.hid (w0.out.below hb)
                      replace w1 := Lib.hid (w1.out.below hb)
                      replace w2 := Lib.hid (w2.out.below hb)
                      replace w3 := Lib.hid (w3.out.below hb)
                      replace w4 := Lib.hid (w4.out.below hb)
                      replace w5 := Lib.hid (w5.out.below hb)
                      replace w6 := Lib.hid (w6.out.below hb)
                      replace w7 := Lib.hid (w7.out.below hb)
                      replace Nq := Lib.hid (Nq.out.below hb)
                      replace HB := Lib.hid (HB.out.trans (Below.mono hb HB.out.size))
                      clear hb hG
                      rw [r3, r4]
                      clear r3 r4
                      go_upto_region 10 with fail
                      refine wp_region_going 41 [] ([fun vq _ => vq = .int .i64 0,
                          fun vq _ => vq = .int .i64 0,
                          fun vq _ => vq = .bool false,
                          fun vq _ => vq = .bool false,
                          fun vq _ => vq = .bool false,
                          fun vq _ => vq = .bool false,
                          fun vq _ => vq = .bool false,
                          fun vq _ => vq = .bool false,
                          fun vq _ => vq = .bool false,
                          fun vq _ => vq = .agg #[.bool nq, .slice Aq iq cq],
                          fun vq _ => vq = .bool t,
                          fun vq _ => vq = .agg #[.bool nq, .slice Aq iq cq],
                          fun vq _ => vq = .bool t,
                          fun vq _ => vq = .bool false,
                          fun vq _ => vq = .bool false,
                          fun vq _ => vq = .bool false,
                          fun vq wq => WV wq vq q,
                          fun vq _ => vq = .int .i64 i2,
                          fun vq wq => WV wq vq q,
                          fun vq _ => vq = .int .i64 i2,
                          fun vq _ => vq = .bool false,
                          fun vq _ => vq = .bool false,
                          fun vq _ => vq = .bool false,
                          fun vq wq => WV wq vq q,
                          fun vq wq => ZV wq vq ((-q)),
                          fun vq wq => WV wq vq q,
                          fun vq wq => ZV wq vq ((-q)),
                          fun vq _ => vq = .bool true,
                          fun vq _ => vq = .bool false,
                          fun vq _ => vq = .bool false,
                          fun vq _ => vq = .bool false,
                          fun vq _ => vq = .pointer (some ⟨bs, 0, none⟩),
                          fun vq _ => vq = .bool nq,
                          fun vq _ => vq = .pointer (some ⟨bs, 1, none⟩),
                          fun vq _ => vq = .slice Aq iq cq,
                          fun vq wq => ZV wq vq q,
                          fun vq wq => WV wq vq q,
                          fun vq wq => ZV wq vq q,
                          fun vq _ => vq = .bool true,
                          fun vq _ => vq = .bool false,
                          fun vq _ => vq = .bool false]) (by kernel_rfl) (by kernel_rfl) (by decide) (by kernel_rfl) (by kernel_rfl) ?hF ?steps ?fin
                      case hF =>
                        intro j hj; cases hj
                      case steps =>
                        refine AllOps.cons (Does.plain rfl fun lq aq wq hk hr K hK => ?_) ?_
                        · have B11 : ev aq (.tmp 11) = .int .i64 0 := hk.base 11 (by kernel_rfl) rfl
                          exact wp_of_value (by go_simp) (hK.out _ _ (Grows.refl _) (fun w2 h2 => rfl) (fun h => absurd h (by decide)))
                        refine AllOps.cons (Does.plain rfl fun lq aq wq hk hr K hK => ?_) ?_
                        · have B13 : ev aq (.tmp 13) = .int .i64 0 := hk.base 13 (by kernel_rfl) rfl
                          exact wp_of_value (by go_simp) (hK.out _ _ (Grows.refl _) (fun w2 h2 => rfl) (fun h => absurd h (by decide)))
                        refine AllOps.cons (Does.plain rfl fun lq aq wq hk hr K hK => ?_) ?_
                        · obtain ⟨v0, E0, -, r0⟩ := hk.dep hr 0 89 (by kernel_rfl) (by kernel_rfl)
                          replace E0 : ev aq (.tmp 89) = .int .i64 0 := E0.trans (r0 wq (Grows.refl wq))
                          obtain ⟨v1, E1, -, r1⟩ := hk.dep hr 1 90 (by kernel_rfl) (by kernel_rfl)
                          replace E1 : ev aq (.tmp 90) = .int .i64 0 := E1.trans (r1 wq (Grows.refl wq))
                          exact wp_of_value (by go_simp) (hK.out _ _ (Grows.refl _) (fun w2 h2 => rfl) (fun h => absurd h (by decide)))
                        refine AllOps.cons (Does.plain rfl fun lq aq wq hk hr K hK => ?_) ?_
                        · obtain ⟨v2, E2, -, r2⟩ := hk.dep hr 2 91 (by kernel_rfl) (by kernel_rfl)
                          replace E2 : ev aq (.tmp 91) = .bool false := E2.trans (r2 wq (Grows.refl wq))
                          exact wp_of_value (by go_simp) (hK.out _ _ (Grows.refl _) (fun w2 h2 => rfl) (fun h => absurd h (by decide)))
                        refine AllOps.cons (Does.lets (g := 3) (d := 92) (t := false) rfl (by kernel_rfl) (by kernel_rfl) (fun vq wq h => h wq (Grows.refl wq)) fun lq aq wq hk hr K hK => ?_) ?_
                        · have B12 : ev aq (.tmp 12) = .bool false := hk.base 12 (by kernel_rfl) rfl
                          exact wp_of_value (by go_simp) (hK.out _ _ (Grows.refl _) (fun w2 h2 => rfl) (fun h => absurd h (by decide)))
                        refine AllOps.cons (Does.lets (g := 3) (d := 92) (t := false) rfl (by kernel_rfl) (by kernel_rfl) (fun vq wq h => h wq (Grows.refl wq)) fun lq aq wq hk hr K hK => ?_) ?_
                        · have B14 : ev aq (.tmp 14) = .bool false := hk.base 14 (by kernel_rfl) rfl
                          exact wp_of_value (by go_simp) (hK.out _ _ (Grows.refl _) (fun w2 h2 => rfl) (fun h => absurd h (by decide)))
                        refine AllOps.cons (Does.lets (g := 3) (d := 92) (t := false) rfl (by kernel_rfl) (by kernel_rfl) (fun vq wq h => h wq (Grows.refl wq)) fun lq aq wq hk hr K hK => ?_) ?_
                        · obtain ⟨v4, E4, -, r4⟩ := hk.dep hr 4 93 (by kernel_rfl) (by kernel_rfl)
                          replace E4 : ev aq (.tmp 93) = .bool false := E4.trans (r4 wq (Grows.refl wq))
                          obtain ⟨v5, E5, -, r5⟩ := hk.dep hr 5 94 (by kernel_rfl) (by kernel_rfl)
                          replace E5 : ev aq (.tmp 94) = .bool false := E5.trans (r5 wq (Grows.refl wq))
                          exact wp_of_value (by go_simp) (hK.out _ _ (Grows.refl _) (fun w2 h2 => rfl) (fun h => absurd h (by decide)))
                        refine AllOps.cons (Does.plain rfl fun lq aq wq hk hr K hK => ?_) ?_
                        · obtain ⟨v3, E3, -, r3⟩ := hk.dep hr 3 92 (by kernel_rfl) (by kernel_rfl)
                          replace E3 : ev aq (.tmp 92) = .bool false := E3.trans (r3 wq (Grows.refl wq))
                          obtain ⟨v6, E6, -, r6⟩ := hk.dep hr 6 95 (by kernel_rfl) (by kernel_rfl)
                          replace E6 : ev aq (.tmp 95) = .bool false := E6.trans (r6 wq (Grows.refl wq))
                          exact wp_of_value (by go_simp) (hK.out _ _ (Grows.refl _) (fun w2 h2 => rfl) (fun h => absurd h (by decide)))
                        refine AllOps.cons (Does.plain rfl fun lq aq wq hk hr K hK => ?_) ?_
                        · obtain ⟨v7, E7, -, r7⟩ := hk.dep hr 7 96 (by kernel_rfl) (by kernel_rfl)
                          replace E7 : ev aq (.tmp 96) = .bool false := E7.trans (r7 wq (Grows.refl wq))
                          exact wp_of_value (by go_simp) (hK.out _ _ (Grows.refl _) (fun w2 h2 => rfl) (fun h => absurd h (by decide)))
                        refine AllOps.cons (Does.lets (g := 8) (d := 97) (t := false) rfl (by kernel_rfl) (by kernel_rfl) (fun vq wq h => h wq (Grows.refl wq)) fun lq aq wq hk hr K hK => ?_) ?_
                        · have B10 : ev aq (.tmp 10) = .pointer (some ⟨bs, 0, none⟩) := hk.base 10 (by kernel_rfl) rfl
                          have hb := grows_of hk.ext
                          exact wp_of_value (op_load 10 _ B10 (Box2.below Dq.out hb)) (hK.out _ _ (Grows.refl _) (fun w2 h2 => rfl) (fun h => absurd h (by decide)))
                        refine AllOps.cons (Does.lets (g := 8) (d := 97) (t := false) rfl (by kernel_rfl) (by kernel_rfl) (fun vq wq h => h wq (Grows.refl wq)) fun lq aq wq hk hr K hK => ?_) ?_
                        · obtain ⟨v9, E9, -, r9⟩ := hk.dep hr 9 98 (by kernel_rfl) (by kernel_rfl)
                          replace E9 : ev aq (.tmp 98) = .agg #[.bool nq, .slice Aq iq cq] := E9.trans (r9 wq (Grows.refl wq))
                          refine wp_of_call (f := 33) (vs := #[.agg #[.bool nq, .slice Aq iq cq]]) (by go_simp) (brightR_v wq ⟨nq, Aq, iq, cq, lz, az, rfl, Nq.out.below (grows_of hk.ext), hlq, hzq.out, htq.out⟩) ?_
                          rintro e w1 ⟨u, rfl, hu, hb⟩
                          exact ⟨u, rfl, hK.out _ _ hb (fun w2 h2 => hu) (fun h => absurd h (by decide))⟩
                        refine AllOps.cons (Does.lets (g := 8) (d := 97) (t := false) rfl (by kernel_rfl) (by kernel_rfl) (fun vq wq h => h wq (Grows.refl wq)) fun lq aq wq hk hr K hK => ?_) ?_
                        · have B10 : ev aq (.tmp 10) = .pointer (some ⟨bs, 0, none⟩) := hk.base 10 (by kernel_rfl) rfl
                          have hb := grows_of hk.ext
                          exact wp_of_value (op_load 10 _ B10 (Box2.below Dq.out hb)) (hK.out _ _ (Grows.refl _) (fun w2 h2 => rfl) (fun h => absurd h (by decide)))
                        refine AllOps.cons (Does.lets (g := 8) (d := 97) (t := false) rfl (by kernel_rfl) (by kernel_rfl) (fun vq wq h => h wq (Grows.refl wq)) fun lq aq wq hk hr K hK => ?_) ?_
                        · obtain ⟨v11, E11, -, r11⟩ := hk.dep hr 11 100 (by kernel_rfl) (by kernel_rfl)
                          replace E11 : ev aq (.tmp 100) = .agg #[.bool nq, .slice Aq iq cq] := E11.trans (r11 wq (Grows.refl wq))
                          refine wp_of_call (f := 43) (vs := #[.agg #[.bool nq, .slice Aq iq cq]]) (by go_simp) (rright_v wq ⟨nq, Aq, iq, cq, lz, az, rfl, Nq.out.below (grows_of hk.ext), hlq, hzq.out, htq.out⟩) ?_
                          rintro e w1 ⟨u, rfl, hu, hb⟩
                          exact ⟨u, rfl, hK.out _ _ hb (fun w2 h2 => hu) (fun h => absurd h (by decide))⟩
                        refine AllOps.cons (Does.lets (g := 8) (d := 97) (t := false) rfl (by kernel_rfl) (by kernel_rfl) (fun vq wq h => h wq (Grows.refl wq)) fun lq aq wq hk hr K hK => ?_) ?_
                        · obtain ⟨v10, E10, -, r10⟩ := hk.dep hr 10 99 (by kernel_rfl) (by kernel_rfl)
                          replace E10 : ev aq (.tmp 99) = .bool t := E10.trans (r10 wq (Grows.refl wq))
                          obtain ⟨v12, E12, -, r12⟩ := hk.dep hr 12 101 (by kernel_rfl) (by kernel_rfl)
                          replace E12 : ev aq (.tmp 101) = .bool t := E12.trans (r12 wq (Grows.refl wq))
                          exact wp_of_value (by go_simp) (hK.out _ _ (Grows.refl _) (fun w2 h2 => rfl) (fun h => absurd h (by decide)))
                        refine AllOps.cons (Does.plain rfl fun lq aq wq hk hr K hK => ?_) ?_
                        · obtain ⟨v8, E8, -, r8⟩ := hk.dep hr 8 97 (by kernel_rfl) (by kernel_rfl)
                          replace E8 : ev aq (.tmp 97) = .bool false := E8.trans (r8 wq (Grows.refl wq))
                          obtain ⟨v13, E13, -, r13⟩ := hk.dep hr 13 102 (by kernel_rfl) (by kernel_rfl)
                          replace E13 : ev aq (.tmp 102) = .bool false := E13.trans (r13 wq (Grows.refl wq))
                          exact wp_of_value (by go_simp) (hK.out _ _ (Grows.refl _) (fun w2 h2 => rfl) (fun h => absurd h (by decide)))
                        refine AllOps.cons (Does.plain rfl fun lq aq wq hk hr K hK => ?_) ?_
                        · obtain ⟨v14, E14, -, r14⟩ := hk.dep hr 14 103 (by kernel_rfl) (by kernel_rfl)
                          replace E14 : ev aq (.tmp 103) = .bool false := E14.trans (r14 wq (Grows.refl wq))
                          exact wp_of_value (by go_simp) (hK.out _ _ (Grows.refl _) (fun w2 h2 => rfl) (fun h => absurd h (by decide)))
                        refine AllOps.cons (Does.lets (g := 15) (d := 104) (t := false) rfl (by kernel_rfl) (by kernel_rfl) (fun vq wq h => h wq (Grows.refl wq)) fun lq aq wq hk hr K hK => ?_) ?_
                        · have B10 : ev aq (.tmp 10) = .pointer (some ⟨bs, 0, none⟩) := hk.base 10 (by kernel_rfl) rfl
                          have hb := grows_of hk.ext
                          exact wp_of_value (op_load 10 _ B10 (Box2.below Dq.out hb)) (hK.out _ _ (Grows.refl _) (fun w2 h2 => ⟨_, _, _, _, rfl, (Sq.out.below hb).below h2⟩) (fun h => absurd h (by decide)))
                        refine AllOps.cons (Does.lets (g := 15) (d := 104) (t := false) rfl (by kernel_rfl) (by kernel_rfl) (fun vq wq h => h wq (Grows.refl wq)) fun lq aq wq hk hr K hK => ?_) ?_
                        · obtain ⟨v16, E16, -, r16⟩ := hk.dep hr 16 105 (by kernel_rfl) (by kernel_rfl)
                          have r16 : WV wq v16 q := r16 wq (Grows.refl wq)
                          refine wp_of_call (f := 36) (vs := #[v16]) (by go_simp) (sign_v wq r16 (k := i2) hi2.out) ?_
                          rintro e w1 ⟨u, rfl, hu, hb⟩
                          exact ⟨u, rfl, hK.out _ _ hb (fun w2 h2 => hu) (fun h => absurd h (by decide))⟩
                        refine AllOps.cons (Does.lets (g := 15) (d := 104) (t := false) rfl (by kernel_rfl) (by kernel_rfl) (fun vq wq h => h wq (Grows.refl wq)) fun lq aq wq hk hr K hK => ?_) ?_
                        · have B10 : ev aq (.tmp 10) = .pointer (some ⟨bs, 0, none⟩) := hk.base 10 (by kernel_rfl) rfl
                          have hb := grows_of hk.ext
                          exact wp_of_value (op_load 10 _ B10 (Box2.below Dq.out hb)) (hK.out _ _ (Grows.refl _) (fun w2 h2 => ⟨_, _, _, _, rfl, (Sq.out.below hb).below h2⟩) (fun h => absurd h (by decide)))
                        refine AllOps.cons (Does.lets (g := 15) (d := 104) (t := false) rfl (by kernel_rfl) (by kernel_rfl) (fun vq wq h => h wq (Grows.refl wq)) fun lq aq wq hk hr K hK => ?_) ?_
                        · obtain ⟨v18, E18, -, r18⟩ := hk.dep hr 18 107 (by kernel_rfl) (by kernel_rfl)
                          have r18 : WV wq v18 q := r18 wq (Grows.refl wq)
                          refine wp_of_call (f := 44) (vs := #[v18]) (by go_simp) (rsign_v wq r18 (k := i2) hi2.out) ?_
                          rintro e w1 ⟨u, rfl, hu, hb⟩
                          exact ⟨u, rfl, hK.out _ _ hb (fun w2 h2 => hu) (fun h => absurd h (by decide))⟩
                        refine AllOps.cons (Does.lets (g := 15) (d := 104) (t := false) rfl (by kernel_rfl) (by kernel_rfl) (fun vq wq h => h wq (Grows.refl wq)) fun lq aq wq hk hr K hK => ?_) ?_
                        · obtain ⟨v17, E17, -, r17⟩ := hk.dep hr 17 106 (by kernel_rfl) (by kernel_rfl)
                          replace E17 : ev aq (.tmp 106) = .int .i64 i2 := E17.trans (r17 wq (Grows.refl wq))
                          obtain ⟨v19, E19, -, r19⟩ := hk.dep hr 19 108 (by kernel_rfl) (by kernel_rfl)
                          replace E19 : ev aq (.tmp 108) = .int .i64 i2 := E19.trans (r19 wq (Grows.refl wq))
                          exact wp_of_value (by go_simp) (hK.out _ _ (Grows.refl _) (fun w2 h2 => rfl) (fun h => absurd h (by decide)))
                        refine AllOps.cons (Does.plain rfl fun lq aq wq hk hr K hK => ?_) ?_
                        · obtain ⟨v15, E15, -, r15⟩ := hk.dep hr 15 104 (by kernel_rfl) (by kernel_rfl)
                          replace E15 : ev aq (.tmp 104) = .bool false := E15.trans (r15 wq (Grows.refl wq))
                          obtain ⟨v20, E20, -, r20⟩ := hk.dep hr 20 109 (by kernel_rfl) (by kernel_rfl)
                          replace E20 : ev aq (.tmp 109) = .bool false := E20.trans (r20 wq (Grows.refl wq))
                          exact wp_of_value (by go_simp) (hK.out _ _ (Grows.refl _) (fun w2 h2 => rfl) (fun h => absurd h (by decide)))
                        refine AllOps.cons (Does.plain rfl fun lq aq wq hk hr K hK => ?_) ?_
                        · obtain ⟨v21, E21, -, r21⟩ := hk.dep hr 21 110 (by kernel_rfl) (by kernel_rfl)
                          replace E21 : ev aq (.tmp 110) = .bool false := E21.trans (r21 wq (Grows.refl wq))
                          exact wp_of_value (by go_simp) (hK.out _ _ (Grows.refl _) (fun w2 h2 => rfl) (fun h => absurd h (by decide)))
                        refine AllOps.cons (Does.lets (g := 22) (d := 111) (t := false) rfl (by kernel_rfl) (by kernel_rfl) (fun vq wq h => h wq (Grows.refl wq)) fun lq aq wq hk hr K hK => ?_) ?_
                        · have B10 : ev aq (.tmp 10) = .pointer (some ⟨bs, 0, none⟩) := hk.base 10 (by kernel_rfl) rfl
                          have hb := grows_of hk.ext
                          exact wp_of_value (op_load 10 _ B10 (Box2.below Dq.out hb)) (hK.out _ _ (Grows.refl _) (fun w2 h2 => ⟨_, _, _, _, rfl, (Sq.out.below hb).below h2⟩) (fun h => absurd h (by decide)))
                        refine AllOps.cons (Does.lets (g := 22) (d := 111) (t := false) rfl (by kernel_rfl) (by kernel_rfl) (fun vq wq h => h wq (Grows.refl wq)) fun lq aq wq hk hr K hK => ?_) ?_
                        · obtain ⟨v23, E23, -, r23⟩ := hk.dep hr 23 112 (by kernel_rfl) (by kernel_rfl)
                          have r23 : WV wq v23 q := r23 wq (Grows.refl wq)
                          refine wp_of_call (f := 30) (vs := #[v23]) (by go_simp) (neg_v wq r23 (Nat.le_trans (szz_neg hkq) (by decide))) ?_
                          rintro e w1 ⟨u, rfl, hu, hb⟩
                          exact ⟨u, rfl, hK.out _ _ hb (fun w2 h2 => (hu).grow h2) (fun h => absurd h (by decide))⟩
                        refine AllOps.cons (Does.lets (g := 22) (d := 111) (t := false) rfl (by kernel_rfl) (by kernel_rfl) (fun vq wq h => h wq (Grows.refl wq)) fun lq aq wq hk hr K hK => ?_) ?_
                        · have B10 : ev aq (.tmp 10) = .pointer (some ⟨bs, 0, none⟩) := hk.base 10 (by kernel_rfl) rfl
                          have hb := grows_of hk.ext
                          exact wp_of_value (op_load 10 _ B10 (Box2.below Dq.out hb)) (hK.out _ _ (Grows.refl _) (fun w2 h2 => ⟨_, _, _, _, rfl, (Sq.out.below hb).below h2⟩) (fun h => absurd h (by decide)))
                        refine AllOps.cons (Does.lets (g := 22) (d := 111) (t := false) rfl (by kernel_rfl) (by kernel_rfl) (fun vq wq h => h wq (Grows.refl wq)) fun lq aq wq hk hr K hK => ?_) ?_
                        · obtain ⟨v25, E25, -, r25⟩ := hk.dep hr 25 114 (by kernel_rfl) (by kernel_rfl)
                          have r25 : WV wq v25 q := r25 wq (Grows.refl wq)
                          refine wp_of_call (f := 45) (vs := #[v25]) (by go_simp) (rneg_v wq r25) ?_
                          rintro e w1 ⟨u, rfl, hu, hb⟩
                          exact ⟨u, rfl, hK.out _ _ hb (fun w2 h2 => (hu).grow h2) (fun h => absurd h (by decide))⟩
                        refine AllOps.cons (Does.lets (g := 22) (d := 111) (t := false) rfl (by kernel_rfl) (by kernel_rfl) (fun vq wq h => h wq (Grows.refl wq)) fun lq aq wq hk hr K hK => ?_) ?_
                        · obtain ⟨v24, E24, -, r24⟩ := hk.dep hr 24 113 (by kernel_rfl) (by kernel_rfl)
                          have r24 : ZV wq v24 ((-q)) := r24 wq (Grows.refl wq)
                          obtain ⟨v26, E26, -, r26⟩ := hk.dep hr 26 115 (by kernel_rfl) (by kernel_rfl)
                          have r26 : ZV wq v26 ((-q)) := r26 wq (Grows.refl wq)
                          refine wp_of_call (f := 20) (vs := #[v24, v26]) (by go_simp) (rsame_v wq r24 r26 (t := true) (decide_eq_true rfl)) ?_
                          rintro e w1 ⟨u, rfl, hu, hb⟩
                          exact ⟨u, rfl, hK.out _ _ hb (fun w2 h2 => hu) (fun h => absurd h (by decide))⟩
                        refine AllOps.cons (Does.lets (g := 22) (d := 111) (t := false) rfl (by kernel_rfl) (by kernel_rfl) (fun vq wq h => h wq (Grows.refl wq)) fun lq aq wq hk hr K hK => ?_) ?_
                        · obtain ⟨v27, E27, -, r27⟩ := hk.dep hr 27 116 (by kernel_rfl) (by kernel_rfl)
                          replace E27 : ev aq (.tmp 116) = .bool true := E27.trans (r27 wq (Grows.refl wq))
                          exact wp_of_value (by go_simp) (hK.out _ _ (Grows.refl _) (fun w2 h2 => rfl) (fun h => absurd h (by decide)))
                        refine AllOps.cons (Does.plain rfl fun lq aq wq hk hr K hK => ?_) ?_
                        · obtain ⟨v22, E22, -, r22⟩ := hk.dep hr 22 111 (by kernel_rfl) (by kernel_rfl)
                          replace E22 : ev aq (.tmp 111) = .bool false := E22.trans (r22 wq (Grows.refl wq))
                          obtain ⟨v28, E28, -, r28⟩ := hk.dep hr 28 117 (by kernel_rfl) (by kernel_rfl)
                          replace E28 : ev aq (.tmp 117) = .bool false := E28.trans (r28 wq (Grows.refl wq))
                          exact wp_of_value (by go_simp) (hK.out _ _ (Grows.refl _) (fun w2 h2 => rfl) (fun h => absurd h (by decide)))
                        refine AllOps.cons (Does.plain rfl fun lq aq wq hk hr K hK => ?_) ?_
                        · obtain ⟨v29, E29, -, r29⟩ := hk.dep hr 29 118 (by kernel_rfl) (by kernel_rfl)
                          replace E29 : ev aq (.tmp 118) = .bool false := E29.trans (r29 wq (Grows.refl wq))
                          exact wp_of_value (by go_simp) (hK.out _ _ (Grows.refl _) (fun w2 h2 => rfl) (fun h => absurd h (by decide)))
                        refine AllOps.cons (Does.lets (g := 30) (d := 119) (t := false) rfl (by kernel_rfl) (by kernel_rfl) (fun vq wq h => h wq (Grows.refl wq)) fun lq aq wq hk hr K hK => ?_) ?_
                        · have B10 : ev aq (.tmp 10) = .pointer (some ⟨bs, 0, none⟩) := hk.base 10 (by kernel_rfl) rfl
                          exact wp_of_value (by go_simp) (hK.out _ _ (Grows.refl _) (fun w2 h2 => rfl) (fun h => absurd h (by decide)))
                        refine AllOps.cons (Does.lets (g := 30) (d := 119) (t := false) rfl (by kernel_rfl) (by kernel_rfl) (fun vq wq h => h wq (Grows.refl wq)) fun lq aq wq hk hr K hK => ?_) ?_
                        · obtain ⟨v31, E31, -, r31⟩ := hk.dep hr 31 120 (by kernel_rfl) (by kernel_rfl)
                          replace E31 : ev aq (.tmp 120) = .pointer (some ⟨bs, 0, none⟩) := E31.trans (r31 wq (Grows.refl wq))
                          have hb := grows_of hk.ext
                          have c0 := (Box2.below Dq.out hb).c0
                          exact wp_of_value (by go_simp) (hK.out _ _ (Grows.refl _) (fun w2 h2 => rfl) (fun h => absurd h (by decide)))
                        refine AllOps.cons (Does.lets (g := 30) (d := 119) (t := false) rfl (by kernel_rfl) (by kernel_rfl) (fun vq wq h => h wq (Grows.refl wq)) fun lq aq wq hk hr K hK => ?_) ?_
                        · have B10 : ev aq (.tmp 10) = .pointer (some ⟨bs, 0, none⟩) := hk.base 10 (by kernel_rfl) rfl
                          exact wp_of_value (by go_simp) (hK.out _ _ (Grows.refl _) (fun w2 h2 => rfl) (fun h => absurd h (by decide)))
                        refine AllOps.cons (Does.lets (g := 30) (d := 119) (t := false) rfl (by kernel_rfl) (by kernel_rfl) (fun vq wq h => h wq (Grows.refl wq)) fun lq aq wq hk hr K hK => ?_) ?_
                        · obtain ⟨v33, E33, -, r33⟩ := hk.dep hr 33 122 (by kernel_rfl) (by kernel_rfl)
                          replace E33 : ev aq (.tmp 122) = .pointer (some ⟨bs, 1, none⟩) := E33.trans (r33 wq (Grows.refl wq))
                          have hb := grows_of hk.ext
                          have c1 := (Box2.below Dq.out hb).c1
                          exact wp_of_value (by go_simp) (hK.out _ _ (Grows.refl _) (fun w2 h2 => rfl) (fun h => absurd h (by decide)))
                        refine AllOps.cons (Does.lets (g := 30) (d := 119) (t := false) rfl (by kernel_rfl) (by kernel_rfl) (fun vq wq h => h wq (Grows.refl wq)) fun lq aq wq hk hr K hK => ?_) ?_
                        · obtain ⟨v32, E32, -, r32⟩ := hk.dep hr 32 121 (by kernel_rfl) (by kernel_rfl)
                          replace E32 : ev aq (.tmp 121) = .bool nq := E32.trans (r32 wq (Grows.refl wq))
                          obtain ⟨v34, E34, -, r34⟩ := hk.dep hr 34 123 (by kernel_rfl) (by kernel_rfl)
                          replace E34 : ev aq (.tmp 123) = .slice Aq iq cq := E34.trans (r34 wq (Grows.refl wq))
                          refine wp_of_call (f := 34) (vs := #[.bool nq, .slice Aq iq cq]) (by go_simp) (of_v wq nq (Nq.out.below (grows_of hk.ext)).lv hzq.out.symm (Nat.le_trans hkq (by decide))) ?_
                          rintro e w1 ⟨u, rfl, hu, hb⟩
                          exact ⟨u, rfl, hK.out _ _ hb (fun w2 h2 => (hu).grow h2) (fun h => absurd h (by decide))⟩
                        refine AllOps.cons (Does.lets (g := 30) (d := 119) (t := false) rfl (by kernel_rfl) (by kernel_rfl) (fun vq wq h => h wq (Grows.refl wq)) fun lq aq wq hk hr K hK => ?_) ?_
                        · have B10 : ev aq (.tmp 10) = .pointer (some ⟨bs, 0, none⟩) := hk.base 10 (by kernel_rfl) rfl
                          have hb := grows_of hk.ext
                          exact wp_of_value (op_load 10 _ B10 (Box2.below Dq.out hb)) (hK.out _ _ (Grows.refl _) (fun w2 h2 => ⟨_, _, _, _, rfl, (Sq.out.below hb).below h2⟩) (fun h => absurd h (by decide)))
                        refine AllOps.cons (Does.lets (g := 30) (d := 119) (t := false) rfl (by kernel_rfl) (by kernel_rfl) (fun vq wq h => h wq (Grows.refl wq)) fun lq aq wq hk hr K hK => ?_) ?_
                        · obtain ⟨v36, E36, -, r36⟩ := hk.dep hr 36 125 (by kernel_rfl) (by kernel_rfl)
                          have r36 : WV wq v36 q := r36 wq (Grows.refl wq)
                          refine wp_of_call (f := 46) (vs := #[v36]) (by go_simp) (rmade_v wq r36) ?_
                          rintro e w1 ⟨u, rfl, hu, hb⟩
                          exact ⟨u, rfl, hK.out _ _ hb (fun w2 h2 => (hu).grow h2) (fun h => absurd h (by decide))⟩
                        refine AllOps.cons (Does.lets (g := 30) (d := 119) (t := false) rfl (by kernel_rfl) (by kernel_rfl) (fun vq wq h => h wq (Grows.refl wq)) fun lq aq wq hk hr K hK => ?_) ?_
                        · obtain ⟨v35, E35, -, r35⟩ := hk.dep hr 35 124 (by kernel_rfl) (by kernel_rfl)
                          have r35 : ZV wq v35 q := r35 wq (Grows.refl wq)
                          obtain ⟨v37, E37, -, r37⟩ := hk.dep hr 37 126 (by kernel_rfl) (by kernel_rfl)
                          have r37 : ZV wq v37 q := r37 wq (Grows.refl wq)
                          refine wp_of_call (f := 20) (vs := #[v35, v37]) (by go_simp) (rsame_v wq r35 r37 (t := true) (decide_eq_true rfl)) ?_
                          rintro e w1 ⟨u, rfl, hu, hb⟩
                          exact ⟨u, rfl, hK.out _ _ hb (fun w2 h2 => hu) (fun h => absurd h (by decide))⟩
                        refine AllOps.cons (Does.lets (g := 30) (d := 119) (t := false) rfl (by kernel_rfl) (by kernel_rfl) (fun vq wq h => h wq (Grows.refl wq)) fun lq aq wq hk hr K hK => ?_) ?_
                        · obtain ⟨v38, E38, -, r38⟩ := hk.dep hr 38 127 (by kernel_rfl) (by kernel_rfl)
                          replace E38 : ev aq (.tmp 127) = .bool true := E38.trans (r38 wq (Grows.refl wq))
                          exact wp_of_value (by go_simp) (hK.out _ _ (Grows.refl _) (fun w2 h2 => rfl) (fun h => absurd h (by decide)))
                        refine AllOps.cons (Does.plain rfl fun lq aq wq hk hr K hK => ?_) ?_
                        · obtain ⟨v30, E30, -, r30⟩ := hk.dep hr 30 119 (by kernel_rfl) (by kernel_rfl)
                          replace E30 : ev aq (.tmp 119) = .bool false := E30.trans (r30 wq (Grows.refl wq))
                          obtain ⟨v39, E39, -, r39⟩ := hk.dep hr 39 128 (by kernel_rfl) (by kernel_rfl)
                          replace E39 : ev aq (.tmp 128) = .bool false := E39.trans (r39 wq (Grows.refl wq))
                          exact wp_of_value (by go_simp) (hK.out _ _ (Grows.refl _) (fun w2 h2 => rfl) (fun h => absurd h (by decide)))
                        exact AllOps.nil
                      case fin =>
                        intro V x7 hG hV hap
                        have r40 : (V 40) = .bool false := hV 40 (by decide)
                        clear hV hap
                        simp only [List.take_succ_cons, List.take_nil, List.drop_succ_cons, List.drop_nil, putAll, Act.put, List.setIfInBounds_toArray, List.set_cons_zero, List.set_cons_succ]
                        have hb := grows_of hG
                        replace Dp := Lib.hid (Box2.below Dp.out hb)
                        replace Sp := Lib.hid (Sp.out.below hb)
                        replace Dq := Lib.hid (Box2.below Dq.out hb)
                        replace Sq := Lib.hid (Sq.out.below hb)
                        replace w0 := Lib.hid (w0.out.below hb)
                        replace w1 := Lib.hid (w1.out.below hb)
                        replace w2 := Lib.hid (w2.out.below hb)
                        replace w3 := Lib.hid (w3.out.below hb)
                        replace w4 := Lib.hid (w4.out.below hb)
                        replace w5 := Lib.hid (w5.out.below hb)
                        replace w6 := Lib.hid (w6.out.below hb)
                        replace w7 := Lib.hid (w7.out.below hb)
                        replace Nq := Lib.hid (Nq.out.below hb)
                        replace HB := Lib.hid (HB.out.trans (Below.mono hb HB.out.size))
                        clear hb hG
                        rw [r40]
                        clear r40
                        go_wp2_with fail
                        go_roundw
                        case rel =>
                          first
                            | exact ⟨k + 1, by omega, (by first | rfl | simp), HB.out, w0.out, w1.out, w2.out, w3.out, w4.out, w5.out, w6.out, w7.out⟩
                            | ((repeat apply Exists.intro); refine ⟨?_, rfl⟩; exact ⟨k + 1, by omega, (by first | rfl | simp), HB.out, w0.out, w1.out, w2.out, w3.out, w4.out, w5.out, w6.out, w7.out⟩)
                        case measure => simp [intOf]; omega
        · skip
          obtain rfl : k = 4 := by omega
          replace HB := Lib.hid HB
          go_upto_region 13 with fail
          refine wp_region_calm 8 [] ([fun vq _ => vq = .int .i64 x,
              fun vq wq => ZV wq vq x,
              fun vq _ => vq = .int .i64 x,
              fun vq wq => ZV wq vq x,
              fun vq _ => vq = .bool true,
              fun vq _ => vq = .bool true,
              fun vq _ => vq = .bool true,
              fun vq _ => vq = .bool true]) (by kernel_rfl) (by decide) ?hF ?steps ?fin
          case hF =>
            intro j hj; cases hj
          case steps =>
            refine AllOps.cons (Does.plain rfl fun lq aq wq hk hr K hK => ?_) ?_
            · have B2 : ev aq (.tmp 2) = .int .i64 x := hk.base 2 (by kernel_rfl) rfl
              exact wp_of_value (by go_simp) (hK.out _ _ (Grows.refl _) (fun w2 h2 => rfl) (fun h => absurd h (by decide)))
            refine AllOps.cons (Does.plain rfl fun lq aq wq hk hr K hK => ?_) ?_
            · obtain ⟨v0, E0, -, r0⟩ := hk.dep hr 0 131 (by kernel_rfl) (by kernel_rfl)
              replace E0 : ev aq (.tmp 131) = .int .i64 x := E0.trans (r0 wq (Grows.refl wq))
              refine wp_of_call (f := 31) (vs := #[.int .i64 x]) (by go_simp) (from_v wq x hx1 hx2) ?_
              rintro e w1 ⟨u, rfl, hu, hb⟩
              exact ⟨u, rfl, hK.out _ _ hb (fun w2 h2 => (hu).grow h2) (fun h => absurd h (by decide))⟩
            refine AllOps.cons (Does.plain rfl fun lq aq wq hk hr K hK => ?_) ?_
            · have B2 : ev aq (.tmp 2) = .int .i64 x := hk.base 2 (by kernel_rfl) rfl
              exact wp_of_value (by go_simp) (hK.out _ _ (Grows.refl _) (fun w2 h2 => rfl) (fun h => absurd h (by decide)))
            refine AllOps.cons (Does.plain rfl fun lq aq wq hk hr K hK => ?_) ?_
            · obtain ⟨v2, E2, -, r2⟩ := hk.dep hr 2 133 (by kernel_rfl) (by kernel_rfl)
              replace E2 : ev aq (.tmp 133) = .int .i64 x := E2.trans (r2 wq (Grows.refl wq))
              refine wp_of_call (f := 14) (vs := #[.int .i64 x]) (by go_simp) (rfrom_v wq x hx1 hx2) ?_
              rintro e w1 ⟨u, rfl, hu, hb⟩
              exact ⟨u, rfl, hK.out _ _ hb (fun w2 h2 => (hu).grow h2) (fun h => absurd h (by decide))⟩
            refine AllOps.cons (Does.plain rfl fun lq aq wq hk hr K hK => ?_) ?_
            · obtain ⟨v1, E1, -, r1⟩ := hk.dep hr 1 132 (by kernel_rfl) (by kernel_rfl)
              have r1 : ZV wq v1 x := r1 wq (Grows.refl wq)
              obtain ⟨v3, E3, -, r3⟩ := hk.dep hr 3 134 (by kernel_rfl) (by kernel_rfl)
              have r3 : ZV wq v3 x := r3 wq (Grows.refl wq)
              refine wp_of_call (f := 20) (vs := #[v1, v3]) (by go_simp) (rsame_v wq r1 r3 (t := true) (decide_eq_true rfl)) ?_
              rintro e w1 ⟨u, rfl, hu, hb⟩
              exact ⟨u, rfl, hK.out _ _ hb (fun w2 h2 => hu) (fun h => absurd h (by decide))⟩
            refine AllOps.cons (Does.plain rfl fun lq aq wq hk hr K hK => ?_) ?_
            · obtain ⟨v4, E4, -, r4⟩ := hk.dep hr 4 135 (by kernel_rfl) (by kernel_rfl)
              replace E4 : ev aq (.tmp 135) = .bool true := E4.trans (r4 wq (Grows.refl wq))
              exact wp_of_value (by go_simp) (hK.out _ _ (Grows.refl _) (fun w2 h2 => rfl) (fun h => absurd h (by decide)))
            refine AllOps.cons (Does.lets (g := 5) (d := 136) (t := true) rfl (by kernel_rfl) (by kernel_rfl) (fun vq wq h => h wq (Grows.refl wq)) fun lq aq wq hk hr K hK => ?_) ?_
            · refine wp_of_call (f := 21) (vs := #[]) (by go_simp) (works_v wq) ?_
              rintro e w1 ⟨u, rfl, hu, hb⟩
              exact ⟨u, rfl, hK.out _ _ hb (fun w2 h2 => hu) (fun h => absurd h (by decide))⟩
            refine AllOps.cons (Does.plain rfl fun lq aq wq hk hr K hK => ?_) ?_
            · obtain ⟨v5, E5, -, r5⟩ := hk.dep hr 5 136 (by kernel_rfl) (by kernel_rfl)
              replace E5 : ev aq (.tmp 136) = .bool true := E5.trans (r5 wq (Grows.refl wq))
              obtain ⟨v6, E6, -, r6⟩ := hk.dep hr 6 137 (by kernel_rfl) (by kernel_rfl)
              replace E6 : ev aq (.tmp 137) = .bool true := E6.trans (r6 wq (Grows.refl wq))
              exact wp_of_value (by go_simp) (hK.out _ _ (Grows.refl _) (fun w2 h2 => rfl) (fun h => absurd h (by decide)))
            exact AllOps.nil
          case fin =>
            intro V x3 hG hV hap
            have r7 : (V 7) = .bool true := hV 7 (by decide)
            clear hV hap
            simp only [List.take_succ_cons, List.take_zero, List.drop_succ_cons, List.drop_zero, putAll, Act.put, List.setIfInBounds_toArray, List.set_cons_zero, List.set_cons_succ]
            have hb := (show Below _ _ _ from hG)
            replace HB := Lib.hid (HB.out.trans (Below.mono hb HB.out.size))
            clear hb hG
            rw [r7]
            clear r7
            go_wp2_with fail
            go_ret
            exact ⟨rfl, HB.out⟩
end Go.Proofs.YtmajcjdhhnhmmaaDoor
