import Derived.Test.YtmajcjdhhnhmmaaDoorVal2
import Derived.Test.YtmajcjdhhnhmmaaDoorKept2
import Derived.Test.YtmajcjdhhnhmmaaDoorBigTextsL
/- litmuslaw02.BigTexts returns true. -/
namespace Go.Proofs.YtmajcjdhhnhmmaaDoor
open Go.RowKit Go.Num Go.Kp
attribute [local go_sem] Oper.semAt_some u64_mask ev_const ev_func ev_global
set_option maxHeartbeats 16000000 in
set_option maxRecDepth 100000 in
theorem bigTexts_any (w : World) (n0 : Bool) (m0 : Value) (l0 : List Nat) (n1 : Bool) (m1 : Value) (l1 : List Nat) (h0 : Arg encU w m0 l0) (hl0 : Lim l0) (hn0 : l0.length ≤ 9223372036854775807) (h1 : Arg encU w m1 l1) (hl1 : Lim l1) (hn1 : l1.length ≤ 9223372036854775807) :
    Calls Tryd.prog 8 #[.agg #[.bool n0, m0], .agg #[.bool n1, m1]] w fun e w' => e = .returned (.bool true) ∧ Below w.heap.size w w' := by
  go_enter Tryd.func8, Tryd.ntmps8
  have h0q := h0
  obtain ⟨A0, d0, rfl, _, _⟩ := h0q.open_
  clear h0q
  have h1q := h1
  obtain ⟨A1, d1, rfl, _, _⟩ := h1q.open_
  clear h1q
  obtain ⟨a, ha⟩ : ∃ z, sg n0 (val (l0.take 15)) = z := ⟨_, rfl⟩
  have hka : szz a ≤ 15 := ha ▸ few_szz n0 15 hl0
  obtain ⟨b, hb⟩ : ∃ z, sg n1 (val (l1.take 15)) = z := ⟨_, rfl⟩
  have hkb : szz b ≤ 15 := hb ▸ few_szz n1 15 hl1
  have HB0 : Hid (Below w.heap.size w ((w.alloc (.cells #[.bool n0, (.slice A0 l0.length d0)] 24)).alloc (.cells #[.bool n1, (.slice A1 l1.length d1)] 24))) := Lib.hid (((Below.refl _ w).alloc (Nat.le_refl _) _).alloc (by simp) _)
  have DA0 := Lib.hid ((Box2.new w 24 (.bool n0) (.slice A0 l0.length d0)).alloc (.cells #[.bool n1, (.slice A1 l1.length d1)] 24))
  have DB0 : Hid (Box2 ((w.alloc (.cells #[.bool n0, (.slice A0 l0.length d0)] 24)).alloc (.cells #[.bool n1, (.slice A1 l1.length d1)] 24)) (w.heap.size + 1) 24 (.bool n1) (.slice A1 l1.length d1)) := Lib.hid (by have := Box2.new (w.alloc (.cells #[.bool n0, (.slice A0 l0.length d0)] 24)) 24 (.bool n1) (.slice A1 l1.length d1); rwa [World.size_alloc] at this)
  go_wp2_with fail
  refine (works_any _).mono ?_
  rintro e x0 ⟨rfl, q0⟩
  have HB := Lib.hid (HB0.out.trans (Below.mono q0 HB0.out.size))
  have DA := Lib.hid (Box2.below DA0.out q0)
  have DB := Lib.hid (Box2.below DB0.out q0)
  clear DA0 DB0 HB0 q0
  replace h0 := h0.below HB.out
  replace h1 := h1.below HB.out
  go_upto_region 3 with fail
  refine wp_region_going 4 [] ([fun vq _ => vq = .agg #[.bool n0, .slice A0 l0.length d0],
      fun vq wq => WV x0 vq a,
      fun vq _ => vq = .agg #[.bool n1, .slice A1 l1.length d1],
      fun vq wq => WV x0 vq b]) (by kernel_rfl) (by kernel_rfl) (by decide) (by kernel_rfl) (by kernel_rfl) ?hF ?steps ?fin
  case hF =>
    intro j hj; cases hj
  case steps =>
    refine AllOps.cons (Does.plain rfl fun lq aq wq hk hr K hK => ?_) ?_
    · have B2 : ev aq (.tmp 2) = .pointer (some ⟨w.heap.size, 0, none⟩) := hk.base 2 (by kernel_rfl) rfl
      have hb := grows_of hk.ext
      have c0 := (Box2.below DA.out hb).c0
      have c1 := (Box2.below DA.out hb).c1
      exact wp_of_value (by go_simp) (hK.out _ _ (Grows.refl _) (fun w2 h2 => rfl) (fun h => absurd h (by decide)))
    refine AllOps.cons (Does.plain rfl fun lq aq wq hk hr K hK => ?_) ?_
    · obtain ⟨v0, E0, -, r0⟩ := hk.dep hr 0 10 (by kernel_rfl) (by kernel_rfl)
      replace E0 : ev aq (.tmp 10) = .agg #[.bool n0, .slice A0 l0.length d0] := E0.trans (r0 wq (Grows.refl wq))
      refine wp_of_call (f := 13) (vs := #[.agg #[.bool n0, .slice A0 l0.length d0], .int .i64 15]) (by go_simp) (few_v x0 wq 15 (h0) hl0 hn0 (by decide) ha) ?_
      rintro e w1 ⟨u, rfl, hu, hb⟩
      exact ⟨u, rfl, hK.out _ _ hb (fun w2 h2 => hu) (fun h => absurd h (by decide))⟩
    refine AllOps.cons (Does.plain rfl fun lq aq wq hk hr K hK => ?_) ?_
    · have B3 : ev aq (.tmp 3) = .pointer (some ⟨w.heap.size + 1, 0, none⟩) := hk.base 3 (by kernel_rfl) rfl
      have hb := grows_of hk.ext
      have c0 := (Box2.below DB.out hb).c0
      have c1 := (Box2.below DB.out hb).c1
      exact wp_of_value (by go_simp) (hK.out _ _ (Grows.refl _) (fun w2 h2 => rfl) (fun h => absurd h (by decide)))
    refine AllOps.cons (Does.plain rfl fun lq aq wq hk hr K hK => ?_) ?_
    · obtain ⟨v2, E2, -, r2⟩ := hk.dep hr 2 12 (by kernel_rfl) (by kernel_rfl)
      replace E2 : ev aq (.tmp 12) = .agg #[.bool n1, .slice A1 l1.length d1] := E2.trans (r2 wq (Grows.refl wq))
      refine wp_of_call (f := 13) (vs := #[.agg #[.bool n1, .slice A1 l1.length d1], .int .i64 15]) (by go_simp) (few_v x0 wq 15 (h1) hl1 hn1 (by decide) hb) ?_
      rintro e w1 ⟨u, rfl, hu, hb⟩
      exact ⟨u, rfl, hK.out _ _ hb (fun w2 h2 => hu) (fun h => absurd h (by decide))⟩
    exact AllOps.nil
  case fin =>
    intro V x1 hG hV hap
    have r1 : WV x0 (V 1) a := hV 1 (by decide)
    have r3 : WV x0 (V 3) b := hV 3 (by decide)
    clear hV hap
    simp only [List.take_succ_cons, List.take_zero, List.drop_succ_cons, List.drop_zero, putAll, Act.put, List.setIfInBounds_toArray, List.set_cons_zero, List.set_cons_succ]
    have hb := grows_of hG
    obtain ⟨na, Aa, ka, ca, ea', sa⟩ := r1
    obtain ⟨nb, Ab, kb, cb, eb', sb⟩ := r3
    simp only [ea', eb']
    clear ea' eb'
    replace DA := Box2.below DA.out hb
    replace DB := Box2.below DB.out hb
    replace sa := sa.below hb
    replace sb := sb.below hb
    replace HB := HB.out.trans (Below.mono hb HB.out.size)
    clear hb hG h0 h1 hl0 hl1 hn0 hn1
    refine wpList_of_skip rfl (op_store 2 11 _ rfl rfl DA) ?_
    refine wpList_of_skip rfl (op_store 3 13 _ rfl rfl (put2_far DB (Nat.succ_ne_self _))) ?_
    have PA := put2_own (u := .bool na) (v := .slice Aa ka ca) DA
    have PB := put2_own (u := .bool nb) (v := .slice Ab kb cb) (put2_far (u := .bool na) (v := .slice Aa ka ca) DB (Nat.succ_ne_self _))
    have QA := put2_far (u := .bool nb) (v := .slice Ab kb cb) PA (show w.heap.size ≠ w.heap.size + 1 by omega)
    have Sa := Lib.hid ((sa.put DA (.bool na) (.slice Aa ka ca)).put (put2_far (u := .bool na) (v := .slice Aa ka ca) DB (Nat.succ_ne_self _)) (.bool nb) (.slice Ab kb cb))
    have Sb := Lib.hid ((sb.put DA (.bool na) (.slice Aa ka ca)).put (put2_far (u := .bool na) (v := .slice Aa ka ca) DB (Nat.succ_ne_self _)) (.bool nb) (.slice Ab kb cb))
    replace HB := Lib.hid (put2_below (u := .bool nb) (v := .slice Ab kb cb) (put2_below (u := .bool na) (v := .slice Aa ka ca) HB (Nat.le_refl _)) (Nat.le_succ _))
    clear DA DB PA sa sb
    generalize put2 (put2 x1 w.heap.size (.bool na) (.slice Aa ka ca)) (w.heap.size + 1) (.bool nb) (.slice Ab kb cb) = y1 at *
    have Da := Lib.hid QA
    have Db := Lib.hid PB
    clear QA PB
    obtain ⟨s, hs⟩ : ∃ s, ByteArray.mk (ztext a).toArray = s := ⟨_, rfl⟩
    obtain ⟨u, hu⟩ : ∃ s, ByteArray.mk (ztext b).toArray = s := ⟨_, rfl⟩
    go_upto_region 4 with fail
    refine wp_region_calm 2 [] ([fun vq wq => WV wq vq a,
        fun vq _ => vq = .string s]) (by kernel_rfl) (by decide) ?hF ?steps ?fin
    case hF =>
      intro j hj; cases hj
    case steps =>
      refine AllOps.cons (Does.plain rfl fun lq aq wq hk hr K hK => ?_) ?_
      · have B2 : ev aq (.tmp 2) = .pointer (some ⟨w.heap.size, 0, none⟩) := hk.base 2 (by kernel_rfl) rfl
        have hb : Below _ _ _ := hk.ext
        exact wp_of_value (op_load 2 _ B2 (Box2.below Da.out hb)) (hK.out _ _ (Grows.refl _) (fun w2 h2 => ⟨_, _, _, _, rfl, (Sa.out.below hb).below h2⟩) (fun h => absurd h (by decide)))
      refine AllOps.cons (Does.plain rfl fun lq aq wq hk hr K hK => ?_) ?_
      · obtain ⟨v0, E0, -, r0⟩ := hk.dep hr 0 14 (by kernel_rfl) (by kernel_rfl)
        have r0 : WV wq v0 a := r0 wq (Grows.refl wq)
        refine wp_of_call (f := 25) (vs := #[v0]) (by go_simp) (text_v wq r0 (s := s) hs) ?_
        rintro e w1 ⟨u, rfl, hu, hb⟩
        exact ⟨u, rfl, hK.out _ _ hb (fun w2 h2 => hu) (fun h => absurd h (by decide))⟩
      exact AllOps.nil
    case fin =>
      intro V x2 hG hV hap
      have r1 : (V 1) = .string s := hV 1 (by decide)
      clear hV hap
      simp only [List.take_succ_cons, List.take_zero, List.drop_succ_cons, List.drop_zero, putAll, Act.put, List.setIfInBounds_toArray, List.set_cons_zero, List.set_cons_succ]
      have hb := (show Below _ _ _ from hG)
      replace Da := Lib.hid (Box2.below Da.out hb)
      replace Sa := Lib.hid (Sa.out.below hb)
      replace Db := Lib.hid (Box2.below Db.out hb)
      replace Sb := Lib.hid (Sb.out.below hb)
      replace HB := Lib.hid (HB.out.trans (Below.mono hb HB.out.size))
      clear hb hG
      rw [r1]
      clear r1
      go_upto_region 5 with fail
      refine wp_region_calm 6 [5] ([fun vq _ => vq = .string s,
          fun vq wq => ∃ u0, vq = .tuple #[u0, .bool true] ∧ ZV wq u0 a,
          fun vq wq => ∃ u0, vq = .tuple #[u0, .bool true] ∧ ZV wq u0 a,
          fun vq wq => ZV wq vq a,
          fun vq _ => vq = .bool true,
          fun vq wq => ∃ bq, vq = .pointer (some ⟨bq, 0, none⟩) ∧ Box2 wq bq 24 (.bool false) (.slice none 0 0) ∧ (x2).heap.size ≤ bq]) (by kernel_rfl) (by decide) ?hF ?steps ?fin
      case hF =>
        intro j hj v w h
        simp only [List.mem_cons, List.not_mem_nil, or_false] at hj
        subst hj
        all_goals (obtain ⟨b, rfl, hB, _⟩ := h; exact hB.lt)
      case steps =>
        refine AllOps.cons (Does.plain rfl fun lq aq wq hk hr K hK => ?_) ?_
        · have B5 : ev aq (.tmp 5) = .string s := hk.base 5 (by kernel_rfl) rfl
          exact wp_of_value (by go_simp) (hK.out _ _ (Grows.refl _) (fun w2 h2 => rfl) (fun h => absurd h (by decide)))
        refine AllOps.cons (Does.plain rfl fun lq aq wq hk hr K hK => ?_) ?_
        · obtain ⟨v0, E0, -, r0⟩ := hk.dep hr 0 17 (by kernel_rfl) (by kernel_rfl)
          replace E0 : ev aq (.tmp 17) = .string s := E0.trans (r0 wq (Grows.refl wq))
          refine wp_of_call (f := 23) (vs := #[.string s]) (by go_simp) (parse_v wq hs (Nat.le_trans hka (by decide))) ?_
          rintro e w1 ⟨u, rfl, hu, hb⟩
          exact ⟨u, rfl, hK.out _ _ hb (fun w2 h2 => (let ⟨u0, e0, h0⟩ := hu; ⟨u0, e0, (h0).grow h2⟩)) (fun h => absurd h (by decide))⟩
        refine AllOps.cons (Does.plain rfl fun lq aq wq hk hr K hK => ?_) ?_
        · obtain ⟨v1, E1, -, r1⟩ := hk.dep hr 1 18 (by kernel_rfl) (by kernel_rfl)
          have r1 : ∃ u0, v1 = .tuple #[u0, .bool true] ∧ ZV wq u0 a := r1 wq (Grows.refl wq)
          exact wp_of_value (by go_simp) (hK.out _ _ (Grows.refl _) (fun w2 h2 => (let ⟨u0, e0, h0⟩ := r1; ⟨u0, e0, (h0).grow h2⟩)) (fun h => absurd h (by decide)))
        refine AllOps.cons (Does.plain rfl fun lq aq wq hk hr K hK => ?_) ?_
        · obtain ⟨v2, E2, -, r2⟩ := hk.dep hr 2 16 (by kernel_rfl) (by kernel_rfl)
          have r2 : ∃ u0, v2 = .tuple #[u0, .bool true] ∧ ZV wq u0 a := r2 wq (Grows.refl wq)
          obtain ⟨u0, rfl, h0⟩ := r2
          exact wp_of_value (by go_simp) (hK.out _ _ (Grows.refl _) (fun w2 h2 => (h0).grow h2) (fun h => absurd h (by decide)))
        refine AllOps.cons (Does.plain rfl fun lq aq wq hk hr K hK => ?_) ?_
        · obtain ⟨v2, E2, -, r2⟩ := hk.dep hr 2 16 (by kernel_rfl) (by kernel_rfl)
          have r2 : ∃ u0, v2 = .tuple #[u0, .bool true] ∧ ZV wq u0 a := r2 wq (Grows.refl wq)
          obtain ⟨u0, rfl, h0⟩ := r2
          exact wp_of_value (by go_simp) (hK.out _ _ (Grows.refl _) (fun w2 h2 => rfl) (fun h => absurd h (by decide)))
        refine AllOps.cons (Does.plain rfl fun lq aq wq hk hr K hK => ?_) ?_
        · exact wp_of_value (by go_simp) (hK.out _ _ ((Grows.refl _).alloc _) (fun w2 h2 => ⟨_, rfl, (Box2.new wq 24 _ _).below h2, hk.ext.size⟩) (fun _ => Nat.le_refl _))
        exact AllOps.nil
      case fin =>
        intro V x3 hG hV hap
        have r3 : ZV x3 (V 3) a := hV 3 (by decide)
        have r4 : (V 4) = .bool true := hV 4 (by decide)
        have r5 : ∃ bq, (V 5) = .pointer (some ⟨bq, 0, none⟩) ∧ Box2 x3 bq 24 (.bool false) (.slice none 0 0) ∧ (x2).heap.size ≤ bq := hV 5 (by decide)
        clear hV
        simp only [List.take_succ_cons, List.take_zero, List.drop_succ_cons, List.drop_zero, putAll, Act.put, List.setIfInBounds_toArray, List.set_cons_zero, List.set_cons_succ]
        have hb := (show Below _ _ _ from hG)
        obtain ⟨bx, ex, Dx, gx⟩ := r5
        obtain ⟨nx, Ax, kx, cx, ex', sx⟩ := r3
        simp only [ex, ex', r4]
        clear ex ex' hap r4
        refine wpList_of_skip rfl (op_store 6 19 _ rfl rfl Dx) ?_
        have hB := put2_below (u := .bool nx) (v := .slice Ax kx cx) hb gx
        replace sx := sx.put Dx (.bool nx) (.slice Ax kx cx)
        replace Dx := put2_own (u := .bool nx) (v := .slice Ax kx cx) Dx
        clear hb
        generalize put2 x3 bx (.bool nx) (.slice Ax kx cx) = y4 at *
        replace Da := Lib.hid (Box2.below Da.out hB)
        replace Sa := Lib.hid (Sa.out.below hB)
        replace Db := Lib.hid (Box2.below Db.out hB)
        replace Sb := Lib.hid (Sb.out.below hB)
        replace HB := Lib.hid (HB.out.trans (Below.mono hB HB.out.size))
        replace Dx := Lib.hid Dx
        have Sx := Lib.hid sx
        clear hG hB gx sx
        obtain ⟨j, hj⟩ : ∃ j, Int.sign (a - b) = j := ⟨_, rfl⟩
        obtain ⟨i, hi⟩ : ∃ i, Int.sign a = i := ⟨_, rfl⟩
        obtain ⟨t, ht⟩ : ∃ t, (s.toList == u.toList) = t := ⟨_, rfl⟩
        have htj : (j == 0) = t := by rw [← ht, ← hs, ← hu, ← hj]; exact text_alike a b
        obtain ⟨c, hs0, hc, hc0⟩ := text_first a hs
        obtain ⟨p, hp⟩ : ∃ p, (c == 45) = p := ⟨_, rfl⟩
        have hip : decide (i < 0) = p := by rw [← hp, ← hi]; exact hc0
        clear hc0
        go_upto_region 6 with fail
        refine wp_region_going 30 [] ([fun vq _ => vq = .bool true,
            fun vq _ => vq = .bool false,
            fun vq _ => vq = .bool false,
            fun vq wq => ZV wq vq a,
            fun vq wq => WV wq vq a,
            fun vq wq => RowV wq vq [a],
            fun vq wq => ZV wq vq a,
            fun vq _ => vq = .bool true,
            fun vq _ => vq = .bool false,
            fun vq _ => vq = .bool false,
            fun vq _ => vq = .bool false,
            fun vq _ => vq = .string s,
            fun vq wq => WV wq vq b,
            fun vq _ => vq = .string u,
            fun vq _ => vq = .bool t,
            fun vq wq => WV wq vq a,
            fun vq wq => WV wq vq b,
            fun vq _ => vq = .int .i64 j,
            fun vq _ => vq = .bool t,
            fun vq _ => vq = .bool false,
            fun vq _ => vq = .bool false,
            fun vq _ => vq = .bool false,
            fun vq _ => vq = .string s,
            fun vq _ => vq = .int .u8 c,
            fun vq _ => vq = .bool p,
            fun vq wq => WV wq vq a,
            fun vq _ => vq = .int .i64 i,
            fun vq _ => vq = .bool p,
            fun vq _ => vq = .bool false,
            fun vq _ => vq = .bool false]) (by kernel_rfl) (by kernel_rfl) (by decide) (by kernel_rfl) (by kernel_rfl) ?hF ?steps ?fin
        case hF =>
          intro j hj; cases hj
        case steps =>
          refine AllOps.cons (Does.plain rfl fun lq aq wq hk hr K hK => ?_) ?_
          · have B7 : ev aq (.tmp 7) = .bool true := hk.base 7 (by kernel_rfl) rfl
            exact wp_of_value (by go_simp) (hK.out _ _ (Grows.refl _) (fun w2 h2 => rfl) (fun h => absurd h (by decide)))
          refine AllOps.cons (Does.plain rfl fun lq aq wq hk hr K hK => ?_) ?_
          · obtain ⟨v0, E0, -, r0⟩ := hk.dep hr 0 21 (by kernel_rfl) (by kernel_rfl)
            replace E0 : ev aq (.tmp 21) = .bool true := E0.trans (r0 wq (Grows.refl wq))
            exact wp_of_value (by go_simp) (hK.out _ _ (Grows.refl _) (fun w2 h2 => rfl) (fun h => absurd h (by decide)))
          refine AllOps.cons (Does.plain rfl fun lq aq wq hk hr K hK => ?_) ?_
          · obtain ⟨v1, E1, -, r1⟩ := hk.dep hr 1 22 (by kernel_rfl) (by kernel_rfl)
            replace E1 : ev aq (.tmp 22) = .bool false := E1.trans (r1 wq (Grows.refl wq))
            exact wp_of_value (by go_simp) (hK.out _ _ (Grows.refl _) (fun w2 h2 => rfl) (fun h => absurd h (by decide)))
          refine AllOps.cons (Does.lets (g := 2) (d := 23) (t := false) rfl (by kernel_rfl) (by kernel_rfl) (fun vq wq h => h wq (Grows.refl wq)) fun lq aq wq hk hr K hK => ?_) ?_
          · have B6 : ev aq (.tmp 6) = .pointer (some ⟨bx, 0, none⟩) := hk.base 6 (by kernel_rfl) rfl
            have hb := grows_of hk.ext
            exact wp_of_value (op_load 6 _ B6 (Box2.below Dx.out hb)) (hK.out _ _ (Grows.refl _) (fun w2 h2 => ⟨_, _, _, _, rfl, (Sx.out.below hb).below h2⟩) (fun h => absurd h (by decide)))
          refine AllOps.cons (Does.lets (g := 2) (d := 23) (t := false) rfl (by kernel_rfl) (by kernel_rfl) (fun vq wq h => h wq (Grows.refl wq)) fun lq aq wq hk hr K hK => ?_) ?_
          · have B2 : ev aq (.tmp 2) = .pointer (some ⟨w.heap.size, 0, none⟩) := hk.base 2 (by kernel_rfl) rfl
            have hb := grows_of hk.ext
            exact wp_of_value (op_load 2 _ B2 (Box2.below Da.out hb)) (hK.out _ _ (Grows.refl _) (fun w2 h2 => ⟨_, _, _, _, rfl, (Sa.out.below hb).below h2⟩) (fun h => absurd h (by decide)))
          refine AllOps.cons (Does.lets (g := 2) (d := 23) (t := false) rfl (by kernel_rfl) (by kernel_rfl) (fun vq wq h => h wq (Grows.refl wq)) fun lq aq wq hk hr K hK => ?_) ?_
          · obtain ⟨v4, E4, -, r4⟩ := hk.dep hr 4 25 (by kernel_rfl) (by kernel_rfl)
            have r4 : WV wq v4 a := r4 wq (Grows.refl wq)
            obtain ⟨n4, A4, k4, c4, rfl, s4⟩ := r4
            exact wp_of_value (op_row1 25 E4) (hK.out _ _ ((Grows.refl _).alloc _) (fun w2 h2 => (RowV.one s4).grow h2) (fun h => absurd h (by decide)))
          refine AllOps.cons (Does.lets (g := 2) (d := 23) (t := false) rfl (by kernel_rfl) (by kernel_rfl) (fun vq wq h => h wq (Grows.refl wq)) fun lq aq wq hk hr K hK => ?_) ?_
          · obtain ⟨v5, E5, -, r5⟩ := hk.dep hr 5 26 (by kernel_rfl) (by kernel_rfl)
            have r5 : RowV wq v5 [a] := r5 wq (Grows.refl wq)
            refine wp_of_call (f := 27) (vs := #[v5]) (by go_simp) (add1_v wq r5 (Nat.le_trans hka (by decide))) ?_
            rintro e w1 ⟨u, rfl, hu, hb⟩
            exact ⟨u, rfl, hK.out _ _ hb (fun w2 h2 => (hu).grow h2) (fun h => absurd h (by decide))⟩
          refine AllOps.cons (Does.lets (g := 2) (d := 23) (t := false) rfl (by kernel_rfl) (by kernel_rfl) (fun vq wq h => h wq (Grows.refl wq)) fun lq aq wq hk hr K hK => ?_) ?_
          · obtain ⟨v3, E3, -, r3⟩ := hk.dep hr 3 24 (by kernel_rfl) (by kernel_rfl)
            have r3 : ZV wq v3 a := r3 wq (Grows.refl wq)
            obtain ⟨v6, E6, -, r6⟩ := hk.dep hr 6 27 (by kernel_rfl) (by kernel_rfl)
            have r6 : ZV wq v6 a := r6 wq (Grows.refl wq)
            refine wp_of_call (f := 26) (vs := #[v3, v6]) (by go_simp) (same_v wq r3 r6 (t := true) (decide_eq_true rfl)) ?_
            rintro e w1 ⟨u, rfl, hu, hb⟩
            exact ⟨u, rfl, hK.out _ _ hb (fun w2 h2 => hu) (fun h => absurd h (by decide))⟩
          refine AllOps.cons (Does.lets (g := 2) (d := 23) (t := false) rfl (by kernel_rfl) (by kernel_rfl) (fun vq wq h => h wq (Grows.refl wq)) fun lq aq wq hk hr K hK => ?_) ?_
          · obtain ⟨v7, E7, -, r7⟩ := hk.dep hr 7 28 (by kernel_rfl) (by kernel_rfl)
            replace E7 : ev aq (.tmp 28) = .bool true := E7.trans (r7 wq (Grows.refl wq))
            exact wp_of_value (by go_simp) (hK.out _ _ (Grows.refl _) (fun w2 h2 => rfl) (fun h => absurd h (by decide)))
          refine AllOps.cons (Does.plain rfl fun lq aq wq hk hr K hK => ?_) ?_
          · obtain ⟨v2, E2, -, r2⟩ := hk.dep hr 2 23 (by kernel_rfl) (by kernel_rfl)
            replace E2 : ev aq (.tmp 23) = .bool false := E2.trans (r2 wq (Grows.refl wq))
            obtain ⟨v8, E8, -, r8⟩ := hk.dep hr 8 29 (by kernel_rfl) (by kernel_rfl)
            replace E8 : ev aq (.tmp 29) = .bool false := E8.trans (r8 wq (Grows.refl wq))
            exact wp_of_value (by go_simp) (hK.out _ _ (Grows.refl _) (fun w2 h2 => rfl) (fun h => absurd h (by decide)))
          refine AllOps.cons (Does.plain rfl fun lq aq wq hk hr K hK => ?_) ?_
          · obtain ⟨v9, E9, -, r9⟩ := hk.dep hr 9 30 (by kernel_rfl) (by kernel_rfl)
            replace E9 : ev aq (.tmp 30) = .bool false := E9.trans (r9 wq (Grows.refl wq))
            exact wp_of_value (by go_simp) (hK.out _ _ (Grows.refl _) (fun w2 h2 => rfl) (fun h => absurd h (by decide)))
          refine AllOps.cons (Does.lets (g := 10) (d := 31) (t := false) rfl (by kernel_rfl) (by kernel_rfl) (fun vq wq h => h wq (Grows.refl wq)) fun lq aq wq hk hr K hK => ?_) ?_
          · have B5 : ev aq (.tmp 5) = .string s := hk.base 5 (by kernel_rfl) rfl
            exact wp_of_value (by go_simp) (hK.out _ _ (Grows.refl _) (fun w2 h2 => rfl) (fun h => absurd h (by decide)))
          refine AllOps.cons (Does.lets (g := 10) (d := 31) (t := false) rfl (by kernel_rfl) (by kernel_rfl) (fun vq wq h => h wq (Grows.refl wq)) fun lq aq wq hk hr K hK => ?_) ?_
          · have B3 : ev aq (.tmp 3) = .pointer (some ⟨w.heap.size + 1, 0, none⟩) := hk.base 3 (by kernel_rfl) rfl
            have hb := grows_of hk.ext
            exact wp_of_value (op_load 3 _ B3 (Box2.below Db.out hb)) (hK.out _ _ (Grows.refl _) (fun w2 h2 => ⟨_, _, _, _, rfl, (Sb.out.below hb).below h2⟩) (fun h => absurd h (by decide)))
          refine AllOps.cons (Does.lets (g := 10) (d := 31) (t := false) rfl (by kernel_rfl) (by kernel_rfl) (fun vq wq h => h wq (Grows.refl wq)) fun lq aq wq hk hr K hK => ?_) ?_
          · obtain ⟨v12, E12, -, r12⟩ := hk.dep hr 12 33 (by kernel_rfl) (by kernel_rfl)
            have r12 : WV wq v12 b := r12 wq (Grows.refl wq)
            refine wp_of_call (f := 25) (vs := #[v12]) (by go_simp) (text_v wq r12 (s := u) hu) ?_
            rintro e w1 ⟨u, rfl, hu, hb⟩
            exact ⟨u, rfl, hK.out _ _ hb (fun w2 h2 => hu) (fun h => absurd h (by decide))⟩
          refine AllOps.cons (Does.lets (g := 10) (d := 31) (t := false) rfl (by kernel_rfl) (by kernel_rfl) (fun vq wq h => h wq (Grows.refl wq)) fun lq aq wq hk hr K hK => ?_) ?_
          · obtain ⟨v11, E11, -, r11⟩ := hk.dep hr 11 32 (by kernel_rfl) (by kernel_rfl)
            replace E11 : ev aq (.tmp 32) = .string s := E11.trans (r11 wq (Grows.refl wq))
            obtain ⟨v13, E13, -, r13⟩ := hk.dep hr 13 34 (by kernel_rfl) (by kernel_rfl)
            replace E13 : ev aq (.tmp 34) = .string u := E13.trans (r13 wq (Grows.refl wq))
            exact wp_of_value (by go_simp) (hK.out _ _ (Grows.refl _) (fun w2 h2 => rfl) (fun h => absurd h (by decide)))
          refine AllOps.cons (Does.lets (g := 10) (d := 31) (t := false) rfl (by kernel_rfl) (by kernel_rfl) (fun vq wq h => h wq (Grows.refl wq)) fun lq aq wq hk hr K hK => ?_) ?_
          · have B2 : ev aq (.tmp 2) = .pointer (some ⟨w.heap.size, 0, none⟩) := hk.base 2 (by kernel_rfl) rfl
            have hb := grows_of hk.ext
            exact wp_of_value (op_load 2 _ B2 (Box2.below Da.out hb)) (hK.out _ _ (Grows.refl _) (fun w2 h2 => ⟨_, _, _, _, rfl, (Sa.out.below hb).below h2⟩) (fun h => absurd h (by decide)))
          refine AllOps.cons (Does.lets (g := 10) (d := 31) (t := false) rfl (by kernel_rfl) (by kernel_rfl) (fun vq wq h => h wq (Grows.refl wq)) fun lq aq wq hk hr K hK => ?_) ?_
          · have B3 : ev aq (.tmp 3) = .pointer (some ⟨w.heap.size + 1, 0, none⟩) := hk.base 3 (by kernel_rfl) rfl
            have hb := grows_of hk.ext
            exact wp_of_value (op_load 3 _ B3 (Box2.below Db.out hb)) (hK.out _ _ (Grows.refl _) (fun w2 h2 => ⟨_, _, _, _, rfl, (Sb.out.below hb).below h2⟩) (fun h => absurd h (by decide)))
          refine AllOps.cons (Does.lets (g := 10) (d := 31) (t := false) rfl (by kernel_rfl) (by kernel_rfl) (fun vq wq h => h wq (Grows.refl wq)) fun lq aq wq hk hr K hK => ?_) ?_
          · obtain ⟨v15, E15, -, r15⟩ := hk.dep hr 15 36 (by kernel_rfl) (by kernel_rfl)
            have r15 : WV wq v15 a := r15 wq (Grows.refl wq)
            obtain ⟨v16, E16, -, r16⟩ := hk.dep hr 16 37 (by kernel_rfl) (by kernel_rfl)
            have r16 : WV wq v16 b := r16 wq (Grows.refl wq)
            refine wp_of_call (f := 37) (vs := #[v15, v16]) (by go_simp) (cmp_v wq r15 r16 (k := j) hj) ?_
            rintro e w1 ⟨u, rfl, hu, hb⟩
            exact ⟨u, rfl, hK.out _ _ hb (fun w2 h2 => hu) (fun h => absurd h (by decide))⟩
          refine AllOps.cons (Does.lets (g := 10) (d := 31) (t := false) rfl (by kernel_rfl) (by kernel_rfl) (fun vq wq h => h wq (Grows.refl wq)) fun lq aq wq hk hr K hK => ?_) ?_
          · obtain ⟨v17, E17, -, r17⟩ := hk.dep hr 17 38 (by kernel_rfl) (by kernel_rfl)
            replace E17 : ev aq (.tmp 38) = .int .i64 j := E17.trans (r17 wq (Grows.refl wq))
            exact wp_of_value (by go_simp) (hK.out _ _ (Grows.refl _) (fun w2 h2 => rfl) (fun h => absurd h (by decide)))
          refine AllOps.cons (Does.lets (g := 10) (d := 31) (t := false) rfl (by kernel_rfl) (by kernel_rfl) (fun vq wq h => h wq (Grows.refl wq)) fun lq aq wq hk hr K hK => ?_) ?_
          · obtain ⟨v14, E14, -, r14⟩ := hk.dep hr 14 35 (by kernel_rfl) (by kernel_rfl)
            replace E14 : ev aq (.tmp 35) = .bool t := E14.trans (r14 wq (Grows.refl wq))
            obtain ⟨v18, E18, -, r18⟩ := hk.dep hr 18 39 (by kernel_rfl) (by kernel_rfl)
            replace E18 : ev aq (.tmp 39) = .bool t := E18.trans (r18 wq (Grows.refl wq))
            exact wp_of_value (by go_simp) (hK.out _ _ (Grows.refl _) (fun w2 h2 => rfl) (fun h => absurd h (by decide)))
          refine AllOps.cons (Does.plain rfl fun lq aq wq hk hr K hK => ?_) ?_
          · obtain ⟨v10, E10, -, r10⟩ := hk.dep hr 10 31 (by kernel_rfl) (by kernel_rfl)
            replace E10 : ev aq (.tmp 31) = .bool false := E10.trans (r10 wq (Grows.refl wq))
            obtain ⟨v19, E19, -, r19⟩ := hk.dep hr 19 40 (by kernel_rfl) (by kernel_rfl)
            replace E19 : ev aq (.tmp 40) = .bool false := E19.trans (r19 wq (Grows.refl wq))
            exact wp_of_value (by go_simp) (hK.out _ _ (Grows.refl _) (fun w2 h2 => rfl) (fun h => absurd h (by decide)))
          refine AllOps.cons (Does.plain rfl fun lq aq wq hk hr K hK => ?_) ?_
          · obtain ⟨v20, E20, -, r20⟩ := hk.dep hr 20 41 (by kernel_rfl) (by kernel_rfl)
            replace E20 : ev aq (.tmp 41) = .bool false := E20.trans (r20 wq (Grows.refl wq))
            exact wp_of_value (by go_simp) (hK.out _ _ (Grows.refl _) (fun w2 h2 => rfl) (fun h => absurd h (by decide)))
          refine AllOps.cons (Does.lets (g := 21) (d := 42) (t := false) rfl (by kernel_rfl) (by kernel_rfl) (fun vq wq h => h wq (Grows.refl wq)) fun lq aq wq hk hr K hK => ?_) ?_
          · have B5 : ev aq (.tmp 5) = .string s := hk.base 5 (by kernel_rfl) rfl
            exact wp_of_value (by go_simp) (hK.out _ _ (Grows.refl _) (fun w2 h2 => rfl) (fun h => absurd h (by decide)))
          refine AllOps.cons (Does.lets (g := 21) (d := 42) (t := false) rfl (by kernel_rfl) (by kernel_rfl) (fun vq wq h => h wq (Grows.refl wq)) fun lq aq wq hk hr K hK => ?_) ?_
          · obtain ⟨v22, E22, -, r22⟩ := hk.dep hr 22 43 (by kernel_rfl) (by kernel_rfl)
            replace E22 : ev aq (.tmp 43) = .string s := E22.trans (r22 wq (Grows.refl wq))
            exact wp_of_value (by go_simp) (hK.out _ _ (Grows.refl _) (fun w2 h2 => rfl) (fun h => absurd h (by decide)))
          refine AllOps.cons (Does.lets (g := 21) (d := 42) (t := false) rfl (by kernel_rfl) (by kernel_rfl) (fun vq wq h => h wq (Grows.refl wq)) fun lq aq wq hk hr K hK => ?_) ?_
          · obtain ⟨v23, E23, -, r23⟩ := hk.dep hr 23 44 (by kernel_rfl) (by kernel_rfl)
            replace E23 : ev aq (.tmp 44) = .int .u8 c := E23.trans (r23 wq (Grows.refl wq))
            exact wp_of_value (by go_simp) (hK.out _ _ (Grows.refl _) (fun w2 h2 => rfl) (fun h => absurd h (by decide)))
          refine AllOps.cons (Does.lets (g := 21) (d := 42) (t := false) rfl (by kernel_rfl) (by kernel_rfl) (fun vq wq h => h wq (Grows.refl wq)) fun lq aq wq hk hr K hK => ?_) ?_
          · have B2 : ev aq (.tmp 2) = .pointer (some ⟨w.heap.size, 0, none⟩) := hk.base 2 (by kernel_rfl) rfl
            have hb := grows_of hk.ext
            exact wp_of_value (op_load 2 _ B2 (Box2.below Da.out hb)) (hK.out _ _ (Grows.refl _) (fun w2 h2 => ⟨_, _, _, _, rfl, (Sa.out.below hb).below h2⟩) (fun h => absurd h (by decide)))
          refine AllOps.cons (Does.lets (g := 21) (d := 42) (t := false) rfl (by kernel_rfl) (by kernel_rfl) (fun vq wq h => h wq (Grows.refl wq)) fun lq aq wq hk hr K hK => ?_) ?_
          · obtain ⟨v25, E25, -, r25⟩ := hk.dep hr 25 46 (by kernel_rfl) (by kernel_rfl)
            have r25 : WV wq v25 a := r25 wq (Grows.refl wq)
            refine wp_of_call (f := 36) (vs := #[v25]) (by go_simp) (sign_v wq r25 (k := i) hi) ?_
            rintro e w1 ⟨u, rfl, hu, hb⟩
            exact ⟨u, rfl, hK.out _ _ hb (fun w2 h2 => hu) (fun h => absurd h (by decide))⟩
          refine AllOps.cons (Does.lets (g := 21) (d := 42) (t := false) rfl (by kernel_rfl) (by kernel_rfl) (fun vq wq h => h wq (Grows.refl wq)) fun lq aq wq hk hr K hK => ?_) ?_
          · obtain ⟨v26, E26, -, r26⟩ := hk.dep hr 26 47 (by kernel_rfl) (by kernel_rfl)
            replace E26 : ev aq (.tmp 47) = .int .i64 i := E26.trans (r26 wq (Grows.refl wq))
            exact wp_of_value (by go_simp) (hK.out _ _ (Grows.refl _) (fun w2 h2 => rfl) (fun h => absurd h (by decide)))
          refine AllOps.cons (Does.lets (g := 21) (d := 42) (t := false) rfl (by kernel_rfl) (by kernel_rfl) (fun vq wq h => h wq (Grows.refl wq)) fun lq aq wq hk hr K hK => ?_) ?_
          · obtain ⟨v24, E24, -, r24⟩ := hk.dep hr 24 45 (by kernel_rfl) (by kernel_rfl)
            replace E24 : ev aq (.tmp 45) = .bool p := E24.trans (r24 wq (Grows.refl wq))
            obtain ⟨v27, E27, -, r27⟩ := hk.dep hr 27 48 (by kernel_rfl) (by kernel_rfl)
            replace E27 : ev aq (.tmp 48) = .bool p := E27.trans (r27 wq (Grows.refl wq))
            exact wp_of_value (by go_simp) (hK.out _ _ (Grows.refl _) (fun w2 h2 => rfl) (fun h => absurd h (by decide)))
          refine AllOps.cons (Does.plain rfl fun lq aq wq hk hr K hK => ?_) ?_
          · obtain ⟨v21, E21, -, r21⟩ := hk.dep hr 21 42 (by kernel_rfl) (by kernel_rfl)
            replace E21 : ev aq (.tmp 42) = .bool false := E21.trans (r21 wq (Grows.refl wq))
            obtain ⟨v28, E28, -, r28⟩ := hk.dep hr 28 49 (by kernel_rfl) (by kernel_rfl)
            replace E28 : ev aq (.tmp 49) = .bool false := E28.trans (r28 wq (Grows.refl wq))
            exact wp_of_value (by go_simp) (hK.out _ _ (Grows.refl _) (fun w2 h2 => rfl) (fun h => absurd h (by decide)))
          exact AllOps.nil
        case fin =>
          intro V x5 hG hV hap
          have r8 : (V 8) = .bool false := hV 8 (by decide)
          have r29 : (V 29) = .bool false := hV 29 (by decide)
          clear hV hap
          simp only [List.take_succ_cons, List.take_nil, List.drop_succ_cons, List.drop_nil, putAll, Act.put, List.setIfInBounds_toArray, List.set_cons_zero, List.set_cons_succ]
          have hb := grows_of hG
          replace Da := Lib.hid (Box2.below Da.out hb)
          replace Sa := Lib.hid (Sa.out.below hb)
          replace Db := Lib.hid (Box2.below Db.out hb)
          replace Sb := Lib.hid (Sb.out.below hb)
          replace Dx := Lib.hid (Box2.below Dx.out hb)
          replace Sx := Lib.hid (Sx.out.below hb)
          replace HB := Lib.hid (HB.out.trans (Below.mono hb HB.out.size))
          clear hb hG
          rw [r29]
          clear r29
          rcases Decidable.em (a = 0) with h0 | h0
          · skip
            have hi0 : i = 0 := by rw [← hi, h0]; rfl
            subst hi0
            go_upto_region 8 with fail
            refine wp_region_going 14 [] ([fun vq wq => WV wq vq a,
                fun vq _ => vq = .int .i64 0,
                fun vq _ => vq = .bool true,
                fun vq _ => vq = .bool true,
                fun vq _ => vq = undef,
                fun vq _ => vq = undef,
                fun vq _ => vq = undef,
                fun vq _ => vq = undef,
                fun vq _ => vq = undef,
                fun vq _ => vq = undef,
                fun vq _ => vq = undef,
                fun vq _ => vq = undef,
                fun vq _ => vq = .bool true,
                fun vq _ => vq = .bool true]) (by kernel_rfl) (by kernel_rfl) (by decide) (by kernel_rfl) (by kernel_rfl) ?hF ?steps ?fin
            case hF =>
              intro j hj; cases hj
            case steps =>
              refine AllOps.cons (Does.plain rfl fun lq aq wq hk hr K hK => ?_) ?_
              · have B2 : ev aq (.tmp 2) = .pointer (some ⟨w.heap.size, 0, none⟩) := hk.base 2 (by kernel_rfl) rfl
                have hb := grows_of hk.ext
                exact wp_of_value (op_load 2 _ B2 (Box2.below Da.out hb)) (hK.out _ _ (Grows.refl _) (fun w2 h2 => ⟨_, _, _, _, rfl, (Sa.out.below hb).below h2⟩) (fun h => absurd h (by decide)))
              refine AllOps.cons (Does.plain rfl fun lq aq wq hk hr K hK => ?_) ?_
              · obtain ⟨v0, E0, -, r0⟩ := hk.dep hr 0 51 (by kernel_rfl) (by kernel_rfl)
                have r0 : WV wq v0 a := r0 wq (Grows.refl wq)
                refine wp_of_call (f := 36) (vs := #[v0]) (by go_simp) (sign_v wq r0 (k := 0) hi) ?_
                rintro e w1 ⟨u, rfl, hu, hb⟩
                exact ⟨u, rfl, hK.out _ _ hb (fun w2 h2 => hu) (fun h => absurd h (by decide))⟩
              refine AllOps.cons (Does.plain rfl fun lq aq wq hk hr K hK => ?_) ?_
              · obtain ⟨v1, E1, -, r1⟩ := hk.dep hr 1 52 (by kernel_rfl) (by kernel_rfl)
                replace E1 : ev aq (.tmp 52) = .int .i64 0 := E1.trans (r1 wq (Grows.refl wq))
                exact wp_of_value (by go_simp) (hK.out _ _ (Grows.refl _) (fun w2 h2 => rfl) (fun h => absurd h (by decide)))
              refine AllOps.cons (Does.plain rfl fun lq aq wq hk hr K hK => ?_) ?_
              · obtain ⟨v2, E2, -, r2⟩ := hk.dep hr 2 53 (by kernel_rfl) (by kernel_rfl)
                replace E2 : ev aq (.tmp 53) = .bool true := E2.trans (r2 wq (Grows.refl wq))
                exact wp_of_value (by go_simp) (hK.out _ _ (Grows.refl _) (fun w2 h2 => rfl) (fun h => absurd h (by decide)))
              refine AllOps.cons (Does.bars (g := 3) (d := 54) (t := false) (u := true) rfl (by kernel_rfl) (by kernel_rfl) (fun vq wq h => h wq (Grows.refl wq)) (by decide) (fun _ _ _ => rfl) rfl) ?_
              refine AllOps.cons (Does.bars (g := 3) (d := 54) (t := false) (u := true) rfl (by kernel_rfl) (by kernel_rfl) (fun vq wq h => h wq (Grows.refl wq)) (by decide) (fun _ _ _ => rfl) rfl) ?_
              refine AllOps.cons (Does.bars (g := 3) (d := 54) (t := false) (u := true) rfl (by kernel_rfl) (by kernel_rfl) (fun vq wq h => h wq (Grows.refl wq)) (by decide) (fun _ _ _ => rfl) rfl) ?_
              refine AllOps.cons (Does.bars (g := 3) (d := 54) (t := false) (u := true) rfl (by kernel_rfl) (by kernel_rfl) (fun vq wq h => h wq (Grows.refl wq)) (by decide) (fun _ _ _ => rfl) rfl) ?_
              refine AllOps.cons (Does.bars (g := 3) (d := 54) (t := false) (u := true) rfl (by kernel_rfl) (by kernel_rfl) (fun vq wq h => h wq (Grows.refl wq)) (by decide) (fun _ _ _ => rfl) rfl) ?_
              refine AllOps.cons (Does.bars (g := 3) (d := 54) (t := false) (u := true) rfl (by kernel_rfl) (by kernel_rfl) (fun vq wq h => h wq (Grows.refl wq)) (by decide) (fun _ _ _ => rfl) rfl) ?_
              refine AllOps.cons (Does.bars (g := 3) (d := 54) (t := false) (u := true) rfl (by kernel_rfl) (by kernel_rfl) (fun vq wq h => h wq (Grows.refl wq)) (by decide) (fun _ _ _ => rfl) rfl) ?_
              refine AllOps.cons (Does.bars (g := 3) (d := 54) (t := false) (u := true) rfl (by kernel_rfl) (by kernel_rfl) (fun vq wq h => h wq (Grows.refl wq)) (by decide) (fun _ _ _ => rfl) rfl) ?_
              refine AllOps.cons (Does.plain rfl fun lq aq wq hk hr K hK => ?_) ?_
              · obtain ⟨v3, E3, -, r3⟩ := hk.dep hr 3 54 (by kernel_rfl) (by kernel_rfl)
                replace E3 : ev aq (.tmp 54) = .bool true := E3.trans (r3 wq (Grows.refl wq))
                exact wp_of_value (by go_simp) (hK.out _ _ (Grows.refl _) (fun w2 h2 => rfl) (fun h => absurd h (by decide)))
              refine AllOps.cons (Does.plain rfl fun lq aq wq hk hr K hK => ?_) ?_
              · obtain ⟨v12, E12, -, r12⟩ := hk.dep hr 12 63 (by kernel_rfl) (by kernel_rfl)
                replace E12 : ev aq (.tmp 63) = .bool true := E12.trans (r12 wq (Grows.refl wq))
                exact wp_of_value (by go_simp) (hK.out _ _ (Grows.refl _) (fun w2 h2 => rfl) (fun h => absurd h (by decide)))
              exact AllOps.nil
            case fin =>
              intro V x6 hG hV hap
              have r13 : (V 13) = .bool true := hV 13 (by decide)
              clear hV hap
              simp only [List.take_succ_cons, List.take_nil, List.drop_succ_cons, List.drop_nil, putAll, Act.put, List.setIfInBounds_toArray, List.set_cons_zero, List.set_cons_succ]
              have hb := grows_of hG
              replace Da := Lib.hid (Box2.below Da.out hb)
              replace Sa := Lib.hid (Sa.out.below hb)
              replace Db := Lib.hid (Box2.below Db.out hb)
              replace Sb := Lib.hid (Sb.out.below hb)
              replace Dx := Lib.hid (Box2.below Dx.out hb)
              replace Sx := Lib.hid (Sx.out.below hb)
              replace HB := Lib.hid (HB.out.trans (Below.mono hb HB.out.size))
              clear hb hG
              rw [r13]
              go_wp2_with fail
              go_ret
              exact ⟨rfl, HB.out⟩
          · skip
            have hi0 : (i == 0) = false := by rw [← hi, beq_eq_false_iff_ne]; exact fun e => h0 (Int.sign_eq_zero_iff_zero.1 e)
            obtain ⟨y, hy⟩ : ∃ y, ByteArray.mk (ztext (a * 10)).toArray = y := ⟨_, rfl⟩
            have hcat : s ++ ByteArray.mk #[48] = y := by rw [← hs, ← hy, ztext_ten h0]; exact cat_bytes' _ [48]
            have hlen : s.size ≤ 1000 := by rw [← hs]; have := ztext_len hka; show (ztext a).toArray.size ≤ 1000; simp; omega
            have hlen2 : s.size ≤ 9223372036854775806 := by omega
            go_upto_region 8 with fail
            refine wp_region_going 14 [] ([fun vq wq => WV wq vq a,
                fun vq _ => vq = .int .i64 i,
                fun vq _ => vq = .bool false,
                fun vq _ => vq = .bool false,
                fun vq wq => WV wq vq a,
                fun vq wq => ZV wq vq 10,
                fun vq wq => RowV wq vq [a, 10],
                fun vq wq => ZV wq vq ((a * 10)),
                fun vq _ => vq = .string y,
                fun vq _ => vq = .string s,
                fun vq _ => vq = .string y,
                fun vq _ => vq = .bool true,
                fun vq _ => vq = .bool true,
                fun vq _ => vq = .bool true]) (by kernel_rfl) (by kernel_rfl) (by decide) (by kernel_rfl) (by kernel_rfl) ?hF ?steps ?fin
            case hF =>
              intro j hj; cases hj
            case steps =>
              refine AllOps.cons (Does.plain rfl fun lq aq wq hk hr K hK => ?_) ?_
              · have B2 : ev aq (.tmp 2) = .pointer (some ⟨w.heap.size, 0, none⟩) := hk.base 2 (by kernel_rfl) rfl
                have hb := grows_of hk.ext
                exact wp_of_value (op_load 2 _ B2 (Box2.below Da.out hb)) (hK.out _ _ (Grows.refl _) (fun w2 h2 => ⟨_, _, _, _, rfl, (Sa.out.below hb).below h2⟩) (fun h => absurd h (by decide)))
              refine AllOps.cons (Does.plain rfl fun lq aq wq hk hr K hK => ?_) ?_
              · obtain ⟨v0, E0, -, r0⟩ := hk.dep hr 0 51 (by kernel_rfl) (by kernel_rfl)
                have r0 : WV wq v0 a := r0 wq (Grows.refl wq)
                refine wp_of_call (f := 36) (vs := #[v0]) (by go_simp) (sign_v wq r0 (k := i) hi) ?_
                rintro e w1 ⟨u, rfl, hu, hb⟩
                exact ⟨u, rfl, hK.out _ _ hb (fun w2 h2 => hu) (fun h => absurd h (by decide))⟩
              refine AllOps.cons (Does.plain rfl fun lq aq wq hk hr K hK => ?_) ?_
              · obtain ⟨v1, E1, -, r1⟩ := hk.dep hr 1 52 (by kernel_rfl) (by kernel_rfl)
                replace E1 : ev aq (.tmp 52) = .int .i64 i := E1.trans (r1 wq (Grows.refl wq))
                exact wp_of_value (by go_simp) (hK.out _ _ (Grows.refl _) (fun w2 h2 => rfl) (fun h => absurd h (by decide)))
              refine AllOps.cons (Does.plain rfl fun lq aq wq hk hr K hK => ?_) ?_
              · obtain ⟨v2, E2, -, r2⟩ := hk.dep hr 2 53 (by kernel_rfl) (by kernel_rfl)
                replace E2 : ev aq (.tmp 53) = .bool false := E2.trans (r2 wq (Grows.refl wq))
                exact wp_of_value (by go_simp) (hK.out _ _ (Grows.refl _) (fun w2 h2 => rfl) (fun h => absurd h (by decide)))
              refine AllOps.cons (Does.lets (g := 3) (d := 54) (t := false) rfl (by kernel_rfl) (by kernel_rfl) (fun vq wq h => h wq (Grows.refl wq)) fun lq aq wq hk hr K hK => ?_) ?_
              · have B2 : ev aq (.tmp 2) = .pointer (some ⟨w.heap.size, 0, none⟩) := hk.base 2 (by kernel_rfl) rfl
                have hb := grows_of hk.ext
                exact wp_of_value (op_load 2 _ B2 (Box2.below Da.out hb)) (hK.out _ _ (Grows.refl _) (fun w2 h2 => ⟨_, _, _, _, rfl, (Sa.out.below hb).below h2⟩) (fun h => absurd h (by decide)))
              refine AllOps.cons (Does.lets (g := 3) (d := 54) (t := false) rfl (by kernel_rfl) (by kernel_rfl) (fun vq wq h => h wq (Grows.refl wq)) fun lq aq wq hk hr K hK => ?_) ?_
              · refine wp_of_call (f := 31) (vs := #[.int .i64 10]) (by go_simp) (from_v wq 10 (by decide) (by decide)) ?_
                rintro e w1 ⟨u, rfl, hu, hb⟩
                exact ⟨u, rfl, hK.out _ _ hb (fun w2 h2 => (hu).grow h2) (fun h => absurd h (by decide))⟩
              refine AllOps.cons (Does.lets (g := 3) (d := 54) (t := false) rfl (by kernel_rfl) (by kernel_rfl) (fun vq wq h => h wq (Grows.refl wq)) fun lq aq wq hk hr K hK => ?_) ?_
              · obtain ⟨v4, E4, -, r4⟩ := hk.dep hr 4 55 (by kernel_rfl) (by kernel_rfl)
                have r4 : WV wq v4 a := r4 wq (Grows.refl wq)
                obtain ⟨n4, A4, k4, c4, rfl, s4⟩ := r4
                obtain ⟨v5, E5, -, r5⟩ := hk.dep hr 5 56 (by kernel_rfl) (by kernel_rfl)
                have r5 : ZV wq v5 10 := r5 wq (Grows.refl wq)
                obtain ⟨n5, A5, k5, c5, rfl, s5⟩ := r5
                exact wp_of_value (op_row2 55 56 E4 E5) (hK.out _ _ ((Grows.refl _).alloc _) (fun w2 h2 => (RowV.two s4 s5.whole).grow h2) (fun h => absurd h (by decide)))
              refine AllOps.cons (Does.lets (g := 3) (d := 54) (t := false) rfl (by kernel_rfl) (by kernel_rfl) (fun vq wq h => h wq (Grows.refl wq)) fun lq aq wq hk hr K hK => ?_) ?_
              · obtain ⟨v6, E6, -, r6⟩ := hk.dep hr 6 57 (by kernel_rfl) (by kernel_rfl)
                have r6 : RowV wq v6 [a, 10] := r6 wq (Grows.refl wq)
                refine wp_of_call (f := 28) (vs := #[v6]) (by go_simp) (mul2_v wq r6 (Nat.le_trans hka (by decide)) (Nat.le_trans (szz_mul hka (szz_i64 (by decide) (by decide))) (by decide))) ?_
                rintro e w1 ⟨u, rfl, hu, hb⟩
                exact ⟨u, rfl, hK.out _ _ hb (fun w2 h2 => (hu).grow h2) (fun h => absurd h (by decide))⟩
              refine AllOps.cons (Does.lets (g := 3) (d := 54) (t := false) rfl (by kernel_rfl) (by kernel_rfl) (fun vq wq h => h wq (Grows.refl wq)) fun lq aq wq hk hr K hK => ?_) ?_
              · obtain ⟨v7, E7, -, r7⟩ := hk.dep hr 7 58 (by kernel_rfl) (by kernel_rfl)
                have r7 : ZV wq v7 ((a * 10)) := r7 wq (Grows.refl wq)
                refine wp_of_call (f := 25) (vs := #[v7]) (by go_simp) (text_v wq (r7).wv (s := y) hy) ?_
                rintro e w1 ⟨u, rfl, hu, hb⟩
                exact ⟨u, rfl, hK.out _ _ hb (fun w2 h2 => hu) (fun h => absurd h (by decide))⟩
              refine AllOps.cons (Does.lets (g := 3) (d := 54) (t := false) rfl (by kernel_rfl) (by kernel_rfl) (fun vq wq h => h wq (Grows.refl wq)) fun lq aq wq hk hr K hK => ?_) ?_
              · have B5 : ev aq (.tmp 5) = .string s := hk.base 5 (by kernel_rfl) rfl
                exact wp_of_value (by go_simp) (hK.out _ _ (Grows.refl _) (fun w2 h2 => rfl) (fun h => absurd h (by decide)))
              refine AllOps.cons (Does.lets (g := 3) (d := 54) (t := false) rfl (by kernel_rfl) (by kernel_rfl) (fun vq wq h => h wq (Grows.refl wq)) fun lq aq wq hk hr K hK => ?_) ?_
              · obtain ⟨v9, E9, -, r9⟩ := hk.dep hr 9 60 (by kernel_rfl) (by kernel_rfl)
                replace E9 : ev aq (.tmp 60) = .string s := E9.trans (r9 wq (Grows.refl wq))
                exact wp_of_value (by go_simp) (hK.out _ _ (Grows.refl _) (fun w2 h2 => rfl) (fun h => absurd h (by decide)))
              refine AllOps.cons (Does.lets (g := 3) (d := 54) (t := false) rfl (by kernel_rfl) (by kernel_rfl) (fun vq wq h => h wq (Grows.refl wq)) fun lq aq wq hk hr K hK => ?_) ?_
              · obtain ⟨v8, E8, -, r8⟩ := hk.dep hr 8 59 (by kernel_rfl) (by kernel_rfl)
                replace E8 : ev aq (.tmp 59) = .string y := E8.trans (r8 wq (Grows.refl wq))
                obtain ⟨v10, E10, -, r10⟩ := hk.dep hr 10 61 (by kernel_rfl) (by kernel_rfl)
                replace E10 : ev aq (.tmp 61) = .string y := E10.trans (r10 wq (Grows.refl wq))
                exact wp_of_value (by go_simp) (hK.out _ _ (Grows.refl _) (fun w2 h2 => rfl) (fun h => absurd h (by decide)))
              refine AllOps.cons (Does.plain rfl fun lq aq wq hk hr K hK => ?_) ?_
              · obtain ⟨v3, E3, -, r3⟩ := hk.dep hr 3 54 (by kernel_rfl) (by kernel_rfl)
                replace E3 : ev aq (.tmp 54) = .bool false := E3.trans (r3 wq (Grows.refl wq))
                obtain ⟨v11, E11, -, r11⟩ := hk.dep hr 11 62 (by kernel_rfl) (by kernel_rfl)
                replace E11 : ev aq (.tmp 62) = .bool true := E11.trans (r11 wq (Grows.refl wq))
                exact wp_of_value (by go_simp) (hK.out _ _ (Grows.refl _) (fun w2 h2 => rfl) (fun h => absurd h (by decide)))
              refine AllOps.cons (Does.plain rfl fun lq aq wq hk hr K hK => ?_) ?_
              · obtain ⟨v12, E12, -, r12⟩ := hk.dep hr 12 63 (by kernel_rfl) (by kernel_rfl)
                replace E12 : ev aq (.tmp 63) = .bool true := E12.trans (r12 wq (Grows.refl wq))
                exact wp_of_value (by go_simp) (hK.out _ _ (Grows.refl _) (fun w2 h2 => rfl) (fun h => absurd h (by decide)))
              exact AllOps.nil
            case fin =>
              intro V x6 hG hV hap
              have r13 : (V 13) = .bool true := hV 13 (by decide)
              clear hV hap
              simp only [List.take_succ_cons, List.take_nil, List.drop_succ_cons, List.drop_nil, putAll, Act.put, List.setIfInBounds_toArray, List.set_cons_zero, List.set_cons_succ]
              have hb := grows_of hG
              replace Da := Lib.hid (Box2.below Da.out hb)
              replace Sa := Lib.hid (Sa.out.below hb)
              replace Db := Lib.hid (Box2.below Db.out hb)
              replace Sb := Lib.hid (Sb.out.below hb)
              replace Dx := Lib.hid (Box2.below Dx.out hb)
              replace Sx := Lib.hid (Sx.out.below hb)
              replace HB := Lib.hid (HB.out.trans (Below.mono hb HB.out.size))
              clear hb hG
              rw [r13]
              go_wp2_with fail
              go_ret
              exact ⟨rfl, HB.out⟩
end Go.Proofs.YtmajcjdhhnhmmaaDoor
