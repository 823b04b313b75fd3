import Derived.Test.YtmajcjdhhnhmmaaDoorShareZ
import Derived.Test.YtmajcjdhhnhmmaaDoorKept3
import Derived.Test.YtmajcjdhhnhmmaaDoorBigTextsL
/- litmuslaw02.BigShares returns true. -/
namespace Go.Proofs.YtmajcjdhhnhmmaaDoor
open Go.RowKit Go.Num Go.Kp
attribute [local go_sem] Oper.semAt_some u64_mask ev_const ev_func ev_global
set_option maxHeartbeats 16000000 in
set_option maxRecDepth 100000 in
theorem bigShares_any (w : World) (n0 : Bool) (m0 : Value) (l0 : List Nat) (n1 : Bool) (m1 : Value) (l1 : List Nat) (h0 : Arg encU w m0 l0) (hl0 : Lim l0) (hn0 : l0.length ≤ 9223372036854775807) (h1 : Arg encU w m1 l1) (hl1 : Lim l1) (hn1 : l1.length ≤ 9223372036854775807) :
    Calls Tryd.prog 6 #[.agg #[.bool n0, m0], .agg #[.bool n1, m1]] w fun e w' => e = .returned (.bool true) ∧ Below w.heap.size w w' := by
  go_enter Tryd.func6, Tryd.ntmps6
  have h0q := h0
  obtain ⟨A0, d0, rfl, _, _⟩ := h0q.open_
  clear h0q
  have h1q := h1
  obtain ⟨A1, d1, rfl, _, _⟩ := h1q.open_
  clear h1q
  obtain ⟨a, ha⟩ : ∃ z, sg n0 (val (l0.take 8)) = z := ⟨_, rfl⟩
  have hka : szz a ≤ 8 := ha ▸ few_szz n0 8 hl0
  obtain ⟨b, hb⟩ : ∃ z, sg n1 (val (l1.take 8)) = z := ⟨_, rfl⟩
  have hkb : szz b ≤ 8 := hb ▸ few_szz n1 8 hl1
  have HB0 : Hid (Below w.heap.size w ((w.alloc (.cells #[.bool n0, (.slice A0 l0.length d0)] 24)).alloc (.cells #[.bool n1, (.slice A1 l1.length d1)] 24))) := Lib.hid (((Below.refl _ w).alloc (Nat.le_refl _) _).alloc (by simp) _)
  have DA0 := Lib.hid ((Box2.new w 24 (.bool n0) (.slice A0 l0.length d0)).alloc (.cells #[.bool n1, (.slice A1 l1.length d1)] 24))
  have DB0 : Hid (Box2 ((w.alloc (.cells #[.bool n0, (.slice A0 l0.length d0)] 24)).alloc (.cells #[.bool n1, (.slice A1 l1.length d1)] 24)) (w.heap.size + 1) 24 (.bool n1) (.slice A1 l1.length d1)) := Lib.hid (by have := Box2.new (w.alloc (.cells #[.bool n0, (.slice A0 l0.length d0)] 24)) 24 (.bool n1) (.slice A1 l1.length d1); rwa [World.size_alloc] at this)
  go_wp2_with fail
  refine (works_any _).mono ?_
  rintro e x0 ⟨rfl, q0⟩
  have HB := Lib.hid (HB0.out.trans (Below.mono q0 HB0.out.size))
  have DA := Lib.hid (Box2.below DA0.out q0)
  have DB := Lib.hid (Box2.below DB0.out q0)
  clear DA0 DB0 HB0 q0
  replace h0 := h0.below HB.out
  replace h1 := h1.below HB.out
  go_upto_region 3 with fail
  refine wp_region_going 4 [] ([fun vq _ => vq = .agg #[.bool n0, .slice A0 l0.length d0],
      fun vq wq => WV x0 vq a,
      fun vq _ => vq = .agg #[.bool n1, .slice A1 l1.length d1],
      fun vq wq => WV x0 vq b]) (by kernel_rfl) (by kernel_rfl) (by decide) (by kernel_rfl) (by kernel_rfl) ?_ ?_ ?_
  · intro j hj; cases hj
  · refine po rfl (fun lq aq wq hk hr K hK => ?_) ?_
    · have B2 : ev aq (.tmp 2) = .pointer (some ⟨w.heap.size, 0, none⟩) := hk.base 2 (by kernel_rfl) rfl
      have hb := grows_of hk.ext
      have c0 := (Box2.below DA.out hb).c0
      have c1 := (Box2.below DA.out hb).c1
      exact vc hK (by go_simp) (fun w2 h2 => rfl)
    refine po rfl (fun lq aq wq hk hr K hK => ?_) ?_
    · have E0 : ev aq (.tmp 16) = .agg #[.bool n0, .slice A0 l0.length d0] := hk.dc hr 0 (by kernel_rfl) fun _ _ h => h
      exact yc hK (by go_simp) (few_v x0 wq 8 (h0) hl0 hn0 (by decide) ha) (fun u w1 hu w2 h2 => hu)
    refine po rfl (fun lq aq wq hk hr K hK => ?_) ?_
    · have B3 : ev aq (.tmp 3) = .pointer (some ⟨w.heap.size + 1, 0, none⟩) := hk.base 3 (by kernel_rfl) rfl
      have hb := grows_of hk.ext
      have c0 := (Box2.below DB.out hb).c0
      have c1 := (Box2.below DB.out hb).c1
      exact vc hK (by go_simp) (fun w2 h2 => rfl)
    refine po rfl (fun lq aq wq hk hr K hK => ?_) ?_
    · have E2 : ev aq (.tmp 18) = .agg #[.bool n1, .slice A1 l1.length d1] := hk.dc hr 2 (by kernel_rfl) fun _ _ h => h
      exact yc hK (by go_simp) (few_v x0 wq 8 (h1) hl1 hn1 (by decide) hb) (fun u w1 hu w2 h2 => hu)
    exact AllOps.nil
  intro V x1 hG hV hap
  have r1 : WV x0 (V 1) a := hV 1 (by decide)
  have r3 : WV x0 (V 3) b := hV 3 (by decide)
  clear hV hap
  simp only [List.take_succ_cons, List.take_zero, List.drop_succ_cons, List.drop_zero, putAll, Act.put, List.setIfInBounds_toArray, List.set_cons_zero, List.set_cons_succ]
  have hb := grows_of hG
  obtain ⟨na, Aa, ka, ca, ea', sa⟩ := r1
  obtain ⟨nb, Ab, kb, cb, eb', sb⟩ := r3
  simp only [ea', eb']
  clear ea' eb'
  replace DA := Box2.below DA.out hb
  replace DB := Box2.below DB.out hb
  replace sa := sa.below hb
  replace sb := sb.below hb
  replace HB := HB.out.trans (Below.mono hb HB.out.size)
  clear hb hG h0 h1 hl0 hl1 hn0 hn1
  refine wpList_of_skip rfl (op_store 2 17 _ rfl rfl DA) ?_
  refine wpList_of_skip rfl (op_store 3 19 _ rfl rfl (put2_far DB (Nat.succ_ne_self _))) ?_
  have PA := put2_own (u := .bool na) (v := .slice Aa ka ca) DA
  have PB := put2_own (u := .bool nb) (v := .slice Ab kb cb) (put2_far (u := .bool na) (v := .slice Aa ka ca) DB (Nat.succ_ne_self _))
  have QA := put2_far (u := .bool nb) (v := .slice Ab kb cb) PA (show w.heap.size ≠ w.heap.size + 1 by omega)
  have Sa := Lib.hid ((sa.put DA (.bool na) (.slice Aa ka ca)).put (put2_far (u := .bool na) (v := .slice Aa ka ca) DB (Nat.succ_ne_self _)) (.bool nb) (.slice Ab kb cb))
  have Sb := Lib.hid ((sb.put DA (.bool na) (.slice Aa ka ca)).put (put2_far (u := .bool na) (v := .slice Aa ka ca) DB (Nat.succ_ne_self _)) (.bool nb) (.slice Ab kb cb))
  replace HB := Lib.hid (put2_below (u := .bool nb) (v := .slice Ab kb cb) (put2_below (u := .bool na) (v := .slice Aa ka ca) HB (Nat.le_refl _)) (Nat.le_succ _))
  clear DA DB PA sa sb
  generalize put2 (put2 x1 w.heap.size (.bool na) (.slice Aa ka ca)) (w.heap.size + 1) (.bool nb) (.slice Ab kb cb) = y1 at *
  have Da := Lib.hid QA
  have Db := Lib.hid PB
  clear QA PB
  go_upto_region 4 with fail
  obtain ⟨la, xa, qa, hla, eza⟩ := Sa.out
  obtain ⟨A9, c9, e9, _, _⟩ := qa.arg.open_
  obtain ⟨rfl, rfl, rfl⟩ : Aa = A9 ∧ ka = la.length ∧ ca = c9 := by injection e9 with h1 h2 h3; exact ⟨h1, h2, h3⟩
  have Qa := Lib.hid qa
  clear qa e9
  obtain ⟨lb, xb, qb, hlb, ezb⟩ := Sb.out
  obtain ⟨A9, c9, e9, _, _⟩ := qb.arg.open_
  obtain ⟨rfl, rfl, rfl⟩ : Ab = A9 ∧ kb = lb.length ∧ cb = c9 := by injection e9 with h1 h2 h3; exact ⟨h1, h2, h3⟩
  have Qb := Lib.hid qb
  clear qb e9
  refine wp_region_late 16 [7, 8, 13] [14, 15] ([fun vq _ => vq = .pointer (some ⟨w.heap.size, 0, none⟩),
      fun vq _ => vq = .bool na,
      fun vq wq => ∃ bq, vq = .slice (some bq) 0 0,
      fun vq _ => vq = .pointer (some ⟨w.heap.size, 1, none⟩),
      fun vq _ => vq = .slice Aa la.length ca,
      fun vq wq => LV wq vq la xa,
      fun vq wq => XV wq vq na la xa,
      fun vq _ => vq = .pointer (some ⟨w.heap.size + 1, 0, none⟩),
      fun vq _ => vq = .bool nb,
      fun vq wq => ∃ bq, vq = .slice (some bq) 0 0,
      fun vq _ => vq = .pointer (some ⟨w.heap.size + 1, 1, none⟩),
      fun vq _ => vq = .slice Ab lb.length cb,
      fun vq wq => LV wq vq lb xb,
      fun vq wq => XV wq vq nb lb xb,
      fun vq wq => ∃ bq, vq = .pointer (some ⟨bq, 0, none⟩) ∧ Box2 wq bq 24 (.bool false) (.slice none 0 0) ∧ (y1).heap.size ≤ bq,
      fun vq wq => ∃ bq, vq = .pointer (some ⟨bq, 0, none⟩) ∧ Box2 wq bq 24 (.bool false) (.slice none 0 0) ∧ (y1).heap.size ≤ bq]) rfl rfl rfl (by kernel_rfl) (by kernel_rfl) (by kernel_rfl) (by decide) (by kernel_rfl) (by kernel_rfl) (by kernel_rfl) ?_ ?_ ?_
  · intro j hj v w h
    simp only [List.mem_cons, List.not_mem_nil, or_false] at hj
    rcases hj with rfl | rfl
    all_goals (obtain ⟨b, rfl, hB, _⟩ := h; exact hB.lt)
  · refine po rfl (fun lq aq wq hk hr K hK => ?_) ?_
    · have B2 : ev aq (.tmp 2) = .pointer (some ⟨w.heap.size, 0, none⟩) := hk.base 2 (by kernel_rfl) rfl
      exact vc hK (by go_simp) (fun w2 h2 => rfl)
    refine po rfl (fun lq aq wq hk hr K hK => ?_) ?_
    · have E0 : ev aq (.tmp 20) = .pointer (some ⟨w.heap.size, 0, none⟩) := hk.dc hr 0 (by kernel_rfl) fun _ _ h => h
      have hb := grows_of hk.ext
      have c0 := (Box2.below Da.out hb).c0
      exact vc hK (by go_simp) (fun w2 h2 => rfl)
    refine po rfl (fun lq aq wq hk hr K hK => ?_) ?_
    · exact wp_of_value (v := .slice (some ⟨wq.heap.size, 0, none⟩) 0 0) (w' := wq.alloc (.cells #[] 52)) (by go_simp) (hK.out _ _ ((Grows.refl _).alloc _) (fun w2 h2 => ⟨_, rfl⟩) (fun h => absurd h (by decide)))
    refine po rfl (fun lq aq wq hk hr K hK => ?_) ?_
    · have B2 : ev aq (.tmp 2) = .pointer (some ⟨w.heap.size, 0, none⟩) := hk.base 2 (by kernel_rfl) rfl
      exact vc hK (by go_simp) (fun w2 h2 => rfl)
    refine po rfl (fun lq aq wq hk hr K hK => ?_) ?_
    · have E3 : ev aq (.tmp 23) = .pointer (some ⟨w.heap.size, 1, none⟩) := hk.dc hr 3 (by kernel_rfl) fun _ _ h => h
      have hb := grows_of hk.ext
      have c1 := (Box2.below Da.out hb).c1
      exact vc hK (by go_simp) (fun w2 h2 => rfl)
    refine po rfl (fun lq aq wq hk hr K hK => ?_) ?_
    · obtain ⟨v2, E2, bq, rfl⟩ := hk.dp hr 2 22 (by kernel_rfl)
      have E4 : ev aq (.tmp 24) = .slice Aa la.length ca := hk.dc hr 4 (by kernel_rfl) fun _ _ h => h
      obtain ⟨v9, w9, hrun, h1, h2⟩ := op_copy 22 24 bq E2 E4 (Qa.out.below (grows_of hk.ext)) hla
      exact wp_of_value hrun (hK.out _ _ h2 (fun w3 h3 => h1.grow h3) (fun h => absurd h (by decide)))
    refine po rfl (fun lq aq wq hk hr K hK => ?_) ?_
    · have E1 : ev aq (.tmp 21) = .bool na := hk.dc hr 1 (by kernel_rfl) fun _ _ h => h
      obtain ⟨v5, E5, A9, c9, rfl, h9⟩ := hk.dp hr 5 25 (by kernel_rfl)
      exact vc hK (by go_simp) (fun w2 h2 => XV.grow ⟨_, _, rfl, h9⟩ h2)
    refine po rfl (fun lq aq wq hk hr K hK => ?_) ?_
    · have B3 : ev aq (.tmp 3) = .pointer (some ⟨w.heap.size + 1, 0, none⟩) := hk.base 3 (by kernel_rfl) rfl
      exact vc hK (by go_simp) (fun w2 h2 => rfl)
    refine po rfl (fun lq aq wq hk hr K hK => ?_) ?_
    · have E7 : ev aq (.tmp 27) = .pointer (some ⟨w.heap.size + 1, 0, none⟩) := hk.dc hr 7 (by kernel_rfl) fun _ _ h => h
      have hb := grows_of hk.ext
      have c0 := (Box2.below Db.out hb).c0
      exact vc hK (by go_simp) (fun w2 h2 => rfl)
    refine po rfl (fun lq aq wq hk hr K hK => ?_) ?_
    · exact wp_of_value (v := .slice (some ⟨wq.heap.size, 0, none⟩) 0 0) (w' := wq.alloc (.cells #[] 52)) (by go_simp) (hK.out _ _ ((Grows.refl _).alloc _) (fun w2 h2 => ⟨_, rfl⟩) (fun h => absurd h (by decide)))
    refine po rfl (fun lq aq wq hk hr K hK => ?_) ?_
    · have B3 : ev aq (.tmp 3) = .pointer (some ⟨w.heap.size + 1, 0, none⟩) := hk.base 3 (by kernel_rfl) rfl
      exact vc hK (by go_simp) (fun w2 h2 => rfl)
    refine po rfl (fun lq aq wq hk hr K hK => ?_) ?_
    · have E10 : ev aq (.tmp 30) = .pointer (some ⟨w.heap.size + 1, 1, none⟩) := hk.dc hr 10 (by kernel_rfl) fun _ _ h => h
      have hb := grows_of hk.ext
      have c1 := (Box2.below Db.out hb).c1
      exact vc hK (by go_simp) (fun w2 h2 => rfl)
    refine po rfl (fun lq aq wq hk hr K hK => ?_) ?_
    · obtain ⟨v9, E9, bq, rfl⟩ := hk.dp hr 9 29 (by kernel_rfl)
      have E11 : ev aq (.tmp 31) = .slice Ab lb.length cb := hk.dc hr 11 (by kernel_rfl) fun _ _ h => h
      obtain ⟨v9, w9, hrun, h1, h2⟩ := op_copy 29 31 bq E9 E11 (Qb.out.below (grows_of hk.ext)) hlb
      exact wp_of_value hrun (hK.out _ _ h2 (fun w3 h3 => h1.grow h3) (fun h => absurd h (by decide)))
    refine po rfl (fun lq aq wq hk hr K hK => ?_) ?_
    · have E8 : ev aq (.tmp 28) = .bool nb := hk.dc hr 8 (by kernel_rfl) fun _ _ h => h
      obtain ⟨v12, E12, A9, c9, rfl, h9⟩ := hk.dp hr 12 32 (by kernel_rfl)
      exact vc hK (by go_simp) (fun w2 h2 => XV.grow ⟨_, _, rfl, h9⟩ h2)
    refine po rfl (fun lq aq wq hk hr K hK => ?_) ?_
    · exact wp_of_value (by go_simp) (hK.out _ _ ((Grows.refl _).alloc _) (fun w2 h2 => ⟨_, rfl, (Box2.new wq 24 _ _).below h2, (grows_of hk.ext).size⟩) (fun _ => Nat.le_refl _))
    refine po rfl (fun lq aq wq hk hr K hK => ?_) ?_
    · exact wp_of_value (by go_simp) (hK.out _ _ ((Grows.refl _).alloc _) (fun w2 h2 => ⟨_, rfl, (Box2.new wq 24 _ _).below h2, (grows_of hk.ext).size⟩) (fun _ => Nat.le_refl _))
    exact AllOps.nil
  intro lq aq wq hk hL
  obtain ⟨v6, E6, r6⟩ := hk.rel 6 _ (hL 6 (by decide) (by decide)) rfl
  obtain ⟨A6, c6, rfl, h6⟩ := r6 wq (Grows.refl wq)
  obtain ⟨v12, E12, r12⟩ := hk.rel 12 _ (hL 12 (by decide) (by decide)) rfl
  obtain ⟨A8, c8, rfl, h12⟩ := r12 wq (Grows.refl wq)
  obtain ⟨v14, E14, r14⟩ := hk.rel 14 _ (hL 14 (by decide) (by decide)) rfl
  obtain ⟨b1, rfl, D1, g1⟩ := r14 wq (Grows.refl wq)
  obtain ⟨v15, E15, r15⟩ := hk.rel 15 _ (hL 15 (by decide) (by decide)) rfl
  obtain ⟨b2, rfl, D2, g2⟩ := r15 wq (Grows.refl wq)
  have nn : b1 ≠ b2 := hk.apart 14 15 5 6 _ _ (by decide) (by decide) (by decide) (hL 14 (by decide) (by decide)) (hL 15 (by decide) (by decide)) rfl rfl (E14 5 rfl) (E15 6 rfl)
  have hb := grows_of hk.ext
  have D1' := put2_own (u := .bool na) (v := .slice A6 la.length c6) D1
  have D2' := put2_far (u := .bool na) (v := .slice A6 la.length c6) D2 (Ne.symm nn)
  have hB := put2_below (u := .bool na) (v := .slice A6 la.length c6) hb g1
  have h6' := Num.putB h6 D1 (.bool na) (.slice A6 la.length c6)
  have h12' := Num.putB h12 D1 (.bool na) (.slice A6 la.length c6)
  refine ⟨put2 wq b1 (.bool na) (.slice A6 la.length c6), [fun _ _ => True, fun _ _ => True, fun _ _ => True, fun _ _ => True, fun _ _ => True, fun _ _ => True, fun _ _ => True, fun vq _ => vq = .pointer (some ⟨w.heap.size + 1, 0, none⟩), fun vq _ => vq = .bool nb, fun _ _ => True, fun _ _ => True, fun _ _ => True, fun vq _ => vq = .slice A8 lb.length c8, fun vq wq => XV wq vq nb lb xb, fun vq _ => vq = .pointer (some ⟨b1, 0, none⟩), fun vq _ => vq = .pointer (some ⟨b2, 0, none⟩), fun _ _ => True], op_store 5 26 _ (ev_tmp (E14 5 rfl)) (ev_tmp (E6 26 rfl)) D1, fun _ _ => trivial, ?_, ?_, ?_⟩
  · intro j o hl ho
    have hj : j < 16 := hk.head j hl
    obtain ⟨v, hv, hR⟩ := hk.rel j o hl (by simpa using ho)
    have hR := hR wq (Grows.refl wq)
    refine ⟨v, hv, fun w9 h9 => ?_⟩
    have hj2 : j = 0 ∨ j = 1 ∨ j = 2 ∨ j = 3 ∨ j = 4 ∨ j = 5 ∨ j = 6 ∨ j = 7 ∨ j = 8 ∨ j = 9 ∨ j = 10 ∨ j = 11 ∨ j = 12 ∨ j = 13 ∨ j = 14 ∨ j = 15 := by omega
    rcases hj2 with rfl | rfl | rfl | rfl | rfl | rfl | rfl | rfl | rfl | rfl | rfl | rfl | rfl | rfl | rfl | rfl
    iterate 7 exact trivial
    · exact hR
    · exact hR
    iterate 3 exact trivial
    · cases ho
      exact Option.some.inj ((hv 32 rfl).symm.trans (E12 32 rfl))
    · exact (XV.put hR D1 (.bool na) (.slice A6 la.length c6)).grow h9
    · cases ho
      exact Option.some.inj ((hv 5 rfl).symm.trans (E14 5 rfl))
    · cases ho
      exact Option.some.inj ((hv 6 rfl).symm.trans (E15 6 rfl))
  · intro i o hi hiX ho
    simp only [List.mem_cons, List.not_mem_nil, or_false] at hiX
    rcases hiX with rfl | rfl | rfl
    · cases ho
      refine Does.plain rfl fun lq' aq' wq' hk' hr' K hK => ?_
      have B3 : ev aq' (.tmp 3) = .pointer (some ⟨w.heap.size + 1, 0, none⟩) := hk'.base 3 (by kernel_rfl) rfl
      exact vc hK (by go_simp) (fun w2 h2 => rfl)
    · cases ho
      refine Does.plain rfl fun lq' aq' wq' hk' hr' K hK => ?_
      have E7 : ev aq' (.tmp 27) = .pointer (some ⟨w.heap.size + 1, 0, none⟩) := hk'.dc hr' 7 (by kernel_rfl) fun _ _ h => h
      have c0 := (Box2.below Db.out (hB.trans (Below.mono hk'.ext hB.size))).c0
      exact vc hK (by go_simp) (fun w2 h2 => rfl)
    · cases ho
      refine Does.plain rfl fun lq' aq' wq' hk' hr' K hK => ?_
      have E8 : ev aq' (.tmp 28) = .bool nb := hk'.dc hr' 8 (by kernel_rfl) fun _ _ h => h
      have E12' : ev aq' (.tmp 32) = .slice A8 lb.length c8 := hk'.dc hr' 12 (by kernel_rfl) fun _ _ h => h
      exact vc hK (by go_simp) (fun w2 h2 => XV.grow ⟨_, _, rfl, h12'.below hk'.ext⟩ h2)
  intro V x4 hG hV
  have r13 : XV x4 (V 13) nb lb xb := hV 13 (by decide)
  have r14 : (V 14) = .pointer (some ⟨b1, 0, none⟩) := hV 14 (by decide)
  have r15 : (V 15) = .pointer (some ⟨b2, 0, none⟩) := hV 15 (by decide)
  clear hV
  simp only [List.take_succ_cons, List.take_zero, List.drop_succ_cons, List.drop_zero, putAll, Act.put, List.setIfInBounds_toArray, List.set_cons_zero, List.set_cons_succ]
  obtain ⟨A7, c7, e7, h7⟩ := r13
  simp only [e7, r14, r15]
  clear e7 r14 r15 r6 r12 E6 E12 E14 E15 hk hL h12 h6 h12' D1 D2 hb
  replace D1' := D1'.below hG
  replace D2' := D2'.below hG
  replace h6' := h6'.below hG
  replace hB := hB.trans (Below.mono hG hB.size)
  refine wpList_of_skip rfl (op_store 6 33 _ rfl rfl D2') ?_
  have hBB := put2_below (u := .bool nb) (v := .slice A7 lb.length c7) hB g2
  have Dx := put2_far (u := .bool nb) (v := .slice A7 lb.length c7) D1' nn
  have Dy := put2_own (u := .bool nb) (v := .slice A7 lb.length c7) D2'
  have Nx := Num.putB h6' D2' (.bool nb) (.slice A7 lb.length c7)
  have Ny := Num.putB h7 D2' (.bool nb) (.slice A7 lb.length c7)
  clear hG hB h6' h7 D1' D2'
  generalize put2 x4 b2 (.bool nb) (.slice A7 lb.length c7) = y4 at *
  replace Da := Lib.hid (Box2.below Da.out hBB)
  replace Sa := Lib.hid (Sa.out.below hBB)
  replace Db := Lib.hid (Box2.below Db.out hBB)
  replace Sb := Lib.hid (Sb.out.below hBB)
  replace Qa := Lib.hid (Qa.out.below hBB)
  replace Qb := Lib.hid (Qb.out.below hBB)
  replace HB := Lib.hid (HB.out.trans (Below.mono hBB HB.out.size))
  have lx := Dx.lt
  have ly := Dy.lt
  clear hBB g1 g2 nn
  replace Dx := Lib.hid Dx
  replace Dy := Lib.hid Dy
  replace Nx := Lib.hid Nx
  replace Ny := Lib.hid Ny
  have Sx : Hid (Whole y4 na (.slice A6 la.length c6) a) := Lib.hid ⟨la, xa, Nx.out, hla, eza⟩
  have Sy : Hid (Whole y4 nb (.slice A7 lb.length c7) b) := Lib.hid ⟨lb, xb, Ny.out, hlb, ezb⟩
  have HB9 := HB
  replace HB := Lib.hid (Below.refl y4.heap.size y4)
  have Da9 := Da
  have Db9 := Db
  have Dx9 := Dx
  have Dy9 := Dy
  have Nx9 := Nx
  have Ny9 := Ny
  have Qa9 := Qa
  have Qb9 := Qb
  clear Da Db Qa Qb Sa Sb Ny
  go_upto_region 5 with fail
  refine wp_region_calm 7 [6] ([fun vq wq => WV wq vq a,
      fun vq wq => WV wq vq b,
      fun vq wq => ∃ u0 u1, vq = .tuple #[u0, u1] ∧ OZ y4.heap.size wq u0 ∧ ∃ j : Int, u1 = .int .i64 j,
      fun vq wq => ∃ u0 u1, vq = .tuple #[u0, u1] ∧ OZ y4.heap.size wq u0 ∧ ∃ j : Int, u1 = .int .i64 j,
      fun vq wq => OZ y4.heap.size wq vq,
      fun vq wq => ∃ j : Int, vq = .int .i64 j,
      fun vq wq => ∃ bq, vq = .pointer (some ⟨bq, 0, none⟩) ∧ Box2 wq bq 24 (.bool false) (.slice none 0 0) ∧ (y4).heap.size ≤ bq]) (by kernel_rfl) (by decide) ?_ ?_ ?_
  · intro j hj v w h
    simp only [List.mem_cons, List.not_mem_nil, or_false] at hj
    subst hj
    all_goals (obtain ⟨b, rfl, hB, _⟩ := h; exact hB.lt)
  · refine po rfl (fun lq aq wq hk hr K hK => ?_) ?_
    · have B5 : ev aq (.tmp 5) = .pointer (some ⟨b1, 0, none⟩) := hk.base 5 (by kernel_rfl) rfl
      have hb : Below _ _ _ := hk.ext
      exact vc hK (op_load 5 _ B5 (Box2.below Dx.out hb)) (fun w2 h2 => ⟨_, _, _, _, rfl, (Sx.out.below hb).below h2⟩)
    refine po rfl (fun lq aq wq hk hr K hK => ?_) ?_
    · have B6 : ev aq (.tmp 6) = .pointer (some ⟨b2, 0, none⟩) := hk.base 6 (by kernel_rfl) rfl
      have hb : Below _ _ _ := hk.ext
      exact vc hK (op_load 6 _ B6 (Box2.below Dy.out hb)) (fun w2 h2 => ⟨_, _, _, _, rfl, (Sy.out.below hb).below h2⟩)
    refine po rfl (fun lq aq wq hk hr K hK => ?_) ?_
    · obtain ⟨v0, E0, r0⟩ := hk.dp hr 0 35 (by kernel_rfl)
      have r0 : WV wq v0 a := r0
      obtain ⟨v1, E1, r1⟩ := hk.dp hr 1 36 (by kernel_rfl)
      have r1 : WV wq v1 b := r1
      exact yc hK (by go_simp) (div_z wq (Nat.le_trans HB.out.size hk.ext.size) r0 r1 (Nat.le_trans hka (by decide))) (fun u w1 hu w2 h2 => (let ⟨u0, u1, e0, h0, h1⟩ := hu; ⟨u0, u1, e0, OZ.grow (h0) h2, h1⟩))
    refine po rfl (fun lq aq wq hk hr K hK => ?_) ?_
    · obtain ⟨v2, E2, r2⟩ := hk.dp hr 2 37 (by kernel_rfl)
      have r2 : ∃ u0 u1, v2 = .tuple #[u0, u1] ∧ OZ y4.heap.size wq u0 ∧ ∃ j : Int, u1 = .int .i64 j := r2
      exact vc hK (by go_simp) (fun w2 h2 => (let ⟨u0, u1, e0, h0, h1⟩ := r2; ⟨u0, u1, e0, OZ.grow (h0) h2, h1⟩))
    refine po rfl (fun lq aq wq hk hr K hK => ?_) ?_
    · obtain ⟨v3, E3, r3⟩ := hk.dp hr 3 34 (by kernel_rfl)
      have r3 : ∃ u0 u1, v3 = .tuple #[u0, u1] ∧ OZ y4.heap.size wq u0 ∧ ∃ j : Int, u1 = .int .i64 j := r3
      obtain ⟨u0, u1, rfl, h0, h1⟩ := r3
      exact vc hK (by go_simp) (fun w2 h2 => OZ.grow (h0) h2)
    refine po rfl (fun lq aq wq hk hr K hK => ?_) ?_
    · obtain ⟨v3, E3, r3⟩ := hk.dp hr 3 34 (by kernel_rfl)
      have r3 : ∃ u0 u1, v3 = .tuple #[u0, u1] ∧ OZ y4.heap.size wq u0 ∧ ∃ j : Int, u1 = .int .i64 j := r3
      obtain ⟨u0, u1, rfl, h0, h1⟩ := r3
      exact vc hK (by go_simp) (fun w2 h2 => h1)
    refine po rfl (fun lq aq wq hk hr K hK => ?_) ?_
    · exact wp_of_value (by go_simp) (hK.out _ _ ((Grows.refl _).alloc _) (fun w2 h2 => ⟨_, rfl, (Box2.new wq 24 _ _).below h2, hk.ext.size⟩) (fun _ => Nat.le_refl _))
    exact AllOps.nil
  intro V x5 hG hV hap
  have r4 : OZ y4.heap.size x5 (V 4) := hV 4 (by decide)
  have r5 : ∃ j : Int, (V 5) = .int .i64 j := hV 5 (by decide)
  have r6 : ∃ bq, (V 6) = .pointer (some ⟨bq, 0, none⟩) ∧ Box2 x5 bq 24 (.bool false) (.slice none 0 0) ∧ (y4).heap.size ≤ bq := hV 6 (by decide)
  clear hV
  simp only [List.take_succ_cons, List.take_zero, List.drop_succ_cons, List.drop_zero, putAll, Act.put, List.setIfInBounds_toArray, List.set_cons_zero, List.set_cons_succ]
  have hb := (show Below _ _ _ from hG)
  obtain ⟨bq, eq, Dq, gq⟩ := r6
  obtain ⟨nq, Aq, kq, cq, eq9, oq⟩ := r4
  obtain ⟨jq, r5⟩ := r5
  simp only [eq, eq9, r5]
  clear eq eq9 hap hG r5
  refine wpList_of_skip rfl (op_store 7 38 _ rfl rfl Dq) ?_
  have hB := put2_below (u := .bool nq) (v := .slice Aq kq cq) hb gq
  replace oq := oq.put Dq (.bool nq) (.slice Aq kq cq)
  replace Dq := put2_own (u := .bool nq) (v := .slice Aq kq cq) Dq
  clear hb
  generalize put2 x5 bq (.bool nq) (.slice Aq kq cq) = y6 at *
  replace Dx := Lib.hid (Box2.below Dx.out hB)
  replace Sx := Lib.hid (Sx.out.below hB)
  replace Dy := Lib.hid (Box2.below Dy.out hB)
  replace Sy := Lib.hid (Sy.out.below hB)
  replace Nx := Lib.hid (Nx.out.below hB)
  replace HB := Lib.hid (HB.out.trans (Below.mono hB HB.out.size))
  replace Dq := Lib.hid Dq
  have Oq := Lib.hid oq
  clear hB gq oq
  go_upto_region 6 with fail
  refine wp_region_calm 7 [6] ([fun vq wq => WV wq vq a,
      fun vq wq => WV wq vq b,
      fun vq wq => ∃ u0 u1, vq = .tuple #[u0, u1] ∧ OZ y4.heap.size wq u0 ∧ ∃ j : Int, u1 = .int .i64 j,
      fun vq wq => ∃ u0 u1, vq = .tuple #[u0, u1] ∧ OZ y4.heap.size wq u0 ∧ ∃ j : Int, u1 = .int .i64 j,
      fun vq wq => OZ y4.heap.size wq vq,
      fun vq wq => ∃ j : Int, vq = .int .i64 j,
      fun vq wq => ∃ bq, vq = .pointer (some ⟨bq, 0, none⟩) ∧ Box2 wq bq 24 (.bool false) (.slice none 0 0) ∧ (y6).heap.size ≤ bq]) (by kernel_rfl) (by decide) ?_ ?_ ?_
  · intro j hj v w h
    simp only [List.mem_cons, List.not_mem_nil, or_false] at hj
    subst hj
    all_goals (obtain ⟨b, rfl, hB, _⟩ := h; exact hB.lt)
  · refine po rfl (fun lq aq wq hk hr K hK => ?_) ?_
    · have B5 : ev aq (.tmp 5) = .pointer (some ⟨b1, 0, none⟩) := hk.base 5 (by kernel_rfl) rfl
      have hb : Below _ _ _ := hk.ext
      exact vc hK (op_load 5 _ B5 (Box2.below Dx.out hb)) (fun w2 h2 => ⟨_, _, _, _, rfl, (Sx.out.below hb).below h2⟩)
    refine po rfl (fun lq aq wq hk hr K hK => ?_) ?_
    · have B6 : ev aq (.tmp 6) = .pointer (some ⟨b2, 0, none⟩) := hk.base 6 (by kernel_rfl) rfl
      have hb : Below _ _ _ := hk.ext
      exact vc hK (op_load 6 _ B6 (Box2.below Dy.out hb)) (fun w2 h2 => ⟨_, _, _, _, rfl, (Sy.out.below hb).below h2⟩)
    refine po rfl (fun lq aq wq hk hr K hK => ?_) ?_
    · obtain ⟨v0, E0, r0⟩ := hk.dp hr 0 41 (by kernel_rfl)
      have r0 : WV wq v0 a := r0
      obtain ⟨v1, E1, r1⟩ := hk.dp hr 1 42 (by kernel_rfl)
      have r1 : WV wq v1 b := r1
      exact yc hK (by go_simp) (mod_z wq (Nat.le_trans HB.out.size hk.ext.size) r0 r1 (Nat.le_trans hkb (by decide))) (fun u w1 hu w2 h2 => (let ⟨u0, u1, e0, h0, h1⟩ := hu; ⟨u0, u1, e0, OZ.grow (h0) h2, h1⟩))
    refine po rfl (fun lq aq wq hk hr K hK => ?_) ?_
    · obtain ⟨v2, E2, r2⟩ := hk.dp hr 2 43 (by kernel_rfl)
      have r2 : ∃ u0 u1, v2 = .tuple #[u0, u1] ∧ OZ y4.heap.size wq u0 ∧ ∃ j : Int, u1 = .int .i64 j := r2
      exact vc hK (by go_simp) (fun w2 h2 => (let ⟨u0, u1, e0, h0, h1⟩ := r2; ⟨u0, u1, e0, OZ.grow (h0) h2, h1⟩))
    refine po rfl (fun lq aq wq hk hr K hK => ?_) ?_
    · obtain ⟨v3, E3, r3⟩ := hk.dp hr 3 40 (by kernel_rfl)
      have r3 : ∃ u0 u1, v3 = .tuple #[u0, u1] ∧ OZ y4.heap.size wq u0 ∧ ∃ j : Int, u1 = .int .i64 j := r3
      obtain ⟨u0, u1, rfl, h0, h1⟩ := r3
      exact vc hK (by go_simp) (fun w2 h2 => OZ.grow (h0) h2)
    refine po rfl (fun lq aq wq hk hr K hK => ?_) ?_
    · obtain ⟨v3, E3, r3⟩ := hk.dp hr 3 40 (by kernel_rfl)
      have r3 : ∃ u0 u1, v3 = .tuple #[u0, u1] ∧ OZ y4.heap.size wq u0 ∧ ∃ j : Int, u1 = .int .i64 j := r3
      obtain ⟨u0, u1, rfl, h0, h1⟩ := r3
      exact vc hK (by go_simp) (fun w2 h2 => h1)
    refine po rfl (fun lq aq wq hk hr K hK => ?_) ?_
    · exact wp_of_value (by go_simp) (hK.out _ _ ((Grows.refl _).alloc _) (fun w2 h2 => ⟨_, rfl, (Box2.new wq 24 _ _).below h2, hk.ext.size⟩) (fun _ => Nat.le_refl _))
    exact AllOps.nil
  intro V x7 hG hV hap
  have r4 : OZ y4.heap.size x7 (V 4) := hV 4 (by decide)
  have r5 : ∃ j : Int, (V 5) = .int .i64 j := hV 5 (by decide)
  have r6 : ∃ bq, (V 6) = .pointer (some ⟨bq, 0, none⟩) ∧ Box2 x7 bq 24 (.bool false) (.slice none 0 0) ∧ (y6).heap.size ≤ bq := hV 6 (by decide)
  clear hV
  simp only [List.take_succ_cons, List.take_zero, List.drop_succ_cons, List.drop_zero, putAll, Act.put, List.setIfInBounds_toArray, List.set_cons_zero, List.set_cons_succ]
  have hb := (show Below _ _ _ from hG)
  obtain ⟨br, er, Dr, gr⟩ := r6
  obtain ⟨nr, Ar, kr, cr, er9, or⟩ := r4
  obtain ⟨jr, r5⟩ := r5
  simp only [er, er9, r5]
  clear er er9 hap hG r5
  refine wpList_of_skip rfl (op_store 9 44 _ rfl rfl Dr) ?_
  have hB := put2_below (u := .bool nr) (v := .slice Ar kr cr) hb gr
  replace or := or.put Dr (.bool nr) (.slice Ar kr cr)
  replace Dr := put2_own (u := .bool nr) (v := .slice Ar kr cr) Dr
  clear hb
  generalize put2 x7 br (.bool nr) (.slice Ar kr cr) = y8 at *
  replace Dx := Lib.hid (Box2.below Dx.out hB)
  replace Sx := Lib.hid (Sx.out.below hB)
  replace Dy := Lib.hid (Box2.below Dy.out hB)
  replace Sy := Lib.hid (Sy.out.below hB)
  replace Nx := Lib.hid (Nx.out.below hB)
  replace HB := Lib.hid (HB.out.trans (Below.mono hB HB.out.size))
  replace Dq := Lib.hid (Box2.below Dq.out hB)
  replace Oq := Lib.hid (Oq.out.grow hB)
  replace Dr := Lib.hid Dr
  have Or := Lib.hid or
  clear hB gr or
  go_upto_region 7 with fail
  refine wp_region_going 38 [] ([fun vq _ => vq = .pointer (some ⟨b1, 0, none⟩),
      fun vq _ => vq = .bool na,
      fun vq _ => vq = .pointer (some ⟨b1, 1, none⟩),
      fun vq _ => vq = .slice A6 la.length c6,
      fun vq wq => OZ y4.heap.size wq vq,
      fun vq wq => WV wq vq a,
      fun vq wq => OZ y4.heap.size wq vq,
      fun vq wq => WV wq vq a,
      fun vq wq => RowV wq vq [a],
      fun vq wq => OZ y4.heap.size wq vq,
      fun vq wq => WV wq vq a,
      fun vq wq => WV wq vq b,
      fun vq wq => RowV wq vq [a, b],
      fun vq wq => OZ y4.heap.size wq vq,
      fun vq wq => WV wq vq a,
      fun vq wq => ZV wq vq 0,
      fun vq wq => RowV wq vq [a, 0],
      fun vq wq => OZ y4.heap.size wq vq,
      fun vq wq => WV wq vq a,
      fun vq wq => RowV wq vq [a],
      fun vq wq => OZ y4.heap.size wq vq,
      fun vq wq => WV wq vq a,
      fun vq wq => WV wq vq b,
      fun vq wq => RowV wq vq [a, b],
      fun vq wq => OZ y4.heap.size wq vq,
      fun vq wq => WV wq vq a,
      fun vq wq => ZV wq vq 1,
      fun vq wq => RowV wq vq [a, 1],
      fun vq wq => OZ y4.heap.size wq vq,
      fun vq wq => WV wq vq a,
      fun vq wq => WV wq vq b,
      fun vq wq => OZ y4.heap.size wq vq,
      fun vq wq => WV wq vq a,
      fun vq wq => ZV wq vq 0,
      fun vq wq => OZ y4.heap.size wq vq,
      fun vq wq => OZ y4.heap.size wq vq,
      fun vq wq => OZ y4.heap.size wq vq,
      fun vq wq => OutV y4.heap.size wq vq]) (by kernel_rfl) (by kernel_rfl) (by decide) (by kernel_rfl) (by kernel_rfl) ?_ ?_ ?_
  · intro j hj; cases hj
  · refine po rfl (fun lq aq wq hk hr K hK => ?_) ?_
    · have B5 : ev aq (.tmp 5) = .pointer (some ⟨b1, 0, none⟩) := hk.base 5 (by kernel_rfl) rfl
      exact vc hK (by go_simp) (fun w2 h2 => rfl)
    refine po rfl (fun lq aq wq hk hr K hK => ?_) ?_
    · have E0 : ev aq (.tmp 46) = .pointer (some ⟨b1, 0, none⟩) := hk.dc hr 0 (by kernel_rfl) fun _ _ h => h
      have hb := grows_of hk.ext
      have c0 := (Box2.below Dx.out hb).c0
      exact vc hK (by go_simp) (fun w2 h2 => rfl)
    refine po rfl (fun lq aq wq hk hr K hK => ?_) ?_
    · have B5 : ev aq (.tmp 5) = .pointer (some ⟨b1, 0, none⟩) := hk.base 5 (by kernel_rfl) rfl
      exact vc hK (by go_simp) (fun w2 h2 => rfl)
    refine po rfl (fun lq aq wq hk hr K hK => ?_) ?_
    · have E2 : ev aq (.tmp 48) = .pointer (some ⟨b1, 1, none⟩) := hk.dc hr 2 (by kernel_rfl) fun _ _ h => h
      have hb := grows_of hk.ext
      have c1 := (Box2.below Dx.out hb).c1
      exact vc hK (by go_simp) (fun w2 h2 => rfl)
    refine po rfl (fun lq aq wq hk hr K hK => ?_) ?_
    · have E1 : ev aq (.tmp 47) = .bool na := hk.dc hr 1 (by kernel_rfl) fun _ _ h => h
      have E3 : ev aq (.tmp 49) = .slice A6 la.length c6 := hk.dc hr 3 (by kernel_rfl) fun _ _ h => h
      exact yc hK (by go_simp) (Calls.oz (of_o wq (Nat.le_trans HB.out.size (grows_of hk.ext).size) na ⟨_, _, rfl, Nx.out.below (grows_of hk.ext)⟩ eza.symm (Nat.le_trans hka (by decide)))) (fun u w1 hu w2 h2 => OZ.grow (hu) h2)
    refine po rfl (fun lq aq wq hk hr K hK => ?_) ?_
    · have B5 : ev aq (.tmp 5) = .pointer (some ⟨b1, 0, none⟩) := hk.base 5 (by kernel_rfl) rfl
      have hb := grows_of hk.ext
      exact vc hK (op_load 5 _ B5 (Box2.below Dx.out hb)) (fun w2 h2 => ⟨_, _, _, _, rfl, (Sx.out.below hb).below h2⟩)
    refine po rfl (fun lq aq wq hk hr K hK => ?_) ?_
    · obtain ⟨v5, E5, r5⟩ := hk.dp hr 5 51 (by kernel_rfl)
      have r5 : WV wq v5 a := r5
      exact yc hK (by go_simp) (Calls.oz (neg_o wq (Nat.le_trans HB.out.size (grows_of hk.ext).size) r5 (Nat.le_trans (szz_neg hka) (by decide)))) (fun u w1 hu w2 h2 => OZ.grow (hu) h2)
    refine po rfl (fun lq aq wq hk hr K hK => ?_) ?_
    · have B5 : ev aq (.tmp 5) = .pointer (some ⟨b1, 0, none⟩) := hk.base 5 (by kernel_rfl) rfl
      have hb := grows_of hk.ext
      exact vc hK (op_load 5 _ B5 (Box2.below Dx.out hb)) (fun w2 h2 => ⟨_, _, _, _, rfl, (Sx.out.below hb).below h2⟩)
    refine po rfl (fun lq aq wq hk hr K hK => ?_) ?_
    · obtain ⟨v7, E7, r7⟩ := hk.dp hr 7 53 (by kernel_rfl)
      have r7 : WV wq v7 a := r7
      obtain ⟨n7, A7, k7, c7, rfl, s7⟩ := r7
      exact wp_of_value (op_row1 53 E7) (hK.out _ _ ((Grows.refl _).alloc _) (fun w2 h2 => (RowV.one s7).grow h2) (fun h => absurd h (by decide)))
    refine po rfl (fun lq aq wq hk hr K hK => ?_) ?_
    · obtain ⟨v8, E8, r8⟩ := hk.dp hr 8 54 (by kernel_rfl)
      have r8 : RowV wq v8 [a] := r8
      exact yc hK (by go_simp) (Calls.oz (add1_o wq (Nat.le_trans HB.out.size (grows_of hk.ext).size) r8 (Nat.le_trans hka (by decide)))) (fun u w1 hu w2 h2 => OZ.grow (hu) h2)
    refine po rfl (fun lq aq wq hk hr K hK => ?_) ?_
    · have B5 : ev aq (.tmp 5) = .pointer (some ⟨b1, 0, none⟩) := hk.base 5 (by kernel_rfl) rfl
      have hb := grows_of hk.ext
      exact vc hK (op_load 5 _ B5 (Box2.below Dx.out hb)) (fun w2 h2 => ⟨_, _, _, _, rfl, (Sx.out.below hb).below h2⟩)
    refine po rfl (fun lq aq wq hk hr K hK => ?_) ?_
    · have B6 : ev aq (.tmp 6) = .pointer (some ⟨b2, 0, none⟩) := hk.base 6 (by kernel_rfl) rfl
      have hb := grows_of hk.ext
      exact vc hK (op_load 6 _ B6 (Box2.below Dy.out hb)) (fun w2 h2 => ⟨_, _, _, _, rfl, (Sy.out.below hb).below h2⟩)
    refine po rfl (fun lq aq wq hk hr K hK => ?_) ?_
    · obtain ⟨v10, E10, r10⟩ := hk.dp hr 10 56 (by kernel_rfl)
      have r10 : WV wq v10 a := r10
      obtain ⟨n10, A10, k10, c10, rfl, s10⟩ := r10
      obtain ⟨v11, E11, r11⟩ := hk.dp hr 11 57 (by kernel_rfl)
      have r11 : WV wq v11 b := r11
      obtain ⟨n11, A11, k11, c11, rfl, s11⟩ := r11
      exact wp_of_value (op_row2 56 57 E10 E11) (hK.out _ _ ((Grows.refl _).alloc _) (fun w2 h2 => (RowV.two s10 s11).grow h2) (fun h => absurd h (by decide)))
    refine po rfl (fun lq aq wq hk hr K hK => ?_) ?_
    · obtain ⟨v12, E12, r12⟩ := hk.dp hr 12 58 (by kernel_rfl)
      have r12 : RowV wq v12 [a, b] := r12
      exact yc hK (by go_simp) (Calls.oz (add2_o wq (Nat.le_trans HB.out.size (grows_of hk.ext).size) r12 (Nat.le_trans hka (by decide)) (Nat.le_trans (szz_add hka hkb) (by decide)))) (fun u w1 hu w2 h2 => OZ.grow (hu) h2)
    refine po rfl (fun lq aq wq hk hr K hK => ?_) ?_
    · have B5 : ev aq (.tmp 5) = .pointer (some ⟨b1, 0, none⟩) := hk.base 5 (by kernel_rfl) rfl
      have hb := grows_of hk.ext
      exact vc hK (op_load 5 _ B5 (Box2.below Dx.out hb)) (fun w2 h2 => ⟨_, _, _, _, rfl, (Sx.out.below hb).below h2⟩)
    refine po rfl (fun lq aq wq hk hr K hK => ?_) ?_
    · exact vc hK (by go_simp) (fun w2 h2 => (ZV.zero _ 0).grow h2)
    refine po rfl (fun lq aq wq hk hr K hK => ?_) ?_
    · obtain ⟨v14, E14, r14⟩ := hk.dp hr 14 60 (by kernel_rfl)
      have r14 : WV wq v14 a := r14
      obtain ⟨n14, A14, k14, c14, rfl, s14⟩ := r14
      obtain ⟨v15, E15, r15⟩ := hk.dp hr 15 61 (by kernel_rfl)
      have r15 : ZV wq v15 0 := r15
      obtain ⟨n15, A15, k15, c15, rfl, s15⟩ := r15
      exact wp_of_value (op_row2 60 61 E14 E15) (hK.out _ _ ((Grows.refl _).alloc _) (fun w2 h2 => (RowV.two s14 s15.whole).grow h2) (fun h => absurd h (by decide)))
    refine po rfl (fun lq aq wq hk hr K hK => ?_) ?_
    · obtain ⟨v16, E16, r16⟩ := hk.dp hr 16 62 (by kernel_rfl)
      have r16 : RowV wq v16 [a, 0] := r16
      exact yc hK (by go_simp) (Calls.oz (add2_o wq (Nat.le_trans HB.out.size (grows_of hk.ext).size) r16 (Nat.le_trans hka (by decide)) (Nat.le_trans (szz_add hka szz_zero) (by decide)))) (fun u w1 hu w2 h2 => OZ.grow (hu) h2)
    refine po rfl (fun lq aq wq hk hr K hK => ?_) ?_
    · have B5 : ev aq (.tmp 5) = .pointer (some ⟨b1, 0, none⟩) := hk.base 5 (by kernel_rfl) rfl
      have hb := grows_of hk.ext
      exact vc hK (op_load 5 _ B5 (Box2.below Dx.out hb)) (fun w2 h2 => ⟨_, _, _, _, rfl, (Sx.out.below hb).below h2⟩)
    refine po rfl (fun lq aq wq hk hr K hK => ?_) ?_
    · obtain ⟨v18, E18, r18⟩ := hk.dp hr 18 64 (by kernel_rfl)
      have r18 : WV wq v18 a := r18
      obtain ⟨n18, A18, k18, c18, rfl, s18⟩ := r18
      exact wp_of_value (op_row1 64 E18) (hK.out _ _ ((Grows.refl _).alloc _) (fun w2 h2 => (RowV.one s18).grow h2) (fun h => absurd h (by decide)))
    refine po rfl (fun lq aq wq hk hr K hK => ?_) ?_
    · obtain ⟨v19, E19, r19⟩ := hk.dp hr 19 65 (by kernel_rfl)
      have r19 : RowV wq v19 [a] := r19
      exact yc hK (by go_simp) (Calls.oz (mul1_o wq (Nat.le_trans HB.out.size (grows_of hk.ext).size) r19 (Nat.le_trans hka (by decide)))) (fun u w1 hu w2 h2 => OZ.grow (hu) h2)
    refine po rfl (fun lq aq wq hk hr K hK => ?_) ?_
    · have B5 : ev aq (.tmp 5) = .pointer (some ⟨b1, 0, none⟩) := hk.base 5 (by kernel_rfl) rfl
      have hb := grows_of hk.ext
      exact vc hK (op_load 5 _ B5 (Box2.below Dx.out hb)) (fun w2 h2 => ⟨_, _, _, _, rfl, (Sx.out.below hb).below h2⟩)
    refine po rfl (fun lq aq wq hk hr K hK => ?_) ?_
    · have B6 : ev aq (.tmp 6) = .pointer (some ⟨b2, 0, none⟩) := hk.base 6 (by kernel_rfl) rfl
      have hb := grows_of hk.ext
      exact vc hK (op_load 6 _ B6 (Box2.below Dy.out hb)) (fun w2 h2 => ⟨_, _, _, _, rfl, (Sy.out.below hb).below h2⟩)
    refine po rfl (fun lq aq wq hk hr K hK => ?_) ?_
    · obtain ⟨v21, E21, r21⟩ := hk.dp hr 21 67 (by kernel_rfl)
      have r21 : WV wq v21 a := r21
      obtain ⟨n21, A21, k21, c21, rfl, s21⟩ := r21
      obtain ⟨v22, E22, r22⟩ := hk.dp hr 22 68 (by kernel_rfl)
      have r22 : WV wq v22 b := r22
      obtain ⟨n22, A22, k22, c22, rfl, s22⟩ := r22
      exact wp_of_value (op_row2 67 68 E21 E22) (hK.out _ _ ((Grows.refl _).alloc _) (fun w2 h2 => (RowV.two s21 s22).grow h2) (fun h => absurd h (by decide)))
    refine po rfl (fun lq aq wq hk hr K hK => ?_) ?_
    · obtain ⟨v23, E23, r23⟩ := hk.dp hr 23 69 (by kernel_rfl)
      have r23 : RowV wq v23 [a, b] := r23
      exact yc hK (by go_simp) (Calls.oz (mul2_o wq (Nat.le_trans HB.out.size (grows_of hk.ext).size) r23 (Nat.le_trans hka (by decide)) (Nat.le_trans (szz_mul hka hkb) (by decide)))) (fun u w1 hu w2 h2 => OZ.grow (hu) h2)
    refine po rfl (fun lq aq wq hk hr K hK => ?_) ?_
    · have B5 : ev aq (.tmp 5) = .pointer (some ⟨b1, 0, none⟩) := hk.base 5 (by kernel_rfl) rfl
      have hb := grows_of hk.ext
      exact vc hK (op_load 5 _ B5 (Box2.below Dx.out hb)) (fun w2 h2 => ⟨_, _, _, _, rfl, (Sx.out.below hb).below h2⟩)
    refine po rfl (fun lq aq wq hk hr K hK => ?_) ?_
    · exact yc hK (by go_simp) (from_v wq 1 (by decide) (by decide)) (fun u w1 hu w2 h2 => (hu).grow h2)
    refine po rfl (fun lq aq wq hk hr K hK => ?_) ?_
    · obtain ⟨v25, E25, r25⟩ := hk.dp hr 25 71 (by kernel_rfl)
      have r25 : WV wq v25 a := r25
      obtain ⟨n25, A25, k25, c25, rfl, s25⟩ := r25
      obtain ⟨v26, E26, r26⟩ := hk.dp hr 26 72 (by kernel_rfl)
      have r26 : ZV wq v26 1 := r26
      obtain ⟨n26, A26, k26, c26, rfl, s26⟩ := r26
      exact wp_of_value (op_row2 71 72 E25 E26) (hK.out _ _ ((Grows.refl _).alloc _) (fun w2 h2 => (RowV.two s25 s26.whole).grow h2) (fun h => absurd h (by decide)))
    refine po rfl (fun lq aq wq hk hr K hK => ?_) ?_
    · obtain ⟨v27, E27, r27⟩ := hk.dp hr 27 73 (by kernel_rfl)
      have r27 : RowV wq v27 [a, 1] := r27
      exact yc hK (by go_simp) (Calls.oz (mul2_o wq (Nat.le_trans HB.out.size (grows_of hk.ext).size) r27 (Nat.le_trans hka (by decide)) (Nat.le_trans (szz_mul hka (szz_i64 (by decide) (by decide))) (by decide)))) (fun u w1 hu w2 h2 => OZ.grow (hu) h2)
    refine po rfl (fun lq aq wq hk hr K hK => ?_) ?_
    · have B5 : ev aq (.tmp 5) = .pointer (some ⟨b1, 0, none⟩) := hk.base 5 (by kernel_rfl) rfl
      have hb := grows_of hk.ext
      exact vc hK (op_load 5 _ B5 (Box2.below Dx.out hb)) (fun w2 h2 => ⟨_, _, _, _, rfl, (Sx.out.below hb).below h2⟩)
    refine po rfl (fun lq aq wq hk hr K hK => ?_) ?_
    · have B6 : ev aq (.tmp 6) = .pointer (some ⟨b2, 0, none⟩) := hk.base 6 (by kernel_rfl) rfl
      have hb := grows_of hk.ext
      exact vc hK (op_load 6 _ B6 (Box2.below Dy.out hb)) (fun w2 h2 => ⟨_, _, _, _, rfl, (Sy.out.below hb).below h2⟩)
    refine po rfl (fun lq aq wq hk hr K hK => ?_) ?_
    · obtain ⟨v29, E29, r29⟩ := hk.dp hr 29 75 (by kernel_rfl)
      have r29 : WV wq v29 a := r29
      obtain ⟨v30, E30, r30⟩ := hk.dp hr 30 76 (by kernel_rfl)
      have r30 : WV wq v30 b := r30
      exact yc hK (by go_simp) (Calls.oz (sub_o wq (Nat.le_trans HB.out.size (grows_of hk.ext).size) r29 r30 (Nat.le_trans (szz_sub hka hkb) (by decide)))) (fun u w1 hu w2 h2 => OZ.grow (hu) h2)
    refine po rfl (fun lq aq wq hk hr K hK => ?_) ?_
    · have B5 : ev aq (.tmp 5) = .pointer (some ⟨b1, 0, none⟩) := hk.base 5 (by kernel_rfl) rfl
      have hb := grows_of hk.ext
      exact vc hK (op_load 5 _ B5 (Box2.below Dx.out hb)) (fun w2 h2 => ⟨_, _, _, _, rfl, (Sx.out.below hb).below h2⟩)
    refine po rfl (fun lq aq wq hk hr K hK => ?_) ?_
    · exact vc hK (by go_simp) (fun w2 h2 => (ZV.zero _ 0).grow h2)
    refine po rfl (fun lq aq wq hk hr K hK => ?_) ?_
    · obtain ⟨v32, E32, r32⟩ := hk.dp hr 32 78 (by kernel_rfl)
      have r32 : WV wq v32 a := r32
      obtain ⟨v33, E33, r33⟩ := hk.dp hr 33 79 (by kernel_rfl)
      have r33 : ZV wq v33 0 := r33
      exact yc hK (by go_simp) (Calls.oz (sub_o wq (Nat.le_trans HB.out.size (grows_of hk.ext).size) r32 (r33).wv (Nat.le_trans (szz_sub hka szz_zero) (by decide)))) (fun u w1 hu w2 h2 => OZ.grow (hu) h2)
    refine po rfl (fun lq aq wq hk hr K hK => ?_) ?_
    · have B7 : ev aq (.tmp 7) = .pointer (some ⟨bq, 0, none⟩) := hk.base 7 (by kernel_rfl) rfl
      have hb := grows_of hk.ext
      exact vc hK (op_load 7 _ B7 (Box2.below Dq.out hb)) (fun w2 h2 => ⟨_, _, _, _, rfl, (Oq.out.grow hb).grow h2⟩)
    refine po rfl (fun lq aq wq hk hr K hK => ?_) ?_
    · have B9 : ev aq (.tmp 9) = .pointer (some ⟨br, 0, none⟩) := hk.base 9 (by kernel_rfl) rfl
      have hb := grows_of hk.ext
      exact vc hK (op_load 9 _ B9 (Box2.below Dr.out hb)) (fun w2 h2 => ⟨_, _, _, _, rfl, (Or.out.grow hb).grow h2⟩)
    refine po rfl (fun lq aq wq hk hr K hK => ?_) ?_
    · obtain ⟨v4, E4, r4⟩ := hk.dp hr 4 50 (by kernel_rfl)
      obtain ⟨n4, A4, k4, c4, rfl, o4⟩ := r4
      obtain ⟨v6, E6, r6⟩ := hk.dp hr 6 52 (by kernel_rfl)
      obtain ⟨n6, A6, k6, c6, rfl, o6⟩ := r6
      obtain ⟨v9, E9, r9⟩ := hk.dp hr 9 55 (by kernel_rfl)
      obtain ⟨n9, A9, k9, c9, rfl, o9⟩ := r9
      obtain ⟨v13, E13, r13⟩ := hk.dp hr 13 59 (by kernel_rfl)
      obtain ⟨n13, A13, k13, c13, rfl, o13⟩ := r13
      obtain ⟨v17, E17, r17⟩ := hk.dp hr 17 63 (by kernel_rfl)
      obtain ⟨n17, A17, k17, c17, rfl, o17⟩ := r17
      obtain ⟨v20, E20, r20⟩ := hk.dp hr 20 66 (by kernel_rfl)
      obtain ⟨n20, A20, k20, c20, rfl, o20⟩ := r20
      obtain ⟨v24, E24, r24⟩ := hk.dp hr 24 70 (by kernel_rfl)
      obtain ⟨n24, A24, k24, c24, rfl, o24⟩ := r24
      obtain ⟨v28, E28, r28⟩ := hk.dp hr 28 74 (by kernel_rfl)
      obtain ⟨n28, A28, k28, c28, rfl, o28⟩ := r28
      obtain ⟨v31, E31, r31⟩ := hk.dp hr 31 77 (by kernel_rfl)
      obtain ⟨n31, A31, k31, c31, rfl, o31⟩ := r31
      obtain ⟨v34, E34, r34⟩ := hk.dp hr 34 80 (by kernel_rfl)
      obtain ⟨n34, A34, k34, c34, rfl, o34⟩ := r34
      obtain ⟨v35, E35, r35⟩ := hk.dp hr 35 81 (by kernel_rfl)
      obtain ⟨n35, A35, k35, c35, rfl, o35⟩ := r35
      obtain ⟨v36, E36, r36⟩ := hk.dp hr 36 82 (by kernel_rfl)
      obtain ⟨n36, A36, k36, c36, rfl, o36⟩ := r36
      exact wp_of_value (op_row12 50 52 55 59 63 66 70 74 77 80 81 82 E4 E6 E9 E13 E17 E20 E24 E28 E31 E34 E35 E36) (hK.out _ _ ((Grows.refl _).alloc _) (fun w2 h2 => OutV.grow (OutV.of o4 o6 o9 o13 o17 o20 o24 o28 o31 o34 o35 o36) h2) (fun h => absurd h (by decide)))
    exact AllOps.nil
  intro V x9 hG hV hap
  have r37 : OutV y4.heap.size x9 (V 37) := hV 37 (by decide)
  clear hV hap
  simp only [List.take_succ_cons, List.take_zero, List.drop_succ_cons, List.drop_zero, putAll, Act.put, List.setIfInBounds_toArray, List.set_cons_zero, List.set_cons_succ]
  have hb := grows_of hG
  replace Dx := Lib.hid (Box2.below Dx.out hb)
  replace Sx := Lib.hid (Sx.out.below hb)
  replace Dy := Lib.hid (Box2.below Dy.out hb)
  replace Sy := Lib.hid (Sy.out.below hb)
  replace Nx := Lib.hid (Nx.out.below hb)
  replace HB := Lib.hid (HB.out.trans (Below.mono hb HB.out.size))
  replace Dq := Lib.hid (Box2.below Dq.out hb)
  replace Oq := Lib.hid (Oq.out.grow hb)
  replace Dr := Lib.hid (Box2.below Dr.out hb)
  replace Or := Lib.hid (Or.out.grow hb)
  clear hb hG
  obtain ⟨bo, cs, eo, ho⟩ := r37
  simp only [eo]
  clear eo
  have HI := Lib.hid (And.intro ho HB.out)
  clear ho HB Dx Dy Sx Sy Nx Dq Oq Dr Or
  go_wp2_with fail
  go_loopw [12] (fun iv wr => ∃ i : Nat, i ≤ 12 ∧ iv = .int .i64 i ∧ Hid (OutC y4.heap.size wr bo cs ∧ Below y4.heap.size y4 wr)) (fun iv _ => 12 - (intOf iv).toNat)
  case atStart => exact ⟨0, by decide, rfl, HI⟩
  case round =>
    clear HI
    obtain ⟨i, hi9, rfl, HI⟩ := hrel
    by_cases hlt : i < 12
    · obtain ⟨n, A, m, c, hc1, hc2, hO⟩ := HI.out.1.2 i hlt
      have HC2 := Lib.hid hc2
      obtain ⟨A', m', c', e, hm9, _⟩ := hO
      cases e
      have hcv : wr.cell? ⟨bo, i * 2 + 1, none⟩ = some (.slice A m c) := BoxN.cell HI.out.1.1 _ hc2
      clear hc1 hc2
      go_wp2_with fail
      go_loopw [13] (fun kv wr => ∃ k : Nat, k ≤ m ∧ kv = .int .i64 k ∧ Hid (OutC y4.heap.size wr bo cs ∧ Below y4.heap.size y4 wr)) (fun kv _ => m - (intOf kv).toNat)
      case atStart => exact ⟨0, Nat.zero_le _, rfl, HI⟩
      case round =>
        clear HI hcv
        obtain ⟨k, hkn, rfl, HI⟩ := hrel
        have hcv : wr.cell? ⟨bo, i * 2 + 1, none⟩ = some (.slice A m c) := BoxN.cell HI.out.1.1 _ HC2.out
        by_cases hk : k < m
        · obtain ⟨n', A', m', c', _, e2, hO⟩ := HI.out.1.2 i hlt
          obtain ⟨rfl, rfl, rfl⟩ : A = A' ∧ m = m' ∧ c = c' := by
            have h9 := HC2.out.symm.trans e2
            injection h9 with h9
            injection h9 with h1 h2 h3
            exact ⟨h1, h2, h3⟩
          obtain ⟨A', n'', c', e, _, h0 | ⟨g, cur, eA, hg, hc, hx⟩⟩ := hO
          · exfalso
            cases e
            omega
          · cases e
            subst eA
            obtain ⟨z, hz, hz2⟩ := hx k hk
            have hne := OutC.apart HI.out.1 hc
            have hcz : wr.cell? ⟨g, k, none⟩ = some (.int .u32 (z : Int)) := by rw [cell_of_row _ _ _ _ _ _ hc]; exact hz
            have hfz : wr.frozen? ⟨g, k, none⟩ = false := by simp [World.frozen?, hc]
            obtain ⟨z', hz', hzl⟩ : ∃ z' : Nat, IntKind.u32.wrap ((z : Int) + 1) = (z' : Int) ∧ z' < 4294967296 := ⟨(z + 1) % 4294967296, by rw [IntKind.wrap_u32]; omega, Nat.mod_lt _ (by decide)⟩
            have HG := Lib.hid (And.intro hg hne)
            clear hc hx hz hg hne e2
            go_wp2_with fail
            go_region
            all_goals (go_wp2_with fail; go_roundw)
            case rel => exact ⟨k + 1, by omega, by go_num, Lib.hid ⟨OutC.set HI.out.1 HG.out.2 z' hzl, (HI.out.2.setCell (p := ⟨g, k, none⟩) HG.out.1 _).drew⟩⟩
            case measure => simp [intOf]; omega
        · go_wp2_with fail
          go_roundw
          case rel => exact ⟨i + 1, by omega, by go_num, HI⟩
          case measure => simp [intOf]; omega
    · skip
      have hB := HI.out.2
      have HB := Lib.hid (HB9.out.trans (Below.mono hB HB9.out.size))
      have Da := Lib.hid (Box2.below Da9.out hB)
      have Db := Lib.hid (Box2.below Db9.out hB)
      have Dx := Lib.hid (Box2.below Dx9.out hB)
      have Dy := Lib.hid (Box2.below Dy9.out hB)
      have Qa := Lib.hid (Qa9.out.below hB)
      have Qb := Lib.hid (Qb9.out.below hB)
      have Nx := Lib.hid (Nx9.out.below hB)
      have Ny := Lib.hid (Ny9.out.below hB)
      clear HI hB Da9 Db9 Dx9 Dy9 Qa9 Qb9 Nx9 Ny9 HB9
      go_upto_region 15 with fail
      refine wp_region_calm 26 [] ([fun vq _ => vq = .pointer (some ⟨b1, 0, none⟩),
          fun vq _ => vq = .bool na,
          fun vq _ => vq = .pointer (some ⟨w.heap.size, 0, none⟩),
          fun vq _ => vq = .bool na,
          fun vq _ => vq = .bool true,
          fun vq _ => vq = .bool true,
          fun vq _ => vq = .pointer (some ⟨b2, 0, none⟩),
          fun vq _ => vq = .bool nb,
          fun vq _ => vq = .pointer (some ⟨w.heap.size + 1, 0, none⟩),
          fun vq _ => vq = .bool nb,
          fun vq _ => vq = .bool true,
          fun vq _ => vq = .bool true,
          fun vq _ => vq = .bool true,
          fun vq _ => vq = .pointer (some ⟨b1, 1, none⟩),
          fun vq _ => vq = .slice A6 la.length c6,
          fun vq _ => vq = .pointer (some ⟨w.heap.size, 1, none⟩),
          fun vq _ => vq = .slice Aa la.length ca,
          fun vq _ => vq = .bool true,
          fun vq _ => vq = .bool true,
          fun vq _ => vq = .bool true,
          fun vq _ => vq = .pointer (some ⟨b2, 1, none⟩),
          fun vq _ => vq = .slice A7 lb.length c7,
          fun vq _ => vq = .pointer (some ⟨w.heap.size + 1, 1, none⟩),
          fun vq _ => vq = .slice Ab lb.length cb,
          fun vq _ => vq = .bool true,
          fun vq _ => vq = .bool true]) (by kernel_rfl) (by decide) ?_ ?_ ?_
      · intro j hj; cases hj
      · refine po rfl (fun lq aq wq hk hr K hK => ?_) ?_
        · have B5 : ev aq (.tmp 5) = .pointer (some ⟨b1, 0, none⟩) := hk.base 5 (by kernel_rfl) rfl
          exact vc hK (by go_simp) (fun w2 h2 => rfl)
        refine po rfl (fun lq aq wq hk hr K hK => ?_) ?_
        · have E0 : ev aq (.tmp 116) = .pointer (some ⟨b1, 0, none⟩) := hk.dc hr 0 (by kernel_rfl) fun _ _ h => h
          have hb : Below _ _ _ := hk.ext
          have c0 := (Box2.below Dx.out hb).c0
          exact vc hK (by go_simp) (fun w2 h2 => rfl)
        refine po rfl (fun lq aq wq hk hr K hK => ?_) ?_
        · have B2 : ev aq (.tmp 2) = .pointer (some ⟨w.heap.size, 0, none⟩) := hk.base 2 (by kernel_rfl) rfl
          exact vc hK (by go_simp) (fun w2 h2 => rfl)
        refine po rfl (fun lq aq wq hk hr K hK => ?_) ?_
        · have E2 : ev aq (.tmp 118) = .pointer (some ⟨w.heap.size, 0, none⟩) := hk.dc hr 2 (by kernel_rfl) fun _ _ h => h
          have hb : Below _ _ _ := hk.ext
          have c0 := (Box2.below Da.out hb).c0
          exact vc hK (by go_simp) (fun w2 h2 => rfl)
        refine po rfl (fun lq aq wq hk hr K hK => ?_) ?_
        · have E1 : ev aq (.tmp 117) = .bool na := hk.dc hr 1 (by kernel_rfl) fun _ _ h => h
          have E3 : ev aq (.tmp 119) = .bool na := hk.dc hr 3 (by kernel_rfl) fun _ _ h => h
          exact vc hK (by first | (go_simp; done) | (go_simp; cases na <;> rfl)) (fun w2 h2 => rfl)
        refine po rfl (fun lq aq wq hk hr K hK => ?_) ?_
        · have E4 : ev aq (.tmp 120) = .bool true := hk.dc hr 4 (by kernel_rfl) fun _ _ h => h
          exact vc hK (by go_simp) (fun w2 h2 => rfl)
        refine pl 5 121 true rfl (by kernel_rfl) (fun _ _ h => h) (fun lq aq wq hk hr K hK => ?_) ?_
        · have B6 : ev aq (.tmp 6) = .pointer (some ⟨b2, 0, none⟩) := hk.base 6 (by kernel_rfl) rfl
          exact vc hK (by go_simp) (fun w2 h2 => rfl)
        refine pl 5 121 true rfl (by kernel_rfl) (fun _ _ h => h) (fun lq aq wq hk hr K hK => ?_) ?_
        · have E6 : ev aq (.tmp 122) = .pointer (some ⟨b2, 0, none⟩) := hk.dc hr 6 (by kernel_rfl) fun _ _ h => h
          have hb : Below _ _ _ := hk.ext
          have c0 := (Box2.below Dy.out hb).c0
          exact vc hK (by go_simp) (fun w2 h2 => rfl)
        refine pl 5 121 true rfl (by kernel_rfl) (fun _ _ h => h) (fun lq aq wq hk hr K hK => ?_) ?_
        · have B3 : ev aq (.tmp 3) = .pointer (some ⟨w.heap.size + 1, 0, none⟩) := hk.base 3 (by kernel_rfl) rfl
          exact vc hK (by go_simp) (fun w2 h2 => rfl)
        refine pl 5 121 true rfl (by kernel_rfl) (fun _ _ h => h) (fun lq aq wq hk hr K hK => ?_) ?_
        · have E8 : ev aq (.tmp 124) = .pointer (some ⟨w.heap.size + 1, 0, none⟩) := hk.dc hr 8 (by kernel_rfl) fun _ _ h => h
          have hb : Below _ _ _ := hk.ext
          have c0 := (Box2.below Db.out hb).c0
          exact vc hK (by go_simp) (fun w2 h2 => rfl)
        refine pl 5 121 true rfl (by kernel_rfl) (fun _ _ h => h) (fun lq aq wq hk hr K hK => ?_) ?_
        · have E7 : ev aq (.tmp 123) = .bool nb := hk.dc hr 7 (by kernel_rfl) fun _ _ h => h
          have E9 : ev aq (.tmp 125) = .bool nb := hk.dc hr 9 (by kernel_rfl) fun _ _ h => h
          exact vc hK (by first | (go_simp; done) | (go_simp; cases nb <;> rfl)) (fun w2 h2 => rfl)
        refine po rfl (fun lq aq wq hk hr K hK => ?_) ?_
        · have E5 : ev aq (.tmp 121) = .bool true := hk.dc hr 5 (by kernel_rfl) fun _ _ h => h
          have E10 : ev aq (.tmp 126) = .bool true := hk.dc hr 10 (by kernel_rfl) fun _ _ h => h
          exact vc hK (by go_simp) (fun w2 h2 => rfl)
        refine po rfl (fun lq aq wq hk hr K hK => ?_) ?_
        · have E11 : ev aq (.tmp 127) = .bool true := hk.dc hr 11 (by kernel_rfl) fun _ _ h => h
          exact vc hK (by go_simp) (fun w2 h2 => rfl)
        refine pl 12 128 true rfl (by kernel_rfl) (fun _ _ h => h) (fun lq aq wq hk hr K hK => ?_) ?_
        · have B5 : ev aq (.tmp 5) = .pointer (some ⟨b1, 0, none⟩) := hk.base 5 (by kernel_rfl) rfl
          exact vc hK (by go_simp) (fun w2 h2 => rfl)
        refine pl 12 128 true rfl (by kernel_rfl) (fun _ _ h => h) (fun lq aq wq hk hr K hK => ?_) ?_
        · have E13 : ev aq (.tmp 129) = .pointer (some ⟨b1, 1, none⟩) := hk.dc hr 13 (by kernel_rfl) fun _ _ h => h
          have hb : Below _ _ _ := hk.ext
          have c1 := (Box2.below Dx.out hb).c1
          exact vc hK (by go_simp) (fun w2 h2 => rfl)
        refine pl 12 128 true rfl (by kernel_rfl) (fun _ _ h => h) (fun lq aq wq hk hr K hK => ?_) ?_
        · have B2 : ev aq (.tmp 2) = .pointer (some ⟨w.heap.size, 0, none⟩) := hk.base 2 (by kernel_rfl) rfl
          exact vc hK (by go_simp) (fun w2 h2 => rfl)
        refine pl 12 128 true rfl (by kernel_rfl) (fun _ _ h => h) (fun lq aq wq hk hr K hK => ?_) ?_
        · have E15 : ev aq (.tmp 131) = .pointer (some ⟨w.heap.size, 1, none⟩) := hk.dc hr 15 (by kernel_rfl) fun _ _ h => h
          have hb : Below _ _ _ := hk.ext
          have c1 := (Box2.below Da.out hb).c1
          exact vc hK (by go_simp) (fun w2 h2 => rfl)
        refine pl 12 128 true rfl (by kernel_rfl) (fun _ _ h => h) (fun lq aq wq hk hr K hK => ?_) ?_
        · have E14 : ev aq (.tmp 130) = .slice A6 la.length c6 := hk.dc hr 14 (by kernel_rfl) fun _ _ h => h
          have E16 : ev aq (.tmp 132) = .slice Aa la.length ca := hk.dc hr 16 (by kernel_rfl) fun _ _ h => h
          exact yc hK (by go_simp) (limbs_v wq (Nx.out.below hk.ext).arg (Qa.out.below hk.ext).arg hla) (fun u w1 hu w2 h2 => hu)
        refine po rfl (fun lq aq wq hk hr K hK => ?_) ?_
        · have E12 : ev aq (.tmp 128) = .bool true := hk.dc hr 12 (by kernel_rfl) fun _ _ h => h
          have E17 : ev aq (.tmp 133) = .bool true := hk.dc hr 17 (by kernel_rfl) fun _ _ h => h
          exact vc hK (by go_simp) (fun w2 h2 => rfl)
        refine po rfl (fun lq aq wq hk hr K hK => ?_) ?_
        · have E18 : ev aq (.tmp 134) = .bool true := hk.dc hr 18 (by kernel_rfl) fun _ _ h => h
          exact vc hK (by go_simp) (fun w2 h2 => rfl)
        refine pl 19 135 true rfl (by kernel_rfl) (fun _ _ h => h) (fun lq aq wq hk hr K hK => ?_) ?_
        · have B6 : ev aq (.tmp 6) = .pointer (some ⟨b2, 0, none⟩) := hk.base 6 (by kernel_rfl) rfl
          exact vc hK (by go_simp) (fun w2 h2 => rfl)
        refine pl 19 135 true rfl (by kernel_rfl) (fun _ _ h => h) (fun lq aq wq hk hr K hK => ?_) ?_
        · have E20 : ev aq (.tmp 136) = .pointer (some ⟨b2, 1, none⟩) := hk.dc hr 20 (by kernel_rfl) fun _ _ h => h
          have hb : Below _ _ _ := hk.ext
          have c1 := (Box2.below Dy.out hb).c1
          exact vc hK (by go_simp) (fun w2 h2 => rfl)
        refine pl 19 135 true rfl (by kernel_rfl) (fun _ _ h => h) (fun lq aq wq hk hr K hK => ?_) ?_
        · have B3 : ev aq (.tmp 3) = .pointer (some ⟨w.heap.size + 1, 0, none⟩) := hk.base 3 (by kernel_rfl) rfl
          exact vc hK (by go_simp) (fun w2 h2 => rfl)
        refine pl 19 135 true rfl (by kernel_rfl) (fun _ _ h => h) (fun lq aq wq hk hr K hK => ?_) ?_
        · have E22 : ev aq (.tmp 138) = .pointer (some ⟨w.heap.size + 1, 1, none⟩) := hk.dc hr 22 (by kernel_rfl) fun _ _ h => h
          have hb : Below _ _ _ := hk.ext
          have c1 := (Box2.below Db.out hb).c1
          exact vc hK (by go_simp) (fun w2 h2 => rfl)
        refine pl 19 135 true rfl (by kernel_rfl) (fun _ _ h => h) (fun lq aq wq hk hr K hK => ?_) ?_
        · have E21 : ev aq (.tmp 137) = .slice A7 lb.length c7 := hk.dc hr 21 (by kernel_rfl) fun _ _ h => h
          have E23 : ev aq (.tmp 139) = .slice Ab lb.length cb := hk.dc hr 23 (by kernel_rfl) fun _ _ h => h
          exact yc hK (by go_simp) (limbs_v wq (Ny.out.below hk.ext).arg (Qb.out.below hk.ext).arg hlb) (fun u w1 hu w2 h2 => hu)
        refine po rfl (fun lq aq wq hk hr K hK => ?_) ?_
        · have E19 : ev aq (.tmp 135) = .bool true := hk.dc hr 19 (by kernel_rfl) fun _ _ h => h
          have E24 : ev aq (.tmp 140) = .bool true := hk.dc hr 24 (by kernel_rfl) fun _ _ h => h
          exact vc hK (by go_simp) (fun w2 h2 => rfl)
        exact AllOps.nil
      intro V x10 hG hV hap
      have r25 : (V 25) = .bool true := hV 25 (by decide)
      clear hV hap
      simp only [List.take_succ_cons, List.take_zero, List.drop_succ_cons, List.drop_zero, putAll, Act.put, List.setIfInBounds_toArray, List.set_cons_zero, List.set_cons_succ]
      have hb := (show Below _ _ _ from hG)
      replace HB := Lib.hid (HB.out.trans (Below.mono hb HB.out.size))
      clear hb hG
      rw [r25]
      clear r25
      go_wp2_with fail
      go_ret
      exact ⟨rfl, HB.out⟩
end Go.Proofs.YtmajcjdhhnhmmaaDoor
