import Derived.Test.YtbippecchpaleaaGreatDoorRatO1
import Derived.Test.YtbippecchpaleaaGreatDoorGRat2
/- rat.with, two, Floor, Neg: what each returns, in rows of its own. -/
namespace Go.Proofs.YtbippecchpaleaaGreatDoor
open Go.RowKit Go.Num Go.Kp
attribute [local go_sem] Oper.semAt_some u64_mask ev_const ev_func ev_global
set_option maxHeartbeats 4000000 in
set_option maxRecDepth 100000 in
theorem withR_o (w : World) {bO : Nat} (hB : bO ≤ w.heap.size) {u : Value} {q : Rat} (Q : Rat) (f : FuncId) (caps : Array Value) (h0 : QV w u q) (hf : ∀ (vs : Array Value) (w1 : World), (callFunc f vs).run Tryz.prog w1 = .ok (.enter f vs) w1) (hdo : ∀ (w1 : World) (u1 : Value), Grows w w1 → RO bO w1 u1 q → Calls Tryz.prog f (#[u1] ++ caps) w1 fun e w' => ∃ x, e = .returned x ∧ RO bO w' x Q ∧ Grows w1 w') : Calls Tryz.prog 59 #[u, .func (.func f) #[] caps] w fun e w' => ∃ x, e = .returned x ∧ RO bO w' x Q ∧ Grows w w' := by
  obtain ⟨n0, A0, k0, c0, B0, j0, d0, rfl, z0, l0, a0, s0, t0, hl0, e0⟩ := h0
  have hk0 : szz z0 ≤ 1000 := s0.size
  go_enter Tryz.func59, Tryz.ntmps59
  go_upto_region 1 with fail
  obtain ⟨x0, ex0, HB, D0, DR⟩ := st_33 w 26 (.bool n0) (.slice A0 k0 c0) (.slice B0 j0 d0) 26 (.bool false) (.slice none 0 0) (.slice none 0 0)
  rw [ex0]
  clear ex0
  replace HB := Lib.hid HB
  replace D0 := Lib.hid D0
  replace DR := Lib.hid DR
  have SN0 := Lib.hid (s0.below HB.out)
  clear s0
  have SD0 := Lib.hid (t0.below HB.out)
  clear t0
  refine wp_region_calm 4 [] ([fun vq _ => vq = .func (.func f) #[] caps,
      fun vq wq => QV wq vq q,
      fun vq wq => RO bO wq vq q,
      fun vq wq => RO bO wq vq Q]) (by kernel_rfl) (by decide) ?_ ?_ ?_
  · intro j hj; cases hj
  · refine po rfl (fun lq aq wq hk hr K hK => ?_) ?_
    · have B1 : ev aq (.tmp 1) = .func (.func f) #[] caps := hk.base 1 (by kernel_rfl) rfl
      exact vc hK (by go_simp) (fun w2 h2 => rfl)
    refine po rfl (fun lq aq wq hk hr K hK => ?_) ?_
    · have B2 : ev aq (.tmp 2) = .pointer (some ⟨w.heap.size, 0, none⟩) := hk.base 2 (by kernel_rfl) rfl
      have hb : Below _ _ _ := hk.ext
      exact vc hK (op_load3 2 _ B2 (D0.out.below hb)) (fun w2 h2 => QV.grow ⟨_, _, _, _, _, _, _, rfl, _, _, _, (SN0.out.below hb), (SD0.out.below hb), hl0, e0⟩ h2)
    refine po rfl (fun lq aq wq hk hr K hK => ?_) ?_
    · obtain ⟨v1, E1, r1⟩ := hk.dp hr 1 6 (by kernel_rfl)
      have r1 : QV wq v1 q := r1
      exact yc hK (by go_simp) (made_o wq (low hB HB.out hk.ext) r1) (fun u w1 hu w2 h2 => (hu).grow h2)
    refine po rfl (fun lq aq wq hk hr K hK => ?_) ?_
    · have E0 : ev aq (.tmp 5) = .func (.func f) #[] caps := hk.dc hr 0 (by kernel_rfl) fun _ _ h => h
      obtain ⟨v2, E2, r2⟩ := hk.dp hr 2 7 (by kernel_rfl)
      have r2 : RO bO wq v2 q := r2
      refine wp_of_call (f := f) (vs := #[v2] ++ caps) (by go_simp) (hdo wq _ (HB.out.trans (Below.mono hk.ext HB.out.size)) r2) ?_
      rintro e w1 ⟨u, rfl, hu, hb⟩
      exact ⟨u, rfl, hK.out _ _ hb (fun w2 h2 => (hu).grow h2) (fun h => absurd h (by decide))⟩
    exact AllOps.nil
  intro V x1 hG hV hap
  have r3 : RO bO x1 (V 3) Q := hV 3 (by decide)
  clear hV hap
  simp only [List.take_succ_cons, List.take_zero, List.drop_succ_cons, List.drop_zero, putAll, Act.put, List.setIfInBounds_toArray, List.set_cons_zero, List.set_cons_succ]
  have hb := (show Below _ _ _ from hG)
  obtain ⟨nR, AR, kR, cR, BR, jR, dR, y9, eR, ey, hQ, HQ, c0, c1, c2⟩ := ret3o r3 (DR.out.below hb) (HB.out.trans (Below.mono hb HB.out.size)) (by omega)
  simp only [eR]
  refine wpList_of_skip rfl (op_store3 4 8 _ rfl rfl (DR.out.below hb)) ?_
  rw [ey]
  clear eR ey hb hG HB DR
  go_wp2_with fail
  refine bodyPost_ret (v := .agg #[.bool nR, .slice AR kR cR, .slice BR jR dR]) (by simp [results, Tryz.results59, go_sem, c0, c1, c2]) rfl ⟨_, rfl, hQ, HQ⟩
set_option maxHeartbeats 4000000 in
set_option maxRecDepth 100000 in
theorem withI_o (w : World) {bO : Nat} (hB : bO ≤ w.heap.size) {u : Value} {q : Rat} (Q : Int) (f : FuncId) (caps : Array Value) (h0 : QV w u q) (hf : ∀ (vs : Array Value) (w1 : World), (callFunc f vs).run Tryz.prog w1 = .ok (.enter f vs) w1) (hdo : ∀ (w1 : World) (u1 : Value), Grows w w1 → RO bO w1 u1 q → Calls Tryz.prog f (#[u1] ++ caps) w1 fun e w' => ∃ x, e = .returned x ∧ ZO bO w' x Q ∧ Grows w1 w') : Calls Tryz.prog 72 #[u, .func (.func f) #[] caps] w fun e w' => ∃ x, e = .returned x ∧ ZO bO w' x Q ∧ Grows w w' := by
  obtain ⟨n0, A0, k0, c0, B0, j0, d0, rfl, z0, l0, a0, s0, t0, hl0, e0⟩ := h0
  have hk0 : szz z0 ≤ 1000 := s0.size
  go_enter Tryz.func72, Tryz.ntmps72
  go_upto_region 1 with fail
  obtain ⟨x0, ex0, HB, D0, DR⟩ := st_32 w 26 (.bool n0) (.slice A0 k0 c0) (.slice B0 j0 d0) 24 (.bool false) (.slice none 0 0)
  rw [ex0]
  clear ex0
  replace HB := Lib.hid HB
  replace D0 := Lib.hid D0
  replace DR := Lib.hid DR
  have SN0 := Lib.hid (s0.below HB.out)
  clear s0
  have SD0 := Lib.hid (t0.below HB.out)
  clear t0
  refine wp_region_calm 4 [] ([fun vq _ => vq = .func (.func f) #[] caps,
      fun vq wq => QV wq vq q,
      fun vq wq => RO bO wq vq q,
      fun vq wq => ZO bO wq vq Q]) (by kernel_rfl) (by decide) ?_ ?_ ?_
  · intro j hj; cases hj
  · refine po rfl (fun lq aq wq hk hr K hK => ?_) ?_
    · have B1 : ev aq (.tmp 1) = .func (.func f) #[] caps := hk.base 1 (by kernel_rfl) rfl
      exact vc hK (by go_simp) (fun w2 h2 => rfl)
    refine po rfl (fun lq aq wq hk hr K hK => ?_) ?_
    · have B2 : ev aq (.tmp 2) = .pointer (some ⟨w.heap.size, 0, none⟩) := hk.base 2 (by kernel_rfl) rfl
      have hb : Below _ _ _ := hk.ext
      exact vc hK (op_load3 2 _ B2 (D0.out.below hb)) (fun w2 h2 => QV.grow ⟨_, _, _, _, _, _, _, rfl, _, _, _, (SN0.out.below hb), (SD0.out.below hb), hl0, e0⟩ h2)
    refine po rfl (fun lq aq wq hk hr K hK => ?_) ?_
    · obtain ⟨v1, E1, r1⟩ := hk.dp hr 1 6 (by kernel_rfl)
      have r1 : QV wq v1 q := r1
      exact yc hK (by go_simp) (made_o wq (low hB HB.out hk.ext) r1) (fun u w1 hu w2 h2 => (hu).grow h2)
    refine po rfl (fun lq aq wq hk hr K hK => ?_) ?_
    · have E0 : ev aq (.tmp 5) = .func (.func f) #[] caps := hk.dc hr 0 (by kernel_rfl) fun _ _ h => h
      obtain ⟨v2, E2, r2⟩ := hk.dp hr 2 7 (by kernel_rfl)
      have r2 : RO bO wq v2 q := r2
      refine wp_of_call (f := f) (vs := #[v2] ++ caps) (by go_simp) (hdo wq _ (HB.out.trans (Below.mono hk.ext HB.out.size)) r2) ?_
      rintro e w1 ⟨u, rfl, hu, hb⟩
      exact ⟨u, rfl, hK.out _ _ hb (fun w2 h2 => (hu).grow h2) (fun h => absurd h (by decide))⟩
    exact AllOps.nil
  intro V x1 hG hV hap
  have r3 : ZO bO x1 (V 3) Q := hV 3 (by decide)
  clear hV hap
  simp only [List.take_succ_cons, List.take_zero, List.drop_succ_cons, List.drop_zero, putAll, Act.put, List.setIfInBounds_toArray, List.set_cons_zero, List.set_cons_succ]
  have hb := (show Below _ _ _ from hG)
  obtain ⟨nR, AR, kR, cR, y9, eR, ey, hQ, HQ, c0, c1⟩ := ret2o r3 (DR.out.below hb) (HB.out.trans (Below.mono hb HB.out.size)) (by omega)
  simp only [eR]
  refine wpList_of_skip rfl (op_store 4 8 _ rfl rfl (DR.out.below hb)) ?_
  rw [ey]
  clear eR ey hb hG HB DR
  go_wp2_with fail
  refine bodyPost_ret (v := .agg #[.bool nR, .slice AR kR cR]) (by simp [results, Tryz.results72, go_sem, c0, c1]) rfl ⟨_, rfl, hQ, HQ⟩
set_option maxHeartbeats 4000000 in
set_option maxRecDepth 100000 in
theorem rneg_o (w : World) {bO : Nat} (hB : bO ≤ w.heap.size) {u : Value} {q : Rat} (h0 : QV w u q) : Calls Tryz.prog 20 #[u] w fun e w' => ∃ x, e = .returned x ∧ RO bO w' x (-q) ∧ Grows w w' := by
  obtain ⟨n0, A0, k0, c0, B0, j0, d0, rfl, z0, l0, a0, s0, t0, hl0, e0⟩ := h0
  have hk0 : szz z0 ≤ 1000 := s0.size
  go_enter Tryz.func20, Tryz.ntmps20
  go_upto_region 1 with fail
  obtain ⟨x0, ex0, HB, D0, DR⟩ := st_33 w 26 (.bool n0) (.slice A0 k0 c0) (.slice B0 j0 d0) 26 (.bool false) (.slice none 0 0) (.slice none 0 0)
  rw [ex0]
  clear ex0
  replace HB := Lib.hid HB
  replace D0 := Lib.hid D0
  replace DR := Lib.hid DR
  have SN0 := Lib.hid (s0.below HB.out)
  clear s0
  have SD0 := Lib.hid (t0.below HB.out)
  clear t0
  refine wp_region_calm 2 [] ([fun vq wq => QV wq vq q,
      fun vq wq => RO bO wq vq ((-q))]) (by kernel_rfl) (by decide) ?_ ?_ ?_
  · intro j hj; cases hj
  · refine po rfl (fun lq aq wq hk hr K hK => ?_) ?_
    · have B1 : ev aq (.tmp 1) = .pointer (some ⟨w.heap.size, 0, none⟩) := hk.base 1 (by kernel_rfl) rfl
      have hb : Below _ _ _ := hk.ext
      exact vc hK (op_load3 1 _ B1 (D0.out.below hb)) (fun w2 h2 => QV.grow ⟨_, _, _, _, _, _, _, rfl, _, _, _, (SN0.out.below hb), (SD0.out.below hb), hl0, e0⟩ h2)
    refine po rfl (fun lq aq wq hk hr K hK => ?_) ?_
    · obtain ⟨v0, E0, r0⟩ := hk.dp hr 0 3 (by kernel_rfl)
      have r0 : QV wq v0 q := r0
      exact yc hK (f := 59) (vs := #[v0, .func (.func 60) #[] #[]]) (by go_simp) (withR_o wq (bO := bO) (low hB HB.out hk.ext) (-q) _ #[] r0 neg_f (fun w1 u1 hg hu => neg1_o w1 (bO := bO) (Nat.le_trans (low hB HB.out hk.ext) hg.size) hu)) (fun u w1 hu w2 h2 => (hu).grow h2)
    exact AllOps.nil
  intro V x1 hG hV hap
  have r1 : RO bO x1 (V 1) ((-q)) := hV 1 (by decide)
  clear hV hap
  simp only [List.take_succ_cons, List.take_zero, List.drop_succ_cons, List.drop_zero, putAll, Act.put, List.setIfInBounds_toArray, List.set_cons_zero, List.set_cons_succ]
  have hb := (show Below _ _ _ from hG)
  obtain ⟨nR, AR, kR, cR, BR, jR, dR, y9, eR, ey, hQ, HQ, c0, c1, c2⟩ := ret3o r1 (DR.out.below hb) (HB.out.trans (Below.mono hb HB.out.size)) (by omega)
  simp only [eR]
  refine wpList_of_skip rfl (op_store3 2 4 _ rfl rfl (DR.out.below hb)) ?_
  rw [ey]
  clear eR ey hb hG HB DR
  go_wp2_with fail
  refine bodyPost_ret (v := .agg #[.bool nR, .slice AR kR cR, .slice BR jR dR]) (by simp [results, Tryz.results20, go_sem, c0, c1, c2]) rfl ⟨_, rfl, hQ, HQ⟩
set_option maxHeartbeats 4000000 in
set_option maxRecDepth 100000 in
theorem floor1_o (w : World) {bO : Nat} (hB : bO ≤ w.heap.size) {u : Value} {q : Rat} (h0 : RV w u q) : Calls Tryz.prog 73 #[u] w fun e w' => ∃ x, e = .returned x ∧ ZO bO w' x q.floor ∧ Grows w w' := by
  obtain ⟨n0, A0, k0, c0, B0, j0, d0, rfl, s0, t0, hd0⟩ := h0
  go_enter Tryz.func73, Tryz.ntmps73
  go_upto_region 1 with fail
  obtain ⟨x0, ex0, HB, D0, DR⟩ := st_32 w 26 (.bool n0) (.slice A0 k0 c0) (.slice B0 j0 d0) 24 (.bool false) (.slice none 0 0)
  rw [ex0]
  clear ex0
  replace HB := Lib.hid HB
  replace D0 := Lib.hid D0
  replace DR := Lib.hid DR
  have SN0 := Lib.hid (s0.below HB.out)
  clear s0
  have SD0 := Lib.hid (t0.below HB.out)
  clear t0
  have hsd : szz (q.den : Int) ≤ 1000 := by unfold szz; rw [Int.natAbs_natCast]; exact hd0
  have hne : (q.den : Int) ≠ 0 := by have := q.den_pos; omega
  have lw0 := D0.out.lt
  have lwR := DR.out.lt
  refine wp_region_prompt 10 8 [9] ([fun vq _ => vq = .pointer (some ⟨w.heap.size, 0, none⟩),
      fun vq wq => ZV wq vq q.num,
      fun vq _ => vq = .pointer (some ⟨w.heap.size, 2, none⟩),
      fun vq _ => vq = .slice B0 j0 d0,
      fun vq wq => ZV wq vq ((q.den : Int)),
      fun vq wq => ∃ u0, vq = .tuple #[u0, .int .i64 0] ∧ ZO bO wq u0 ((Int.fdiv q.num (q.den : Int))),
      fun vq wq => ∃ u0, vq = .tuple #[u0, .int .i64 0] ∧ ZO bO wq u0 ((Int.fdiv q.num (q.den : Int))),
      fun vq wq => ZO bO wq vq ((Int.fdiv q.num (q.den : Int))),
      fun vq _ => vq = .int .i64 0,
      fun vq wq => ∃ bq, vq = .pointer (some ⟨bq, 0, none⟩) ∧ Box2 wq bq 24 (.bool false) (.slice none 0 0) ∧ (x0).heap.size ≤ bq]) rfl (by kernel_rfl) (by kernel_rfl) (by decide) (by kernel_rfl) (by kernel_rfl) (by kernel_rfl) (by kernel_rfl) (by decide) (fun _ _ _ _ h => h) ?_ ?_ ?_ ?_
  · intro j hj v w h
    simp only [List.mem_cons, List.not_mem_nil, or_false] at hj
    subst hj
    all_goals (obtain ⟨b, rfl, hB, _⟩ := h; exact hB.lt)
  · intro lq aq wq hk hr
    obtain ⟨v6, E6, r6⟩ := hk.dp hr 6 5 (by kernel_rfl)
    have r6 : ∃ u0, v6 = .tuple #[u0, .int .i64 0] ∧ ZO bO wq u0 ((Int.fdiv q.num (q.den : Int))) := r6
    obtain ⟨u0, rfl, h0⟩ := r6
    exact ⟨_, yields_of rfl (fun w2 => by go_simp), fun w2 h2 => rfl⟩
  · refine AllOps.cons (fun _ => Does.plain rfl fun lq aq wq hk hr K hK => ?_) ?_
    · have B1 : ev aq (.tmp 1) = .pointer (some ⟨w.heap.size, 0, none⟩) := hk.base 1 (by kernel_rfl) rfl
      exact vc hK (by go_simp) (fun w2 h2 => rfl)
    refine AllOps.cons (fun _ => Does.plain rfl fun lq aq wq hk hr K hK => ?_) ?_
    · have E0 : ev aq (.tmp 6) = .pointer (some ⟨w.heap.size, 0, none⟩) := hk.dc hr 0 (by kernel_rfl) fun _ _ h => h
      have hb := grows_of hk.ext
      exact vc hK (op_loadN 6 _ E0 (D0.out.below hb)) (fun w2 h2 => ⟨_, _, _, _, rfl, (SN0.out.below hb).below h2⟩)
    refine AllOps.cons (fun _ => Does.plain rfl fun lq aq wq hk hr K hK => ?_) ?_
    · have B1 : ev aq (.tmp 1) = .pointer (some ⟨w.heap.size, 0, none⟩) := hk.base 1 (by kernel_rfl) rfl
      exact vc hK (by go_simp) (fun w2 h2 => rfl)
    refine AllOps.cons (fun _ => Does.plain rfl fun lq aq wq hk hr K hK => ?_) ?_
    · have E2 : ev aq (.tmp 8) = .pointer (some ⟨w.heap.size, 2, none⟩) := hk.dc hr 2 (by kernel_rfl) fun _ _ h => h
      have hb := grows_of hk.ext
      have c2 := (D0.out.below hb).c2
      exact vc hK (by go_simp) (fun w2 h2 => rfl)
    refine AllOps.cons (fun _ => Does.plain rfl fun lq aq wq hk hr K hK => ?_) ?_
    · have E3 : ev aq (.tmp 9) = .slice B0 j0 d0 := hk.dc hr 3 (by kernel_rfl) fun _ _ h => h
      exact yc hK (by go_simp) (of_v wq false (SD0.out.below (grows_of hk.ext)).lv (sg_false _) hsd) (fun u w1 hu w2 h2 => (hu).grow h2)
    refine AllOps.cons (fun _ => Does.plain rfl fun lq aq wq hk hr K hK => ?_) ?_
    · obtain ⟨v1, E1, r1⟩ := hk.dp hr 1 7 (by kernel_rfl)
      have r1 : ZV wq v1 q.num := r1
      obtain ⟨v4, E4, r4⟩ := hk.dp hr 4 10 (by kernel_rfl)
      have r4 : ZV wq v4 ((q.den : Int)) := r4
      exact yc hK (by go_simp) (div_o wq (low hB HB.out (grows_of hk.ext)) (r1).wv (r4).wv hne (Nat.le_trans (szz_fdiv (q.den : Int) SN0.out.short) (by decide))) (fun u w1 hu w2 h2 => (let ⟨u0, e0, h0⟩ := hu; ⟨u0, e0, (h0).grow h2⟩))
    refine AllOps.cons (fun _ => Does.plain rfl fun lq aq wq hk hr K hK => ?_) ?_
    · obtain ⟨v5, E5, r5⟩ := hk.dp hr 5 11 (by kernel_rfl)
      have r5 : ∃ u0, v5 = .tuple #[u0, .int .i64 0] ∧ ZO bO wq u0 ((Int.fdiv q.num (q.den : Int))) := r5
      exact vc hK (by go_simp) (fun w2 h2 => (let ⟨u0, e0, h0⟩ := r5; ⟨u0, e0, (h0).grow h2⟩))
    refine AllOps.cons (fun _ => Does.plain rfl fun lq aq wq hk hr K hK => ?_) ?_
    · obtain ⟨v6, E6, r6⟩ := hk.dp hr 6 5 (by kernel_rfl)
      have r6 : ∃ u0, v6 = .tuple #[u0, .int .i64 0] ∧ ZO bO wq u0 ((Int.fdiv q.num (q.den : Int))) := r6
      obtain ⟨u0, rfl, h0⟩ := r6
      exact vc hK (by go_simp) (fun w2 h2 => (h0).grow h2)
    refine AllOps.cons (fun h => absurd rfl h) ?_
    refine AllOps.cons (fun _ => Does.plain rfl fun lq aq wq hk hr K hK => ?_) ?_
    · exact wp_of_value (by go_simp) (hK.out _ _ ((Grows.refl _).alloc _) (fun w2 h2 => ⟨_, rfl, (Box2.new wq 24 _ _).below h2, (grows_of hk.ext).size⟩) (fun _ => Nat.le_refl _))
    exact AllOps.nil
  intro V x1 hG hV hap
  have r1 : ZV x1 (V 1) q.num := hV 1 (by decide)
  have r2 : (V 2) = .pointer (some ⟨w.heap.size, 2, none⟩) := hV 2 (by decide)
  have r3 : (V 3) = .slice B0 j0 d0 := hV 3 (by decide)
  have r7 : ZO bO x1 (V 7) ((Int.fdiv q.num (q.den : Int))) := hV 7 (by decide)
  have r8 : (V 8) = .int .i64 0 := hV 8 (by decide)
  have r9 : ∃ bq, (V 9) = .pointer (some ⟨bq, 0, none⟩) ∧ Box2 x1 bq 24 (.bool false) (.slice none 0 0) ∧ (x0).heap.size ≤ bq := hV 9 (by decide)
  clear hV
  simp only [List.take_succ_cons, List.take_zero, List.drop_succ_cons, List.drop_zero, putAll, Act.put, List.setIfInBounds_toArray, List.set_cons_zero, List.set_cons_succ]
  have hb := grows_of hG
  obtain ⟨bo, eo, Do, go⟩ := r9
  obtain ⟨no, Ao, ko, co, eo9, so, oo⟩ := r7
  simp only [eo, eo9, r8]
  clear eo eo9 hap hG r8
  refine wpList_of_skip rfl (op_store 3 12 _ rfl rfl Do) ?_
  have hB := put2_below (u := .bool no) (v := .slice Ao ko co) hb go
  replace so := so.put Do (.bool no) (.slice Ao ko co)
  replace oo := oo.put Do (.bool no) (.slice Ao ko co)
  replace Do := put2_own (u := .bool no) (v := .slice Ao ko co) Do
  clear hb
  generalize put2 x1 bo (.bool no) (.slice Ao ko co) = y2 at *
  replace D0 := Lib.hid (D0.out.below hB)
  replace SN0 := Lib.hid (SN0.out.below hB)
  replace SD0 := Lib.hid (SD0.out.below hB)
  replace DR := Lib.hid (DR.out.below hB)
  replace HB := Lib.hid (HB.out.trans (Below.mono hB HB.out.size))
  replace lw0 := Nat.lt_of_lt_of_le lw0 go
  replace lwR := Nat.lt_of_lt_of_le lwR go
  replace Do := Lib.hid Do
  have SNo := Lib.hid so
  clear hB go so
  have Oo := Lib.hid oo
  clear oo
  go_upto_region 2 with fail
  refine wp_region_calm 1 [] ([fun vq wq => ZO bO wq vq ((Int.fdiv q.num (q.den : Int)))]) (by kernel_rfl) (by decide) ?_ ?_ ?_
  · intro j hj; cases hj
  · refine po rfl (fun lq aq wq hk hr K hK => ?_) ?_
    · have B3 : ev aq (.tmp 3) = .pointer (some ⟨bo, 0, none⟩) := hk.base 3 (by kernel_rfl) rfl
      have hb : Below _ _ _ := hk.ext
      exact vc hK (op_load 3 _ B3 (Do.out.below hb)) (fun w2 h2 => ⟨_, _, _, _, rfl, (SNo.out.below hb).below h2, (Oo.out.below hb).below h2⟩)
    exact AllOps.nil
  intro V x3 hG hV hap
  have r0 : ZO bO x3 (V 0) ((Int.fdiv q.num (q.den : Int))) := hV 0 (by decide)
  clear hV hap
  simp only [List.take_succ_cons, List.take_zero, List.drop_succ_cons, List.drop_zero, putAll, Act.put, List.setIfInBounds_toArray, List.set_cons_zero, List.set_cons_succ]
  have hb := (show Below _ _ _ from hG)
  obtain ⟨nR, AR, kR, cR, y9, eR, ey, hQ, HQ, c0, c1⟩ := ret2o r0 (DR.out.below hb) (HB.out.trans (Below.mono hb HB.out.size)) (by omega)
  simp only [eR]
  refine wpList_of_skip rfl (op_store 2 14 _ rfl rfl (DR.out.below hb)) ?_
  rw [ey]
  clear eR ey hb hG HB DR
  go_wp2_with fail
  refine bodyPost_ret (v := .agg #[.bool nR, .slice AR kR cR]) (by simp [results, Tryz.results73, go_sem, c0, c1]) rfl ⟨_, rfl, (ZO.to hQ (qfloor q)), HQ⟩
set_option maxHeartbeats 4000000 in
set_option maxRecDepth 100000 in
theorem qfloor_o (w : World) {bO : Nat} (hB : bO ≤ w.heap.size) {u : Value} {q : Rat} (h0 : QV w u q) (hfl : szz q.floor ≤ 1000) : Calls Tryz.prog 33 #[u] w fun e w' => ∃ x, e = .returned x ∧ ZO bO w' x q.floor ∧ Grows w w' := by
  obtain ⟨n0, A0, k0, c0, B0, j0, d0, rfl, z0, l0, a0, s0, t0, hl0, e0⟩ := h0
  have hk0 : szz z0 ≤ 1000 := s0.size
  go_enter Tryz.func33, Tryz.ntmps33
  go_upto_region 1 with fail
  obtain ⟨x0, ex0, HB, D0, DR⟩ := st_32 w 26 (.bool n0) (.slice A0 k0 c0) (.slice B0 j0 d0) 24 (.bool false) (.slice none 0 0)
  rw [ex0]
  clear ex0
  replace HB := Lib.hid HB
  replace D0 := Lib.hid D0
  replace DR := Lib.hid DR
  have SN0 := Lib.hid (s0.below HB.out)
  clear s0
  have SD0 := Lib.hid (t0.below HB.out)
  clear t0
  have hkf : szz q.floor ≤ 1000 := hfl
  refine wp_region_calm 2 [] ([fun vq wq => QV wq vq q,
      fun vq wq => ZO bO wq vq q.floor]) (by kernel_rfl) (by decide) ?_ ?_ ?_
  · intro j hj; cases hj
  · refine po rfl (fun lq aq wq hk hr K hK => ?_) ?_
    · have B1 : ev aq (.tmp 1) = .pointer (some ⟨w.heap.size, 0, none⟩) := hk.base 1 (by kernel_rfl) rfl
      have hb : Below _ _ _ := hk.ext
      exact vc hK (op_load3 1 _ B1 (D0.out.below hb)) (fun w2 h2 => QV.grow ⟨_, _, _, _, _, _, _, rfl, _, _, _, (SN0.out.below hb), (SD0.out.below hb), hl0, e0⟩ h2)
    refine po rfl (fun lq aq wq hk hr K hK => ?_) ?_
    · obtain ⟨v0, E0, r0⟩ := hk.dp hr 0 3 (by kernel_rfl)
      have r0 : QV wq v0 q := r0
      exact yc hK (f := 72) (vs := #[v0, .func (.func 73) #[] #[]]) (by go_simp) (withI_o wq (bO := bO) (low hB HB.out hk.ext) q.floor _ #[] r0 floor1_f (fun w1 u1 hg hu => floor1_o w1 (bO := bO) (Nat.le_trans (low hB HB.out hk.ext) hg.size) hu.rv)) (fun u w1 hu w2 h2 => (hu).grow h2)
    exact AllOps.nil
  intro V x1 hG hV hap
  have r1 : ZO bO x1 (V 1) q.floor := hV 1 (by decide)
  clear hV hap
  simp only [List.take_succ_cons, List.take_zero, List.drop_succ_cons, List.drop_zero, putAll, Act.put, List.setIfInBounds_toArray, List.set_cons_zero, List.set_cons_succ]
  have hb := (show Below _ _ _ from hG)
  obtain ⟨nR, AR, kR, cR, y9, eR, ey, hQ, HQ, c0, c1⟩ := ret2o r1 (DR.out.below hb) (HB.out.trans (Below.mono hb HB.out.size)) (by omega)
  simp only [eR]
  refine wpList_of_skip rfl (op_store 2 4 _ rfl rfl (DR.out.below hb)) ?_
  rw [ey]
  clear eR ey hb hG HB DR
  go_wp2_with fail
  refine bodyPost_ret (v := .agg #[.bool nR, .slice AR kR cR]) (by simp [results, Tryz.results33, go_sem, c0, c1]) rfl ⟨_, rfl, hQ, HQ⟩
set_option maxHeartbeats 16000000 in
set_option maxRecDepth 100000 in
theorem two11_o (w : World) {bO : Nat} {u : Value} {q r : Rat} (Q : Rat) (f : FuncId) (caps : Array Value) (pd pa : Nat) (h0 : RV w u r) (n : Bool) (A : Option Addr) (k c : Nat) (B : Option Addr) (j d : Nat) (Da : Box3 w pa 26 (.bool n) (.slice A k c) (.slice B j d)) (SNa : Sound w n (.slice A k c) q.num) (SDa : Num w (.slice B j d) (limbs q.den) q.den) (hda : sz q.den ≤ 1000) (HD : BoxN w pd 71 #[.func (.func f) #[] caps]) (hf : ∀ (vs : Array Value) (w1 : World), (callFunc f vs).run Tryz.prog w1 = .ok (.enter f vs) w1) (hs1 : szz (q.num * (r.den : Int)) ≤ 1000) (hs2 : szz (r.num * (q.den : Int)) ≤ 1000) (hs3 : sz (q.den * r.den) ≤ 1000) (hdo : ∀ (w1 : World) (u1 v1 m1 : Value), Grows w w1 → ZV w1 u1 (q.num * (r.den : Int)) → ZV w1 v1 (r.num * (q.den : Int)) → LV w1 m1 (limbs (q.den * r.den)) (q.den * r.den) → Calls Tryz.prog f (#[u1, v1, m1] ++ caps) w1 fun e w' => ∃ x, e = .returned x ∧ RO bO w' x Q ∧ Grows w1 w') : Calls Tryz.prog 105 #[u, .pointer (some ⟨pd, 0, none⟩), .pointer (some ⟨pa, 0, none⟩)] w fun e w' => ∃ x, e = .returned x ∧ RO bO w' x Q ∧ Grows w w' := by
  obtain ⟨n0, A0, k0, c0, B0, j0, d0, rfl, s0, t0, hd0⟩ := h0
  go_enter Tryz.func105, Tryz.ntmps105
  go_upto_region 1 with fail
  obtain ⟨x0, ex0, HB, D0, DR⟩ := st_33 w 26 (.bool n0) (.slice A0 k0 c0) (.slice B0 j0 d0) 26 (.bool false) (.slice none 0 0) (.slice none 0 0)
  rw [ex0]
  clear ex0
  replace HB := Lib.hid HB
  replace D0 := Lib.hid D0
  replace DR := Lib.hid DR
  have SN0 := Lib.hid (s0.below HB.out)
  clear s0
  have SD0 := Lib.hid (t0.below HB.out)
  clear t0
  have lca := Da.lt
  replace Da := Lib.hid (Da.below HB.out)
  replace SNa := Lib.hid (SNa.below HB.out)
  replace SDa := Lib.hid (SDa.below HB.out)
  replace HD := Lib.hid (BoxN.below HD HB.out)
  go_upto_region 2 with fail
  refine wp_region_going 19 [] ([fun vq _ => vq = .func (.func f) #[] caps,
      fun vq _ => vq = .func (.func 106) #[] #[],
      fun vq _ => vq = .pointer (some ⟨pa, 0, none⟩),
      fun vq wq => ZV wq vq q.num,
      fun vq _ => vq = .pointer (some ⟨w.heap.size, 2, none⟩),
      fun vq _ => vq = .slice B0 j0 d0,
      fun vq wq => ZV wq vq ((q.num * (r.den : Int))),
      fun vq _ => vq = .func (.func 106) #[] #[],
      fun vq _ => vq = .pointer (some ⟨w.heap.size, 0, none⟩),
      fun vq wq => ZV wq vq r.num,
      fun vq _ => vq = .pointer (some ⟨pa, 2, none⟩),
      fun vq _ => vq = .slice B j d,
      fun vq wq => ZV wq vq ((r.num * (q.den : Int))),
      fun vq _ => vq = .pointer (some ⟨pa, 2, none⟩),
      fun vq _ => vq = .slice B j d,
      fun vq _ => vq = .pointer (some ⟨w.heap.size, 2, none⟩),
      fun vq _ => vq = .slice B0 j0 d0,
      fun vq wq => LV wq vq ((limbs (q.den * r.den))) ((q.den * r.den)),
      fun vq wq => RO bO wq vq Q]) (by kernel_rfl) (by kernel_rfl) (by decide) (by kernel_rfl) (by kernel_rfl) ?_ ?_ ?_
  · intro j hj; cases hj
  · refine po rfl (fun lq aq wq hk hr K hK => ?_) ?_
    · have B1 : ev aq (.tmp 1) = .pointer (some ⟨pd, 0, none⟩) := hk.base 1 (by kernel_rfl) rfl
      have hb := grows_of hk.ext
      have c0 := (BoxN.below HD.out hb).cell 0 rfl
      exact vc hK (by go_simp) (fun w2 h2 => rfl)
    refine po rfl (fun lq aq wq hk hr K hK => ?_) ?_
    · have B5 : ev aq (.tmp 5) = .func (.func 106) #[] #[] := hk.base 5 (by kernel_rfl) rfl
      exact vc hK (by go_simp) (fun w2 h2 => rfl)
    refine po rfl (fun lq aq wq hk hr K hK => ?_) ?_
    · have B2 : ev aq (.tmp 2) = .pointer (some ⟨pa, 0, none⟩) := hk.base 2 (by kernel_rfl) rfl
      exact vc hK (by go_simp) (fun w2 h2 => rfl)
    refine po rfl (fun lq aq wq hk hr K hK => ?_) ?_
    · have E2 : ev aq (.tmp 8) = .pointer (some ⟨pa, 0, none⟩) := hk.dc hr 2 (by kernel_rfl) fun _ _ h => h
      have hb := grows_of hk.ext
      exact vc hK (op_loadN 8 _ E2 (Da.out.below hb)) (fun w2 h2 => ⟨_, _, _, _, rfl, (SNa.out.below hb).below h2⟩)
    refine po rfl (fun lq aq wq hk hr K hK => ?_) ?_
    · have B3 : ev aq (.tmp 3) = .pointer (some ⟨w.heap.size, 0, none⟩) := hk.base 3 (by kernel_rfl) rfl
      exact vc hK (by go_simp) (fun w2 h2 => rfl)
    refine po rfl (fun lq aq wq hk hr K hK => ?_) ?_
    · have E4 : ev aq (.tmp 10) = .pointer (some ⟨w.heap.size, 2, none⟩) := hk.dc hr 4 (by kernel_rfl) fun _ _ h => h
      have hb := grows_of hk.ext
      have c2 := (D0.out.below hb).c2
      exact vc hK (by go_simp) (fun w2 h2 => rfl)
    refine po rfl (fun lq aq wq hk hr K hK => ?_) ?_
    · have E1 : ev aq (.tmp 7) = .func (.func 106) #[] #[] := hk.dc hr 1 (by kernel_rfl) fun _ _ h => h
      obtain ⟨v3, E3, r3⟩ := hk.dp hr 3 9 (by kernel_rfl)
      have r3 : ZV wq v3 q.num := r3
      have E5 : ev aq (.tmp 11) = .slice B0 j0 d0 := hk.dc hr 5 (by kernel_rfl) fun _ _ h => h
      exact yc hK (by go_simp) (up_v wq (r3).wv (SD0.out.below (grows_of hk.ext)).lv hd0 hs1) (fun u w1 hu w2 h2 => (hu).grow h2)
    refine po rfl (fun lq aq wq hk hr K hK => ?_) ?_
    · have B5 : ev aq (.tmp 5) = .func (.func 106) #[] #[] := hk.base 5 (by kernel_rfl) rfl
      exact vc hK (by go_simp) (fun w2 h2 => rfl)
    refine po rfl (fun lq aq wq hk hr K hK => ?_) ?_
    · have B3 : ev aq (.tmp 3) = .pointer (some ⟨w.heap.size, 0, none⟩) := hk.base 3 (by kernel_rfl) rfl
      exact vc hK (by go_simp) (fun w2 h2 => rfl)
    refine po rfl (fun lq aq wq hk hr K hK => ?_) ?_
    · have E8 : ev aq (.tmp 14) = .pointer (some ⟨w.heap.size, 0, none⟩) := hk.dc hr 8 (by kernel_rfl) fun _ _ h => h
      have hb := grows_of hk.ext
      exact vc hK (op_loadN 14 _ E8 (D0.out.below hb)) (fun w2 h2 => ⟨_, _, _, _, rfl, (SN0.out.below hb).below h2⟩)
    refine po rfl (fun lq aq wq hk hr K hK => ?_) ?_
    · have B2 : ev aq (.tmp 2) = .pointer (some ⟨pa, 0, none⟩) := hk.base 2 (by kernel_rfl) rfl
      exact vc hK (by go_simp) (fun w2 h2 => rfl)
    refine po rfl (fun lq aq wq hk hr K hK => ?_) ?_
    · have E10 : ev aq (.tmp 16) = .pointer (some ⟨pa, 2, none⟩) := hk.dc hr 10 (by kernel_rfl) fun _ _ h => h
      have hb := grows_of hk.ext
      have c2 := (Da.out.below hb).c2
      exact vc hK (by go_simp) (fun w2 h2 => rfl)
    refine po rfl (fun lq aq wq hk hr K hK => ?_) ?_
    · have E7 : ev aq (.tmp 13) = .func (.func 106) #[] #[] := hk.dc hr 7 (by kernel_rfl) fun _ _ h => h
      obtain ⟨v9, E9, r9⟩ := hk.dp hr 9 15 (by kernel_rfl)
      have r9 : ZV wq v9 r.num := r9
      have E11 : ev aq (.tmp 17) = .slice B j d := hk.dc hr 11 (by kernel_rfl) fun _ _ h => h
      exact yc hK (by go_simp) (up_v wq (r9).wv (SDa.out.below (grows_of hk.ext)).lv hda hs2) (fun u w1 hu w2 h2 => (hu).grow h2)
    refine po rfl (fun lq aq wq hk hr K hK => ?_) ?_
    · have B2 : ev aq (.tmp 2) = .pointer (some ⟨pa, 0, none⟩) := hk.base 2 (by kernel_rfl) rfl
      exact vc hK (by go_simp) (fun w2 h2 => rfl)
    refine po rfl (fun lq aq wq hk hr K hK => ?_) ?_
    · have E13 : ev aq (.tmp 19) = .pointer (some ⟨pa, 2, none⟩) := hk.dc hr 13 (by kernel_rfl) fun _ _ h => h
      have hb := grows_of hk.ext
      have c2 := (Da.out.below hb).c2
      exact vc hK (by go_simp) (fun w2 h2 => rfl)
    refine po rfl (fun lq aq wq hk hr K hK => ?_) ?_
    · have B3 : ev aq (.tmp 3) = .pointer (some ⟨w.heap.size, 0, none⟩) := hk.base 3 (by kernel_rfl) rfl
      exact vc hK (by go_simp) (fun w2 h2 => rfl)
    refine po rfl (fun lq aq wq hk hr K hK => ?_) ?_
    · have E15 : ev aq (.tmp 21) = .pointer (some ⟨w.heap.size, 2, none⟩) := hk.dc hr 15 (by kernel_rfl) fun _ _ h => h
      have hb := grows_of hk.ext
      have c2 := (D0.out.below hb).c2
      exact vc hK (by go_simp) (fun w2 h2 => rfl)
    refine po rfl (fun lq aq wq hk hr K hK => ?_) ?_
    · have E14 : ev aq (.tmp 20) = .slice B j d := hk.dc hr 14 (by kernel_rfl) fun _ _ h => h
      have E16 : ev aq (.tmp 22) = .slice B0 j0 d0 := hk.dc hr 16 (by kernel_rfl) fun _ _ h => h
      exact yc hK (by go_simp) (nmul_v wq (SDa.out.below (grows_of hk.ext)).lv (SD0.out.below (grows_of hk.ext)).lv hs3) (fun u w1 hu w2 h2 => (hu).grow h2)
    refine po rfl (fun lq aq wq hk hr K hK => ?_) ?_
    · have E0 : ev aq (.tmp 6) = .func (.func f) #[] caps := hk.dc hr 0 (by kernel_rfl) fun _ _ h => h
      obtain ⟨v6, E6, r6⟩ := hk.dp hr 6 12 (by kernel_rfl)
      have r6 : ZV wq v6 ((q.num * (r.den : Int))) := r6
      obtain ⟨v12, E12, r12⟩ := hk.dp hr 12 18 (by kernel_rfl)
      have r12 : ZV wq v12 ((r.num * (q.den : Int))) := r12
      obtain ⟨v17, E17, r17⟩ := hk.dp hr 17 23 (by kernel_rfl)
      have r17 : LV wq v17 ((limbs (q.den * r.den))) ((q.den * r.den)) := r17
      refine wp_of_call (f := f) (vs := #[v6, v12, v17] ++ caps) (by go_simp) (hdo wq _ _ _ (HB.out.trans (Below.mono (grows_of hk.ext) HB.out.size)) r6 r12 r17) ?_
      rintro e w1 ⟨u, rfl, hu, hb⟩
      exact ⟨u, rfl, hK.out _ _ hb (fun w2 h2 => (hu).grow h2) (fun h => absurd h (by decide))⟩
    exact AllOps.nil
  intro V x1 hG hV hap
  have r12 : ZV x1 (V 12) ((r.num * (q.den : Int))) := hV 12 (by decide)
  have r18 : RO bO x1 (V 18) Q := hV 18 (by decide)
  clear hV hap
  simp only [List.take_succ_cons, List.take_zero, List.drop_succ_cons, List.drop_zero, putAll, Act.put, List.setIfInBounds_toArray, List.set_cons_zero, List.set_cons_succ]
  have hb := grows_of hG
  obtain ⟨nR, AR, kR, cR, BR, jR, dR, y9, eR, ey, hQ, HQ, c0, c1, c2⟩ := ret3o r18 (DR.out.below hb) (HB.out.trans (Below.mono hb HB.out.size)) (by omega)
  simp only [eR]
  refine wpList_of_skip rfl (op_store3 4 24 _ rfl rfl (DR.out.below hb)) ?_
  rw [ey]
  clear eR ey hb hG HB DR
  go_wp2_with fail
  refine bodyPost_ret (v := .agg #[.bool nR, .slice AR kR cR, .slice BR jR dR]) (by simp [results, Tryz.results105, go_sem, c0, c1, c2]) rfl ⟨_, rfl, hQ, HQ⟩
set_option maxHeartbeats 16000000 in
set_option maxRecDepth 100000 in
theorem two1_o (w : World) {bO : Nat} (hB : bO ≤ w.heap.size) {u : Value} {q r : Rat} (Q : Rat) (f : FuncId) (caps : Array Value) (pb pd : Nat) (h0 : RV w u q) (n : Bool) (A : Option Addr) (k c : Nat) (B : Option Addr) (j d : Nat) (z : Int) (l : List Nat) (a : Nat) (Db : Box3 w pb 26 (.bool n) (.slice A k c) (.slice B j d)) (SNb : Whole w n (.slice A k c) z) (SDb : Num w (.slice B j d) l a) (hlb : l.length ≤ 1000) (eb : r = mkRat z (dn a)) (HD : BoxN w pd 71 #[.func (.func f) #[] caps]) (hf : ∀ (vs : Array Value) (w1 : World), (callFunc f vs).run Tryz.prog w1 = .ok (.enter f vs) w1) (hs1 : szz (q.num * (r.den : Int)) ≤ 1000) (hs2 : szz (r.num * (q.den : Int)) ≤ 1000) (hs3 : sz (q.den * r.den) ≤ 1000) (hdo : ∀ (w1 : World) (u1 v1 m1 : Value), Grows w w1 → ZV w1 u1 (q.num * (r.den : Int)) → ZV w1 v1 (r.num * (q.den : Int)) → LV w1 m1 (limbs (q.den * r.den)) (q.den * r.den) → Calls Tryz.prog f (#[u1, v1, m1] ++ caps) w1 fun e w' => ∃ x, e = .returned x ∧ RO bO w' x Q ∧ Grows w1 w') : Calls Tryz.prog 104 #[u, .pointer (some ⟨pb, 0, none⟩), .pointer (some ⟨pd, 0, none⟩)] w fun e w' => ∃ x, e = .returned x ∧ RO bO w' x Q ∧ Grows w w' := by
  have hzb : szz z ≤ 1000 := SNb.size
  obtain ⟨n0, A0, k0, c0, B0, j0, d0, rfl, s0, t0, hd0⟩ := h0
  go_enter Tryz.func104, Tryz.ntmps104
  go_upto_region 1 with fail
  obtain ⟨x0, ex0, HB, D0, DR⟩ := st_33 w 26 (.bool n0) (.slice A0 k0 c0) (.slice B0 j0 d0) 26 (.bool false) (.slice none 0 0) (.slice none 0 0)
  rw [ex0]
  clear ex0
  replace HB := Lib.hid HB
  replace D0 := Lib.hid D0
  replace DR := Lib.hid DR
  have SN0 := Lib.hid (s0.below HB.out)
  clear s0
  have SD0 := Lib.hid (t0.below HB.out)
  clear t0
  have lcb := Db.lt
  replace Db := Lib.hid (Db.below HB.out)
  replace SNb := Lib.hid (SNb.below HB.out)
  replace SDb := Lib.hid (SDb.below HB.out)
  replace HD := Lib.hid (BoxN.below HD HB.out)
  refine wp_region_calm 3 [] ([fun vq wq => QV wq vq r,
      fun vq _ => vq = .func (.func 105) #[] #[.pointer (some ⟨pd, 0, none⟩), .pointer (some ⟨w.heap.size, 0, none⟩)],
      fun vq wq => RO bO wq vq Q]) (by kernel_rfl) (by decide) ?_ ?_ ?_
  · intro j hj; cases hj
  · refine po rfl (fun lq aq wq hk hr K hK => ?_) ?_
    · have B1 : ev aq (.tmp 1) = .pointer (some ⟨pb, 0, none⟩) := hk.base 1 (by kernel_rfl) rfl
      have hb : Below _ _ _ := hk.ext
      exact vc hK (op_load3 1 _ B1 (Db.out.below hb)) (fun w2 h2 => QV.grow ⟨_, _, _, _, _, _, _, rfl, _, _, _, (SNb.out.below hb), (SDb.out.below hb), hlb, eb⟩ h2)
    refine po rfl (fun lq aq wq hk hr K hK => ?_) ?_
    · have B2 : ev aq (.tmp 2) = .pointer (some ⟨pd, 0, none⟩) := hk.base 2 (by kernel_rfl) rfl
      have B3 : ev aq (.tmp 3) = .pointer (some ⟨w.heap.size, 0, none⟩) := hk.base 3 (by kernel_rfl) rfl
      exact vc hK (by go_simp) (fun w2 h2 => rfl)
    refine po rfl (fun lq aq wq hk hr K hK => ?_) ?_
    · obtain ⟨v0, E0, r0⟩ := hk.dp hr 0 5 (by kernel_rfl)
      have r0 : QV wq v0 r := r0
      have E1 : ev aq (.tmp 6) = .func (.func 105) #[] #[.pointer (some ⟨pd, 0, none⟩), .pointer (some ⟨w.heap.size, 0, none⟩)] := hk.dc hr 1 (by kernel_rfl) fun _ _ h => h
      exact yc hK (f := 59) (vs := #[v0, .func (.func 105) #[] #[.pointer (some ⟨pd, 0, none⟩), .pointer (some ⟨w.heap.size, 0, none⟩)]]) (by go_simp) (withR_o wq (bO := bO) (low hB HB.out hk.ext) Q _ _ r0 two11_f (fun w9 u9 hw9 hu9 => two11_o w9 (bO := bO) Q f caps pd w.heap.size hu9.rv _ _ _ _ _ _ _ (D0.out.below (Below.trans hk.ext (Below.mono hw9 hk.ext.size))) (SN0.out.below (Below.trans hk.ext (Below.mono hw9 hk.ext.size))) (SD0.out.below (Below.trans hk.ext (Below.mono hw9 hk.ext.size))) hd0 (BoxN.below HD.out (Below.trans hk.ext (Below.mono hw9 hk.ext.size))) hf hs1 hs2 hs3 (fun w1 u1 v1 m1 hg => hdo w1 u1 v1 m1 (Below.trans (HB.out.trans (Below.mono (Below.trans hk.ext (Below.mono hw9 hk.ext.size)) HB.out.size)) (Below.mono hg ((HB.out.trans (Below.mono (Below.trans hk.ext (Below.mono hw9 hk.ext.size)) HB.out.size))).size))))) (fun u w1 hu w2 h2 => (hu).grow h2)
    exact AllOps.nil
  intro V x1 hG hV hap
  have r2 : RO bO x1 (V 2) Q := hV 2 (by decide)
  clear hV hap
  simp only [List.take_succ_cons, List.take_zero, List.drop_succ_cons, List.drop_zero, putAll, Act.put, List.setIfInBounds_toArray, List.set_cons_zero, List.set_cons_succ]
  have hb := (show Below _ _ _ from hG)
  obtain ⟨nR, AR, kR, cR, BR, jR, dR, y9, eR, ey, hQ, HQ, c0, c1, c2⟩ := ret3o r2 (DR.out.below hb) (HB.out.trans (Below.mono hb HB.out.size)) (by omega)
  simp only [eR]
  refine wpList_of_skip rfl (op_store3 4 7 _ rfl rfl (DR.out.below hb)) ?_
  rw [ey]
  clear eR ey hb hG HB DR
  go_wp2_with fail
  refine bodyPost_ret (v := .agg #[.bool nR, .slice AR kR cR, .slice BR jR dR]) (by simp [results, Tryz.results104, go_sem, c0, c1, c2]) rfl ⟨_, rfl, hQ, HQ⟩
set_option maxHeartbeats 16000000 in
set_option maxRecDepth 100000 in
theorem two_o (w : World) {bO : Nat} (hB : bO ≤ w.heap.size) {u v : Value} {q r : Rat} (Q : Rat) (f : FuncId) (caps : Array Value) (h0 : QV w u q) (h1 : QV w v r) (hf : ∀ (vs : Array Value) (w1 : World), (callFunc f vs).run Tryz.prog w1 = .ok (.enter f vs) w1) (hs1 : szz (q.num * (r.den : Int)) ≤ 1000) (hs2 : szz (r.num * (q.den : Int)) ≤ 1000) (hs3 : sz (q.den * r.den) ≤ 1000) (hdo : ∀ (w1 : World) (u1 v1 m1 : Value), Grows w w1 → ZV w1 u1 (q.num * (r.den : Int)) → ZV w1 v1 (r.num * (q.den : Int)) → LV w1 m1 (limbs (q.den * r.den)) (q.den * r.den) → Calls Tryz.prog f (#[u1, v1, m1] ++ caps) w1 fun e w' => ∃ x, e = .returned x ∧ RO bO w' x Q ∧ Grows w1 w') : Calls Tryz.prog 67 #[u, v, .func (.func f) #[] caps] w fun e w' => ∃ x, e = .returned x ∧ RO bO w' x Q ∧ Grows w w' := by
  obtain ⟨n0, A0, k0, c0, B0, j0, d0, rfl, z0, l0, a0, s0, t0, hl0, e0⟩ := h0
  have hk0 : szz z0 ≤ 1000 := s0.size
  obtain ⟨n1, A1, k1, c1, B1, j1, d1, rfl, z1, l1, a1, s1, t1, hl1, e1⟩ := h1
  have hk1 : szz z1 ≤ 1000 := s1.size
  go_enter Tryz.func67, Tryz.ntmps67
  go_upto_region 1 with fail
  obtain ⟨x0, ex0, HB, D0, D1, DF, DR⟩ := st_33N3 w 26 (.bool n0) (.slice A0 k0 c0) (.slice B0 j0 d0) 26 (.bool n1) (.slice A1 k1 c1) (.slice B1 j1 d1) 71 #[.func (.func f) #[] caps] 26 (.bool false) (.slice none 0 0) (.slice none 0 0)
  rw [ex0]
  clear ex0
  replace HB := Lib.hid HB
  replace D0 := Lib.hid D0
  replace D1 := Lib.hid D1
  have HD := Lib.hid DF
  clear DF
  replace DR := Lib.hid DR
  have SN0 := Lib.hid (s0.below HB.out)
  clear s0
  have SD0 := Lib.hid (t0.below HB.out)
  clear t0
  have SN1 := Lib.hid (s1.below HB.out)
  clear s1
  have SD1 := Lib.hid (t1.below HB.out)
  clear t1
  refine wp_region_calm 3 [] ([fun vq wq => QV wq vq q,
      fun vq _ => vq = .func (.func 104) #[] #[.pointer (some ⟨w.heap.size + 1, 0, none⟩), .pointer (some ⟨w.heap.size + 1 + 1, 0, none⟩)],
      fun vq wq => RO bO wq vq Q]) (by kernel_rfl) (by decide) ?_ ?_ ?_
  · intro j hj; cases hj
  · refine po rfl (fun lq aq wq hk hr K hK => ?_) ?_
    · have B3 : ev aq (.tmp 3) = .pointer (some ⟨w.heap.size, 0, none⟩) := hk.base 3 (by kernel_rfl) rfl
      have hb : Below _ _ _ := hk.ext
      exact vc hK (op_load3 3 _ B3 (D0.out.below hb)) (fun w2 h2 => QV.grow ⟨_, _, _, _, _, _, _, rfl, _, _, _, (SN0.out.below hb), (SD0.out.below hb), hl0, e0⟩ h2)
    refine po rfl (fun lq aq wq hk hr K hK => ?_) ?_
    · have B4 : ev aq (.tmp 4) = .pointer (some ⟨w.heap.size + 1, 0, none⟩) := hk.base 4 (by kernel_rfl) rfl
      have B5 : ev aq (.tmp 5) = .pointer (some ⟨w.heap.size + 1 + 1, 0, none⟩) := hk.base 5 (by kernel_rfl) rfl
      exact vc hK (by go_simp) (fun w2 h2 => rfl)
    refine po rfl (fun lq aq wq hk hr K hK => ?_) ?_
    · obtain ⟨v0, E0, r0⟩ := hk.dp hr 0 7 (by kernel_rfl)
      have r0 : QV wq v0 q := r0
      have E1 : ev aq (.tmp 8) = .func (.func 104) #[] #[.pointer (some ⟨w.heap.size + 1, 0, none⟩), .pointer (some ⟨w.heap.size + 1 + 1, 0, none⟩)] := hk.dc hr 1 (by kernel_rfl) fun _ _ h => h
      exact yc hK (f := 59) (vs := #[v0, .func (.func 104) #[] #[.pointer (some ⟨w.heap.size + 1, 0, none⟩), .pointer (some ⟨w.heap.size + 1 + 1, 0, none⟩)]]) (by go_simp) (withR_o wq (bO := bO) (low hB HB.out hk.ext) Q _ _ r0 two1_f (fun w9 u9 hw9 hu9 => two1_o w9 (bO := bO) (Nat.le_trans (low hB HB.out hk.ext) hw9.size) Q f caps (w.heap.size + 1) (w.heap.size + 1 + 1) hu9.rv _ _ _ _ _ _ _ _ _ _ (D1.out.below (Below.trans hk.ext (Below.mono hw9 hk.ext.size))) (SN1.out.below (Below.trans hk.ext (Below.mono hw9 hk.ext.size))) (SD1.out.below (Below.trans hk.ext (Below.mono hw9 hk.ext.size))) hl1 e1 (BoxN.below HD.out (Below.trans hk.ext (Below.mono hw9 hk.ext.size))) hf hs1 hs2 hs3 (fun w1 u1 v1 m1 hg => hdo w1 u1 v1 m1 (Below.trans (HB.out.trans (Below.mono (Below.trans hk.ext (Below.mono hw9 hk.ext.size)) HB.out.size)) (Below.mono hg ((HB.out.trans (Below.mono (Below.trans hk.ext (Below.mono hw9 hk.ext.size)) HB.out.size))).size))))) (fun u w1 hu w2 h2 => (hu).grow h2)
    exact AllOps.nil
  intro V x1 hG hV hap
  have r2 : RO bO x1 (V 2) Q := hV 2 (by decide)
  clear hV hap
  simp only [List.take_succ_cons, List.take_zero, List.drop_succ_cons, List.drop_zero, putAll, Act.put, List.setIfInBounds_toArray, List.set_cons_zero, List.set_cons_succ]
  have hb := (show Below _ _ _ from hG)
  obtain ⟨nR, AR, kR, cR, BR, jR, dR, y9, eR, ey, hQ, HQ, c0, c1, c2⟩ := ret3o r2 (DR.out.below hb) (HB.out.trans (Below.mono hb HB.out.size)) (by omega)
  simp only [eR]
  refine wpList_of_skip rfl (op_store3 6 9 _ rfl rfl (DR.out.below hb)) ?_
  rw [ey]
  clear eR ey hb hG HB DR
  go_wp2_with fail
  refine bodyPost_ret (v := .agg #[.bool nR, .slice AR kR cR, .slice BR jR dR]) (by simp [results, Tryz.results67, go_sem, c0, c1, c2]) rfl ⟨_, rfl, hQ, HQ⟩
end Go.Proofs.YtbippecchpaleaaGreatDoor
