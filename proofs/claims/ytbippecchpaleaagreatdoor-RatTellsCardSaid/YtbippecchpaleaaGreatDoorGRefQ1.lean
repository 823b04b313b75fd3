import Derived.Test.YtbippecchpaleaaGreatDoorGRatS
import Derived.Test.YtbippecchpaleaaGreatDoorVal5
import Derived.Test.YtbippecchpaleaaGreatDoorGRDiv
/- litmusref03.whole, times, less: what each returns. -/
namespace Go.Proofs.YtbippecchpaleaaGreatDoor
open Go.RowKit Go.Num Go.Kp
attribute [local go_sem] Oper.semAt_some u64_mask ev_const ev_func ev_global
set_option maxHeartbeats 4000000 in
set_option maxRecDepth 100000 in
theorem whole_v (w : World) {u : Value} {x : Int} (h0 : WV w u x) : Calls Tryz.prog 77 #[u] w fun e w' => ∃ r, e = .returned r ∧ ZV w' r x ∧ Grows w w' := by
  obtain ⟨n0, A0, k0, c0, rfl, s0⟩ := h0
  have hk0 : szz x ≤ 1000 := s0.size
  go_enter Tryz.func77, Tryz.ntmps77
  go_upto_region 1 with fail
  obtain ⟨x0, ex0, HB, D0, DR⟩ := st_22 w 24 (.bool n0) (.slice A0 k0 c0) 24 (.bool false) (.slice none 0 0)
  rw [ex0]
  clear ex0
  replace HB := Lib.hid HB
  replace D0 := Lib.hid D0
  replace DR := Lib.hid DR
  have SN0 := Lib.hid (s0.below HB.out)
  clear s0
  obtain ⟨lN0, aN0, qN0, hlN0, eN0⟩ := SN0.out
  have QN0 := Lib.hid qN0
  clear qN0
  refine wp_region_calm 3 [] ([fun vq _ => vq = .pointer (some ⟨w.heap.size, 1, none⟩),
      fun vq _ => vq = .slice A0 k0 c0,
      fun vq wq => LV wq vq (limbs aN0) aN0]) (by kernel_rfl) (by decide) ?_ ?_ ?_
  · intro j hj; cases hj
  · refine po rfl (fun lq aq wq hk hr K hK => ?_) ?_
    · have B1 : ev aq (.tmp 1) = .pointer (some ⟨w.heap.size, 0, none⟩) := hk.base 1 (by kernel_rfl) rfl
      exact vc hK (by go_simp) (fun w2 h2 => rfl)
    refine po rfl (fun lq aq wq hk hr K hK => ?_) ?_
    · have E0 : ev aq (.tmp 4) = .pointer (some ⟨w.heap.size, 1, none⟩) := hk.dc hr 0 (by kernel_rfl) fun _ _ h => h
      have hb : Below _ _ _ := hk.ext
      have c1 := (D0.out.below hb).c1
      exact vc hK (by go_simp) (fun w2 h2 => rfl)
    refine po rfl (fun lq aq wq hk hr K hK => ?_) ?_
    · have E1 : ev aq (.tmp 5) = .slice A0 k0 c0 := hk.dc hr 1 (by kernel_rfl) fun _ _ h => h
      exact yc hK (by go_simp) (rtrim_v wq (QN0.out.below hk.ext).lv hlN0) (fun u w1 hu w2 h2 => (hu).grow h2)
    exact AllOps.nil
  intro V x1 hG hV hap
  have r2 : LV x1 (V 2) (limbs aN0) aN0 := hV 2 (by decide)
  clear hV hap
  simp only [List.take_succ_cons, List.take_zero, List.drop_succ_cons, List.drop_zero, putAll, Act.put, List.setIfInBounds_toArray, List.set_cons_zero, List.set_cons_succ]
  have hb := (show Below _ _ _ from hG)
  replace D0 := Lib.hid (D0.out.below hb)
  replace SN0 := Lib.hid (SN0.out.below hb)
  replace DR := Lib.hid (DR.out.below hb)
  replace QN0 := Lib.hid (QN0.out.below hb)
  replace HB := Lib.hid (HB.out.trans (Below.mono hb HB.out.size))
  clear hb hG
  obtain ⟨A3, c3, e3, q3⟩ := r2
  simp only [e3]
  rw [e3] at q3
  have Q3 := Lib.hid q3
  clear e3 q3
  have hsz : sz aN0 ≤ 1000 := by have h := hk0; rw [eN0] at h; unfold szz at h; rwa [sg_natAbs] at h
  have hneg := Lib.hid (sg_lt n0 aN0)
  have hab := Lib.hid (show x.natAbs = aN0 by rw [eN0, sg_natAbs])
  have ht : n0 = false ∨ n0 = true ∧ (limbs aN0).length = 0 ∨ n0 = true ∧ ∃ k, (limbs aN0).length = k + 1 ∧ k < 1000 := by
    cases n0
    · exact .inl rfl
    · rcases Nat.eq_zero_or_pos aN0 with h0 | h0
      · exact .inr (.inl ⟨rfl, by rw [h0, limbs_zero]; rfl⟩)
      · obtain ⟨k, hl1⟩ : ∃ k, (limbs aN0).length = k + 1 := ⟨(limbs aN0).length - 1, by rw [limbs_pos (by omega)]; simp⟩
        exact .inr (.inr ⟨rfl, k, hl1, by unfold sz at hsz; omega⟩)
  replace eN0 := Lib.hid eN0
  rcases ht with hn | ⟨hn, ha⟩ | ⟨hn, ha⟩
  · skip
    subst hn
    have hd : false = (false && decide (0 < aN0)) := rfl
    replace hd := Lib.hid hd
    go_upto_region 2 with fail
    refine wp_region_calm 9 [] ([fun vq _ => vq = .pointer (some ⟨w.heap.size, 0, none⟩),
        fun vq _ => vq = .bool false,
        fun vq _ => vq = .bool false,
        fun vq _ => vq = undef,
        fun vq _ => vq = undef,
        fun vq _ => vq = undef,
        fun vq _ => vq = .bool false,
        fun vq _ => vq = .slice A3 (limbs aN0).length c3,
        fun vq wq => ZV wq vq x]) (by kernel_rfl) (by decide) ?_ ?_ ?_
    · intro j hj; cases hj
    · refine po rfl (fun lq aq wq hk hr K hK => ?_) ?_
      · have B1 : ev aq (.tmp 1) = .pointer (some ⟨w.heap.size, 0, none⟩) := hk.base 1 (by kernel_rfl) rfl
        exact vc hK (by go_simp) (fun w2 h2 => rfl)
      refine po rfl (fun lq aq wq hk hr K hK => ?_) ?_
      · have E0 : ev aq (.tmp 7) = .pointer (some ⟨w.heap.size, 0, none⟩) := hk.dc hr 0 (by kernel_rfl) fun _ _ h => h
        have hb : Below _ _ _ := hk.ext
        have c0 := (D0.out.below hb).c0
        exact vc hK (by go_simp) (fun w2 h2 => rfl)
      refine po rfl (fun lq aq wq hk hr K hK => ?_) ?_
      · have E1 : ev aq (.tmp 8) = .bool false := hk.dc hr 1 (by kernel_rfl) fun _ _ h => h
        exact vc hK (by go_simp) (fun w2 h2 => rfl)
      refine pb 2 9 true false rfl (by kernel_rfl) (fun _ _ h => h) (by decide) (fun _ => rfl) rfl ?_
      refine pb 2 9 true false rfl (by kernel_rfl) (fun _ _ h => h) (by decide) (fun _ => rfl) rfl ?_
      refine pb 2 9 true false rfl (by kernel_rfl) (fun _ _ h => h) (by decide) (fun _ => rfl) rfl ?_
      refine po rfl (fun lq aq wq hk hr K hK => ?_) ?_
      · have E2 : ev aq (.tmp 9) = .bool false := hk.dc hr 2 (by kernel_rfl) fun _ _ h => h
        exact vc hK (by go_simp) (fun w2 h2 => rfl)
      refine po rfl (fun lq aq wq hk hr K hK => ?_) ?_
      · have B3 : ev aq (.tmp 3) = .slice A3 (limbs aN0).length c3 := hk.base 3 (by kernel_rfl) rfl
        exact vc hK (by go_simp) (fun w2 h2 => rfl)
      refine po rfl (fun lq aq wq hk hr K hK => ?_) ?_
      · have E6 : ev aq (.tmp 13) = .bool false := hk.dc hr 6 (by kernel_rfl) fun _ _ h => h
        have E7 : ev aq (.tmp 14) = .slice A3 (limbs aN0).length c3 := hk.dc hr 7 (by kernel_rfl) fun _ _ h => h
        exact vc hK (by go_simp) (fun w2 h2 => (zv_lit' (n := false) (Q3.out.below hk.ext) hsz hab.out (by rw [eN0.out, hneg.out]; exact hd.out)).grow h2)
      exact AllOps.nil
    intro V x2 hG hV hap
    have r1 : (V 1) = .bool false := hV 1 (by decide)
    have r8 : ZV x2 (V 8) x := hV 8 (by decide)
    clear hV hap
    simp only [List.take_succ_cons, List.take_zero, List.drop_succ_cons, List.drop_zero, putAll, Act.put, List.setIfInBounds_toArray, List.set_cons_zero, List.set_cons_succ]
    have hb := (show Below _ _ _ from hG)
    obtain ⟨nR, AR, kR, cR, y9, eR, ey, hQ, HQ, c0, c1⟩ := ret2 r8 (DR.out.below hb) (HB.out.trans (Below.mono hb HB.out.size)) (by omega)
    simp only [eR]
    refine wpList_of_skip rfl (op_store 2 15 _ rfl rfl (DR.out.below hb)) ?_
    rw [ey]
    clear eR ey hb hG HB DR
    go_wp2_with fail
    refine bodyPost_ret (v := .agg #[.bool nR, .slice AR kR cR]) (by simp [results, Tryz.results77, go_sem, c0, c1]) rfl ⟨_, rfl, hQ, HQ⟩
  · skip
    subst hn
    have hd : false = (true && decide (0 < aN0)) := by
      rcases Nat.eq_zero_or_pos aN0 with h0 | h0
      · rw [h0]; rfl
      · rw [limbs_pos (by omega)] at ha; simp at ha
    replace hd := Lib.hid hd
    have hlen := ha
    have q3 := Q3.out
    rw [hlen] at q3 ⊢
    clear Q3
    have Q3 := Lib.hid q3
    clear q3
    go_upto_region 2 with fail
    refine wp_region_calm 9 [] ([fun vq _ => vq = .pointer (some ⟨w.heap.size, 0, none⟩),
        fun vq _ => vq = .bool true,
        fun vq _ => vq = .bool true,
        fun vq _ => vq = .slice A3 0 c3,
        fun vq _ => vq = .int .i64 0,
        fun vq _ => vq = .bool false,
        fun vq _ => vq = .bool false,
        fun vq _ => vq = .slice A3 0 c3,
        fun vq wq => ZV wq vq x]) (by kernel_rfl) (by decide) ?_ ?_ ?_
    · intro j hj; cases hj
    · refine po rfl (fun lq aq wq hk hr K hK => ?_) ?_
      · have B1 : ev aq (.tmp 1) = .pointer (some ⟨w.heap.size, 0, none⟩) := hk.base 1 (by kernel_rfl) rfl
        exact vc hK (by go_simp) (fun w2 h2 => rfl)
      refine po rfl (fun lq aq wq hk hr K hK => ?_) ?_
      · have E0 : ev aq (.tmp 7) = .pointer (some ⟨w.heap.size, 0, none⟩) := hk.dc hr 0 (by kernel_rfl) fun _ _ h => h
        have hb : Below _ _ _ := hk.ext
        have c0 := (D0.out.below hb).c0
        exact vc hK (by go_simp) (fun w2 h2 => rfl)
      refine po rfl (fun lq aq wq hk hr K hK => ?_) ?_
      · have E1 : ev aq (.tmp 8) = .bool true := hk.dc hr 1 (by kernel_rfl) fun _ _ h => h
        exact vc hK (by go_simp) (fun w2 h2 => rfl)
      refine pl 2 9 true rfl (by kernel_rfl) (fun _ _ h => h) (fun lq aq wq hk hr K hK => ?_) ?_
      · have B3 : ev aq (.tmp 3) = .slice A3 0 c3 := hk.base 3 (by kernel_rfl) rfl
        exact vc hK (by go_simp) (fun w2 h2 => rfl)
      refine pl 2 9 true rfl (by kernel_rfl) (fun _ _ h => h) (fun lq aq wq hk hr K hK => ?_) ?_
      · have E3 : ev aq (.tmp 10) = .slice A3 0 c3 := hk.dc hr 3 (by kernel_rfl) fun _ _ h => h
        exact vc hK (by go_simp) (fun w2 h2 => rfl)
      refine pl 2 9 true rfl (by kernel_rfl) (fun _ _ h => h) (fun lq aq wq hk hr K hK => ?_) ?_
      · have E4 : ev aq (.tmp 11) = .int .i64 0 := hk.dc hr 4 (by kernel_rfl) fun _ _ h => h
        exact vc hK (by go_simp) (fun w2 h2 => rfl)
      refine po rfl (fun lq aq wq hk hr K hK => ?_) ?_
      · have E2 : ev aq (.tmp 9) = .bool true := hk.dc hr 2 (by kernel_rfl) fun _ _ h => h
        have E5 : ev aq (.tmp 12) = .bool false := hk.dc hr 5 (by kernel_rfl) fun _ _ h => h
        exact vc hK (by go_simp) (fun w2 h2 => rfl)
      refine po rfl (fun lq aq wq hk hr K hK => ?_) ?_
      · have B3 : ev aq (.tmp 3) = .slice A3 0 c3 := hk.base 3 (by kernel_rfl) rfl
        exact vc hK (by go_simp) (fun w2 h2 => rfl)
      refine po rfl (fun lq aq wq hk hr K hK => ?_) ?_
      · have E6 : ev aq (.tmp 13) = .bool false := hk.dc hr 6 (by kernel_rfl) fun _ _ h => h
        have E7 : ev aq (.tmp 14) = .slice A3 0 c3 := hk.dc hr 7 (by kernel_rfl) fun _ _ h => h
        exact vc hK (by go_simp) (fun w2 h2 => (zv_lit' (n := false) (Q3.out.below hk.ext) hsz hab.out (by rw [eN0.out, hneg.out]; exact hd.out)).grow h2)
      exact AllOps.nil
    intro V x2 hG hV hap
    have r1 : (V 1) = .bool true := hV 1 (by decide)
    have r8 : ZV x2 (V 8) x := hV 8 (by decide)
    clear hV hap
    simp only [List.take_succ_cons, List.take_zero, List.drop_succ_cons, List.drop_zero, putAll, Act.put, List.setIfInBounds_toArray, List.set_cons_zero, List.set_cons_succ]
    have hb := (show Below _ _ _ from hG)
    obtain ⟨nR, AR, kR, cR, y9, eR, ey, hQ, HQ, c0, c1⟩ := ret2 r8 (DR.out.below hb) (HB.out.trans (Below.mono hb HB.out.size)) (by omega)
    simp only [eR]
    refine wpList_of_skip rfl (op_store 2 15 _ rfl rfl (DR.out.below hb)) ?_
    rw [ey]
    clear eR ey hb hG HB DR
    go_wp2_with fail
    refine bodyPost_ret (v := .agg #[.bool nR, .slice AR kR cR]) (by simp [results, Tryz.results77, go_sem, c0, c1]) rfl ⟨_, rfl, hQ, HQ⟩
  · skip
    subst hn
    have hd : true = (true && decide (0 < aN0)) := by
      obtain ⟨k, hk, _⟩ := ha
      rcases Nat.eq_zero_or_pos aN0 with h0 | h0
      · rw [h0, limbs_zero] at hk; simp at hk
      · rw [decide_eq_true h0]; rfl
    replace hd := Lib.hid hd
    obtain ⟨k, hlen, hk9⟩ := ha
    have q3 := Q3.out
    rw [hlen] at q3 ⊢
    clear Q3
    have Q3 := Lib.hid q3
    clear q3
    go_upto_region 2 with fail
    refine wp_region_calm 9 [] ([fun vq _ => vq = .pointer (some ⟨w.heap.size, 0, none⟩),
        fun vq _ => vq = .bool true,
        fun vq _ => vq = .bool true,
        fun vq _ => vq = .slice A3 (k + 1) c3,
        fun vq _ => vq = .int .i64 ((k + 1) : Nat),
        fun vq _ => vq = .bool true,
        fun vq _ => vq = .bool true,
        fun vq _ => vq = .slice A3 (k + 1) c3,
        fun vq wq => ZV wq vq x]) (by kernel_rfl) (by decide) ?_ ?_ ?_
    · intro j hj; cases hj
    · refine po rfl (fun lq aq wq hk hr K hK => ?_) ?_
      · have B1 : ev aq (.tmp 1) = .pointer (some ⟨w.heap.size, 0, none⟩) := hk.base 1 (by kernel_rfl) rfl
        exact vc hK (by go_simp) (fun w2 h2 => rfl)
      refine po rfl (fun lq aq wq hk hr K hK => ?_) ?_
      · have E0 : ev aq (.tmp 7) = .pointer (some ⟨w.heap.size, 0, none⟩) := hk.dc hr 0 (by kernel_rfl) fun _ _ h => h
        have hb : Below _ _ _ := hk.ext
        have c0 := (D0.out.below hb).c0
        exact vc hK (by go_simp) (fun w2 h2 => rfl)
      refine po rfl (fun lq aq wq hk hr K hK => ?_) ?_
      · have E1 : ev aq (.tmp 8) = .bool true := hk.dc hr 1 (by kernel_rfl) fun _ _ h => h
        exact vc hK (by go_simp) (fun w2 h2 => rfl)
      refine pl 2 9 true rfl (by kernel_rfl) (fun _ _ h => h) (fun lq aq wq hk hr K hK => ?_) ?_
      · have B3 : ev aq (.tmp 3) = .slice A3 (k + 1) c3 := hk.base 3 (by kernel_rfl) rfl
        exact vc hK (by go_simp) (fun w2 h2 => rfl)
      refine pl 2 9 true rfl (by kernel_rfl) (fun _ _ h => h) (fun lq aq wq hk hr K hK => ?_) ?_
      · have E3 : ev aq (.tmp 10) = .slice A3 (k + 1) c3 := hk.dc hr 3 (by kernel_rfl) fun _ _ h => h
        exact vc hK (by go_simp) (fun w2 h2 => rfl)
      refine pl 2 9 true rfl (by kernel_rfl) (fun _ _ h => h) (fun lq aq wq hk hr K hK => ?_) ?_
      · have E4 : ev aq (.tmp 11) = .int .i64 ((k + 1) : Nat) := hk.dc hr 4 (by kernel_rfl) fun _ _ h => h
        exact vc hK (by go_simp) (fun w2 h2 => rfl)
      refine po rfl (fun lq aq wq hk hr K hK => ?_) ?_
      · have E2 : ev aq (.tmp 9) = .bool true := hk.dc hr 2 (by kernel_rfl) fun _ _ h => h
        have E5 : ev aq (.tmp 12) = .bool true := hk.dc hr 5 (by kernel_rfl) fun _ _ h => h
        exact vc hK (by go_simp) (fun w2 h2 => rfl)
      refine po rfl (fun lq aq wq hk hr K hK => ?_) ?_
      · have B3 : ev aq (.tmp 3) = .slice A3 (k + 1) c3 := hk.base 3 (by kernel_rfl) rfl
        exact vc hK (by go_simp) (fun w2 h2 => rfl)
      refine po rfl (fun lq aq wq hk hr K hK => ?_) ?_
      · have E6 : ev aq (.tmp 13) = .bool true := hk.dc hr 6 (by kernel_rfl) fun _ _ h => h
        have E7 : ev aq (.tmp 14) = .slice A3 (k + 1) c3 := hk.dc hr 7 (by kernel_rfl) fun _ _ h => h
        exact vc hK (by go_simp) (fun w2 h2 => (zv_lit' (n := true) (Q3.out.below hk.ext) hsz hab.out (by rw [eN0.out, hneg.out]; exact hd.out)).grow h2)
      exact AllOps.nil
    intro V x2 hG hV hap
    have r1 : (V 1) = .bool true := hV 1 (by decide)
    have r8 : ZV x2 (V 8) x := hV 8 (by decide)
    clear hV hap
    simp only [List.take_succ_cons, List.take_zero, List.drop_succ_cons, List.drop_zero, putAll, Act.put, List.setIfInBounds_toArray, List.set_cons_zero, List.set_cons_succ]
    have hb := (show Below _ _ _ from hG)
    obtain ⟨nR, AR, kR, cR, y9, eR, ey, hQ, HQ, c0, c1⟩ := ret2 r8 (DR.out.below hb) (HB.out.trans (Below.mono hb HB.out.size)) (by omega)
    simp only [eR]
    refine wpList_of_skip rfl (op_store 2 15 _ rfl rfl (DR.out.below hb)) ?_
    rw [ey]
    clear eR ey hb hG HB DR
    go_wp2_with fail
    refine bodyPost_ret (v := .agg #[.bool nR, .slice AR kR cR]) (by simp [results, Tryz.results77, go_sem, c0, c1]) rfl ⟨_, rfl, hQ, HQ⟩
set_option maxHeartbeats 4000000 in
set_option maxRecDepth 100000 in
theorem less_v (w : World) {u : Value} {x : Int} (h0 : WV w u x) : Calls Tryz.prog 62 #[u] w fun e w' => ∃ r, e = .returned r ∧ ZV w' r (-x) ∧ Grows w w' := by
  obtain ⟨n0, A0, k0, c0, rfl, s0⟩ := h0
  have hk0 : szz x ≤ 1000 := s0.size
  go_enter Tryz.func62, Tryz.ntmps62
  go_upto_region 1 with fail
  obtain ⟨x0, ex0, HB, D0, DR⟩ := st_22 w 24 (.bool n0) (.slice A0 k0 c0) 24 (.bool false) (.slice none 0 0)
  rw [ex0]
  clear ex0
  replace HB := Lib.hid HB
  replace D0 := Lib.hid D0
  replace DR := Lib.hid DR
  have SN0 := Lib.hid (s0.below HB.out)
  clear s0
  refine wp_region_calm 2 [] ([fun vq wq => WV wq vq x,
      fun vq wq => ZV wq vq x]) (by kernel_rfl) (by decide) ?_ ?_ ?_
  · intro j hj; cases hj
  · refine po rfl (fun lq aq wq hk hr K hK => ?_) ?_
    · have B1 : ev aq (.tmp 1) = .pointer (some ⟨w.heap.size, 0, none⟩) := hk.base 1 (by kernel_rfl) rfl
      have hb : Below _ _ _ := hk.ext
      exact vc hK (op_load 1 _ B1 (D0.out.below hb)) (fun w2 h2 => ⟨_, _, _, _, rfl, (SN0.out.below hb).below h2⟩)
    refine po rfl (fun lq aq wq hk hr K hK => ?_) ?_
    · obtain ⟨v0, E0, r0⟩ := hk.dp hr 0 3 (by kernel_rfl)
      have r0 : WV wq v0 x := r0
      exact yc hK (by go_simp) (whole_v wq r0) (fun u w1 hu w2 h2 => (hu).grow h2)
    exact AllOps.nil
  intro V x1 hG hV hap
  have r1 : ZV x1 (V 1) x := hV 1 (by decide)
  clear hV hap
  simp only [List.take_succ_cons, List.take_zero, List.drop_succ_cons, List.drop_zero, putAll, Act.put, List.setIfInBounds_toArray, List.set_cons_zero, List.set_cons_succ]
  have hb := (show Below _ _ _ from hG)
  obtain ⟨nm2, Am2, km2, cm2, em2, sm2⟩ := r1
  simp only [em2]
  clear em2
  clear hG
  replace D0 := D0.out.below hb
  refine wpList_of_skip rfl (op_store 1 4 _ rfl rfl D0) ?_
  replace DR := Lib.hid (put2_far (u := .bool nm2) (v := .slice Am2 km2 cm2) (DR.out.below hb) (show w.heap.size + 1 ≠ w.heap.size by omega))
  replace SN0 := Lib.hid (sm2.put D0 (.bool nm2) (.slice Am2 km2 cm2))
  replace HB := Lib.hid (put2_below (u := .bool nm2) (v := .slice Am2 km2 cm2) (HB.out.trans (Below.mono hb HB.out.size)) (show w.heap.size ≤ w.heap.size by omega))
  replace D0 := Lib.hid (put2_own (u := .bool nm2) (v := .slice Am2 km2 cm2) D0)
  clear hb sm2
  generalize put2 x1 w.heap.size (.bool nm2) (.slice Am2 km2 cm2) = y3 at *
  have hsn := Lib.hid (show sg (!nm2) x.natAbs = -x by rw [sg_not, SN0.out.sign, sg_own])
  go_upto_region 2 with fail
  refine wp_region_calm 7 [] ([fun vq _ => vq = .pointer (some ⟨w.heap.size, 0, none⟩),
      fun vq _ => vq = .bool nm2,
      fun vq _ => vq = .bool (!nm2),
      fun vq _ => vq = .pointer (some ⟨w.heap.size, 1, none⟩),
      fun vq _ => vq = .slice Am2 km2 cm2,
      fun vq wq => WV wq vq ((-x)),
      fun vq wq => ZV wq vq ((-x))]) (by kernel_rfl) (by decide) ?_ ?_ ?_
  · intro j hj; cases hj
  · refine po rfl (fun lq aq wq hk hr K hK => ?_) ?_
    · have B1 : ev aq (.tmp 1) = .pointer (some ⟨w.heap.size, 0, none⟩) := hk.base 1 (by kernel_rfl) rfl
      exact vc hK (by go_simp) (fun w2 h2 => rfl)
    refine po rfl (fun lq aq wq hk hr K hK => ?_) ?_
    · have E0 : ev aq (.tmp 5) = .pointer (some ⟨w.heap.size, 0, none⟩) := hk.dc hr 0 (by kernel_rfl) fun _ _ h => h
      have hb : Below _ _ _ := hk.ext
      have c0 := (D0.out.below hb).c0
      exact vc hK (by go_simp) (fun w2 h2 => rfl)
    refine po rfl (fun lq aq wq hk hr K hK => ?_) ?_
    · have E1 : ev aq (.tmp 6) = .bool nm2 := hk.dc hr 1 (by kernel_rfl) fun _ _ h => h
      exact vc hK (by go_simp) (fun w2 h2 => rfl)
    refine po rfl (fun lq aq wq hk hr K hK => ?_) ?_
    · have B1 : ev aq (.tmp 1) = .pointer (some ⟨w.heap.size, 0, none⟩) := hk.base 1 (by kernel_rfl) rfl
      exact vc hK (by go_simp) (fun w2 h2 => rfl)
    refine po rfl (fun lq aq wq hk hr K hK => ?_) ?_
    · have E3 : ev aq (.tmp 8) = .pointer (some ⟨w.heap.size, 1, none⟩) := hk.dc hr 3 (by kernel_rfl) fun _ _ h => h
      have hb : Below _ _ _ := hk.ext
      have c1 := (D0.out.below hb).c1
      exact vc hK (by go_simp) (fun w2 h2 => rfl)
    refine po rfl (fun lq aq wq hk hr K hK => ?_) ?_
    · have E2 : ev aq (.tmp 7) = .bool (!nm2) := hk.dc hr 2 (by kernel_rfl) fun _ _ h => h
      have E4 : ev aq (.tmp 9) = .slice Am2 km2 cm2 := hk.dc hr 4 (by kernel_rfl) fun _ _ h => h
      exact vc hK (by go_simp) (fun w2 h2 => (wv_lit (!nm2) (SN0.out.num.below hk.ext) SN0.out.short hsn.out).grow h2)
    refine po rfl (fun lq aq wq hk hr K hK => ?_) ?_
    · obtain ⟨v5, E5, r5⟩ := hk.dp hr 5 10 (by kernel_rfl)
      have r5 : WV wq v5 ((-x)) := r5
      exact yc hK (by go_simp) (whole_v wq r5) (fun u w1 hu w2 h2 => (hu).grow h2)
    exact AllOps.nil
  intro V x4 hG hV hap
  have r1 : (V 1) = .bool nm2 := hV 1 (by decide)
  have r6 : ZV x4 (V 6) ((-x)) := hV 6 (by decide)
  clear hV hap
  simp only [List.take_succ_cons, List.take_zero, List.drop_succ_cons, List.drop_zero, putAll, Act.put, List.setIfInBounds_toArray, List.set_cons_zero, List.set_cons_succ]
  have hb := (show Below _ _ _ from hG)
  obtain ⟨nR, AR, kR, cR, y9, eR, ey, hQ, HQ, c0, c1⟩ := ret2 r6 (DR.out.below hb) (HB.out.trans (Below.mono hb HB.out.size)) (by omega)
  simp only [eR]
  refine wpList_of_skip rfl (op_store 2 11 _ rfl rfl (DR.out.below hb)) ?_
  rw [ey]
  clear eR ey hb hG HB DR
  go_wp2_with fail
  refine bodyPost_ret (v := .agg #[.bool nR, .slice AR kR cR]) (by simp [results, Tryz.results62, go_sem, c0, c1]) rfl ⟨_, rfl, hQ, HQ⟩
set_option maxHeartbeats 4000000 in
set_option maxRecDepth 100000 in
theorem times_v (w : World) {u v : Value} {x y : Int} (h0 : WV w u x) (h1 : WV w v y) (hs : szz (x * y) ≤ 1000) : Calls Tryz.prog 54 #[u, v] w fun e w' => ∃ r, e = .returned r ∧ ZV w' r (x * y) ∧ Grows w w' := by
  obtain ⟨n0, A0, k0, c0, rfl, s0⟩ := h0
  have hk0 : szz x ≤ 1000 := s0.size
  obtain ⟨n1, A1, k1, c1, rfl, s1⟩ := h1
  have hk1 : szz y ≤ 1000 := s1.size
  go_enter Tryz.func54, Tryz.ntmps54
  go_upto_region 1 with fail
  obtain ⟨x0, ex0, HB, D0, D1, DR⟩ := st_222 w 24 (.bool n0) (.slice A0 k0 c0) 24 (.bool n1) (.slice A1 k1 c1) 24 (.bool false) (.slice none 0 0)
  rw [ex0]
  clear ex0
  replace HB := Lib.hid HB
  replace D0 := Lib.hid D0
  replace D1 := Lib.hid D1
  replace DR := Lib.hid DR
  have SN0 := Lib.hid (s0.below HB.out)
  clear s0
  have SN1 := Lib.hid (s1.below HB.out)
  clear s1
  obtain ⟨lN0, aN0, qN0, hlN0, eN0⟩ := SN0.out
  have QN0 := Lib.hid qN0
  clear qN0
  obtain ⟨lN1, aN1, qN1, hlN1, eN1⟩ := SN1.out
  have QN1 := Lib.hid qN1
  clear qN1
  have hm : sz (aN0 * aN1) ≤ 1000 := by have h := hs; rw [eN0, eN1, ← sg_mul] at h; unfold szz at h; rwa [sg_natAbs] at h
  have hz := Lib.hid (show sg (n0 != n1) (aN0 * aN1) = x * y by rw [sg_mul, eN0, eN1])
  refine wp_region_going 12 [] ([fun vq _ => vq = .pointer (some ⟨w.heap.size, 0, none⟩),
      fun vq _ => vq = .bool n0,
      fun vq _ => vq = .pointer (some ⟨w.heap.size + 1, 0, none⟩),
      fun vq _ => vq = .bool n1,
      fun vq _ => vq = .bool (n0 != n1),
      fun vq _ => vq = .pointer (some ⟨w.heap.size, 1, none⟩),
      fun vq _ => vq = .slice A0 k0 c0,
      fun vq _ => vq = .pointer (some ⟨w.heap.size + 1, 1, none⟩),
      fun vq _ => vq = .slice A1 k1 c1,
      fun vq wq => LV wq vq ((limbs (aN0 * aN1))) ((aN0 * aN1)),
      fun vq wq => WV wq vq ((x * y)),
      fun vq wq => ZV wq vq ((x * y))]) (by kernel_rfl) (by kernel_rfl) (by decide) (by kernel_rfl) (by kernel_rfl) ?_ ?_ ?_
  · intro j hj; cases hj
  · refine po rfl (fun lq aq wq hk hr K hK => ?_) ?_
    · have B2 : ev aq (.tmp 2) = .pointer (some ⟨w.heap.size, 0, none⟩) := hk.base 2 (by kernel_rfl) rfl
      exact vc hK (by go_simp) (fun w2 h2 => rfl)
    refine po rfl (fun lq aq wq hk hr K hK => ?_) ?_
    · have E0 : ev aq (.tmp 5) = .pointer (some ⟨w.heap.size, 0, none⟩) := hk.dc hr 0 (by kernel_rfl) fun _ _ h => h
      have hb := grows_of hk.ext
      have c0 := (D0.out.below hb).c0
      exact vc hK (by go_simp) (fun w2 h2 => rfl)
    refine po rfl (fun lq aq wq hk hr K hK => ?_) ?_
    · have B3 : ev aq (.tmp 3) = .pointer (some ⟨w.heap.size + 1, 0, none⟩) := hk.base 3 (by kernel_rfl) rfl
      exact vc hK (by go_simp) (fun w2 h2 => rfl)
    refine po rfl (fun lq aq wq hk hr K hK => ?_) ?_
    · have E2 : ev aq (.tmp 7) = .pointer (some ⟨w.heap.size + 1, 0, none⟩) := hk.dc hr 2 (by kernel_rfl) fun _ _ h => h
      have hb := grows_of hk.ext
      have c0 := (D1.out.below hb).c0
      exact vc hK (by go_simp) (fun w2 h2 => rfl)
    refine po rfl (fun lq aq wq hk hr K hK => ?_) ?_
    · have E1 : ev aq (.tmp 6) = .bool n0 := hk.dc hr 1 (by kernel_rfl) fun _ _ h => h
      have E3 : ev aq (.tmp 8) = .bool n1 := hk.dc hr 3 (by kernel_rfl) fun _ _ h => h
      exact vc hK (by go_simp; cases n0 <;> cases n1 <;> rfl) (fun w2 h2 => rfl)
    refine po rfl (fun lq aq wq hk hr K hK => ?_) ?_
    · have B2 : ev aq (.tmp 2) = .pointer (some ⟨w.heap.size, 0, none⟩) := hk.base 2 (by kernel_rfl) rfl
      exact vc hK (by go_simp) (fun w2 h2 => rfl)
    refine po rfl (fun lq aq wq hk hr K hK => ?_) ?_
    · have E5 : ev aq (.tmp 10) = .pointer (some ⟨w.heap.size, 1, none⟩) := hk.dc hr 5 (by kernel_rfl) fun _ _ h => h
      have hb := grows_of hk.ext
      have c1 := (D0.out.below hb).c1
      exact vc hK (by go_simp) (fun w2 h2 => rfl)
    refine po rfl (fun lq aq wq hk hr K hK => ?_) ?_
    · have B3 : ev aq (.tmp 3) = .pointer (some ⟨w.heap.size + 1, 0, none⟩) := hk.base 3 (by kernel_rfl) rfl
      exact vc hK (by go_simp) (fun w2 h2 => rfl)
    refine po rfl (fun lq aq wq hk hr K hK => ?_) ?_
    · have E7 : ev aq (.tmp 12) = .pointer (some ⟨w.heap.size + 1, 1, none⟩) := hk.dc hr 7 (by kernel_rfl) fun _ _ h => h
      have hb := grows_of hk.ext
      have c1 := (D1.out.below hb).c1
      exact vc hK (by go_simp) (fun w2 h2 => rfl)
    refine po rfl (fun lq aq wq hk hr K hK => ?_) ?_
    · have E6 : ev aq (.tmp 11) = .slice A0 k0 c0 := hk.dc hr 6 (by kernel_rfl) fun _ _ h => h
      have E8 : ev aq (.tmp 13) = .slice A1 k1 c1 := hk.dc hr 8 (by kernel_rfl) fun _ _ h => h
      exact yc hK (by go_simp) (rmuln_v wq (QN0.out.below (grows_of hk.ext)).lv (QN1.out.below (grows_of hk.ext)).lv hlN0 hlN1 hm) (fun u w1 hu w2 h2 => (hu).grow h2)
    refine po rfl (fun lq aq wq hk hr K hK => ?_) ?_
    · have E4 : ev aq (.tmp 9) = .bool (n0 != n1) := hk.dc hr 4 (by kernel_rfl) fun _ _ h => h
      obtain ⟨v9, E9, r9⟩ := hk.dp hr 9 14 (by kernel_rfl)
      have r9 : LV wq v9 ((limbs (aN0 * aN1))) ((aN0 * aN1)) := r9
      obtain ⟨A9, c9, rfl, hnd⟩ := r9
      exact vc hK (by go_simp) (fun w2 h2 => (wv_lit (n0 != n1) hnd hm hz.out).grow h2)
    refine po rfl (fun lq aq wq hk hr K hK => ?_) ?_
    · obtain ⟨v10, E10, r10⟩ := hk.dp hr 10 15 (by kernel_rfl)
      have r10 : WV wq v10 ((x * y)) := r10
      exact yc hK (by go_simp) (whole_v wq r10) (fun u w1 hu w2 h2 => (hu).grow h2)
    exact AllOps.nil
  intro V x1 hG hV hap
  have r6 : (V 6) = .slice A0 k0 c0 := hV 6 (by decide)
  have r11 : ZV x1 (V 11) ((x * y)) := hV 11 (by decide)
  clear hV hap
  simp only [List.take_succ_cons, List.take_zero, List.drop_succ_cons, List.drop_zero, putAll, Act.put, List.setIfInBounds_toArray, List.set_cons_zero, List.set_cons_succ]
  have hb := grows_of hG
  obtain ⟨nR, AR, kR, cR, y9, eR, ey, hQ, HQ, c0, c1⟩ := ret2 r11 (DR.out.below hb) (HB.out.trans (Below.mono hb HB.out.size)) (by omega)
  simp only [eR]
  refine wpList_of_skip rfl (op_store 4 16 _ rfl rfl (DR.out.below hb)) ?_
  rw [ey]
  clear eR ey hb hG HB DR
  go_wp2_with fail
  refine bodyPost_ret (v := .agg #[.bool nR, .slice AR kR cR]) (by simp [results, Tryz.results54, go_sem, c0, c1]) rfl ⟨_, rfl, hQ, HQ⟩
end Go.Proofs.YtbippecchpaleaaGreatDoor
/- litmusref03.plus: what it returns. -/
namespace Go.Proofs.YtbippecchpaleaaGreatDoor
open Go.RowKit Go.Num Go.Kp
attribute [local go_sem] Oper.semAt_some u64_mask ev_const ev_func ev_global
theorem rcmpn_v (w : World) {u v : Value} {l l' : List Nat} {a b : Nat} {k : Int} (h : LV w u l a) (g : LV w v l' b) (hl : l.length ≤ 1000) (hl' : l'.length ≤ 1000) (hk : cmpN a b = k) : Calls Tryz.prog 100 #[u, v] w fun e w' => ∃ r, e = .returned r ∧ r = .int .i64 k ∧ Grows w w' := by
  obtain ⟨A, c, rfl, s⟩ := h
  obtain ⟨A', c', rfl, s'⟩ := g
  refine (rCmp_any w _ _ l l' a b s s' hl hl').mono ?_
  rintro e w1 ⟨rfl, g⟩
  exact ⟨_, rfl, by rw [hk], g⟩
theorem rgcdn_v (w : World) {u v : Value} {l l' : List Nat} {a b : Nat} (h : LV w u l a) (g : LV w v l' b) (hs : sz b ≤ 1000) (hb : 0 < b) : Calls Tryz.prog 91 #[u, v] w fun e w' => ∃ r, e = .returned r ∧ LV w' r (limbs (a.gcd b)) (a.gcd b) ∧ Grows w w' := by
  obtain ⟨A, c, rfl, s⟩ := h
  obtain ⟨A', c', rfl, s'⟩ := g
  refine (rgcd_any w _ _ l l' a b s s').mono ?_
  rintro e w1 ⟨v1, rfl, g1, b1⟩
  exact ⟨_, rfl, lv_limbs g1 (Nat.le_trans (sz_mono (Nat.gcd_le_right _ hb)) hs), b1⟩
set_option maxHeartbeats 16000000 in
set_option maxRecDepth 100000 in
theorem plus_v (w : World) {u v : Value} {x y : Int} (h0 : WV w u x) (h1 : WV w v y) (hs : szz (x + y) ≤ 1000) : Calls Tryz.prog 64 #[u, v] w fun e w' => ∃ r, e = .returned r ∧ ZV w' r (x + y) ∧ Grows w w' := by
  obtain ⟨n0, A0, k0, c0, rfl, s0⟩ := h0
  have hk0 : szz x ≤ 1000 := s0.size
  obtain ⟨n1, A1, k1, c1, rfl, s1⟩ := h1
  have hk1 : szz y ≤ 1000 := s1.size
  go_enter Tryz.func64, Tryz.ntmps64
  go_upto_region 1 with fail
  obtain ⟨x0, ex0, HB, D0, D1, DR⟩ := st_222 w 24 (.bool n0) (.slice A0 k0 c0) 24 (.bool n1) (.slice A1 k1 c1) 24 (.bool false) (.slice none 0 0)
  rw [ex0]
  clear ex0
  replace HB := Lib.hid HB
  replace D0 := Lib.hid D0
  replace D1 := Lib.hid D1
  replace DR := Lib.hid DR
  have SN0 := Lib.hid (s0.below HB.out)
  clear s0
  have SN1 := Lib.hid (s1.below HB.out)
  clear s1
  refine wp_region_calm 2 [] ([fun vq wq => WV wq vq x,
      fun vq wq => ZV wq vq x]) (by kernel_rfl) (by decide) ?_ ?_ ?_
  · intro j hj; cases hj
  · refine po rfl (fun lq aq wq hk hr K hK => ?_) ?_
    · have B2 : ev aq (.tmp 2) = .pointer (some ⟨w.heap.size, 0, none⟩) := hk.base 2 (by kernel_rfl) rfl
      have hb : Below _ _ _ := hk.ext
      exact vc hK (op_load 2 _ B2 (D0.out.below hb)) (fun w2 h2 => ⟨_, _, _, _, rfl, (SN0.out.below hb).below h2⟩)
    refine po rfl (fun lq aq wq hk hr K hK => ?_) ?_
    · obtain ⟨v0, E0, r0⟩ := hk.dp hr 0 9 (by kernel_rfl)
      have r0 : WV wq v0 x := r0
      exact yc hK (by go_simp) (whole_v wq r0) (fun u w1 hu w2 h2 => (hu).grow h2)
    exact AllOps.nil
  intro V x1 hG hV hap
  have r1 : ZV x1 (V 1) x := hV 1 (by decide)
  clear hV hap
  simp only [List.take_succ_cons, List.take_zero, List.drop_succ_cons, List.drop_zero, putAll, Act.put, List.setIfInBounds_toArray, List.set_cons_zero, List.set_cons_succ]
  have hb := (show Below _ _ _ from hG)
  obtain ⟨nm2, Am2, km2, cm2, em2, sm2⟩ := r1
  simp only [em2]
  clear em2
  clear hG
  replace D0 := D0.out.below hb
  refine wpList_of_skip rfl (op_store 2 10 _ rfl rfl D0) ?_
  replace D1 := Lib.hid (put2_far (u := .bool nm2) (v := .slice Am2 km2 cm2) (D1.out.below hb) (show w.heap.size + 1 ≠ w.heap.size by omega))
  replace SN1 := Lib.hid ((SN1.out.below hb).put D0 (.bool nm2) (.slice Am2 km2 cm2))
  replace DR := Lib.hid (put2_far (u := .bool nm2) (v := .slice Am2 km2 cm2) (DR.out.below hb) (show w.heap.size + 1 + 1 ≠ w.heap.size by omega))
  replace SN0 := Lib.hid (sm2.put D0 (.bool nm2) (.slice Am2 km2 cm2))
  replace HB := Lib.hid (put2_below (u := .bool nm2) (v := .slice Am2 km2 cm2) (HB.out.trans (Below.mono hb HB.out.size)) (show w.heap.size ≤ w.heap.size by omega))
  replace D0 := Lib.hid (put2_own (u := .bool nm2) (v := .slice Am2 km2 cm2) D0)
  clear hb sm2
  generalize put2 x1 w.heap.size (.bool nm2) (.slice Am2 km2 cm2) = y3 at *
  go_upto_region 2 with fail
  refine wp_region_calm 2 [] ([fun vq wq => WV wq vq y,
      fun vq wq => ZV wq vq y]) (by kernel_rfl) (by decide) ?_ ?_ ?_
  · intro j hj; cases hj
  · refine po rfl (fun lq aq wq hk hr K hK => ?_) ?_
    · have B3 : ev aq (.tmp 3) = .pointer (some ⟨w.heap.size + 1, 0, none⟩) := hk.base 3 (by kernel_rfl) rfl
      have hb : Below _ _ _ := hk.ext
      exact vc hK (op_load 3 _ B3 (D1.out.below hb)) (fun w2 h2 => ⟨_, _, _, _, rfl, (SN1.out.below hb).below h2⟩)
    refine po rfl (fun lq aq wq hk hr K hK => ?_) ?_
    · obtain ⟨v0, E0, r0⟩ := hk.dp hr 0 11 (by kernel_rfl)
      have r0 : WV wq v0 y := r0
      exact yc hK (by go_simp) (whole_v wq r0) (fun u w1 hu w2 h2 => (hu).grow h2)
    exact AllOps.nil
  intro V x4 hG hV hap
  have r1 : ZV x4 (V 1) y := hV 1 (by decide)
  clear hV hap
  simp only [List.take_succ_cons, List.take_zero, List.drop_succ_cons, List.drop_zero, putAll, Act.put, List.setIfInBounds_toArray, List.set_cons_zero, List.set_cons_succ]
  have hb := (show Below _ _ _ from hG)
  obtain ⟨nm5, Am5, km5, cm5, em5, sm5⟩ := r1
  simp only [em5]
  clear em5
  clear hG
  replace D1 := D1.out.below hb
  refine wpList_of_skip rfl (op_store 3 12 _ rfl rfl D1) ?_
  replace D0 := Lib.hid (put2_far (u := .bool nm5) (v := .slice Am5 km5 cm5) (D0.out.below hb) (show w.heap.size ≠ w.heap.size + 1 by omega))
  replace SN0 := Lib.hid ((SN0.out.below hb).put D1 (.bool nm5) (.slice Am5 km5 cm5))
  replace DR := Lib.hid (put2_far (u := .bool nm5) (v := .slice Am5 km5 cm5) (DR.out.below hb) (show w.heap.size + 1 + 1 ≠ w.heap.size + 1 by omega))
  replace SN1 := Lib.hid (sm5.put D1 (.bool nm5) (.slice Am5 km5 cm5))
  replace HB := Lib.hid (put2_below (u := .bool nm5) (v := .slice Am5 km5 cm5) (HB.out.trans (Below.mono hb HB.out.size)) (show w.heap.size ≤ w.heap.size + 1 by omega))
  replace D1 := Lib.hid (put2_own (u := .bool nm5) (v := .slice Am5 km5 cm5) D1)
  clear hb sm5
  generalize put2 x4 (w.heap.size + 1) (.bool nm5) (.slice Am5 km5 cm5) = y6 at *
  have hg0 := Lib.hid SN0.out.sign
  have hg1 := Lib.hid SN1.out.sign
  rcases ht : (nm2 == nm5) with _ | _
  · skip
    rcases Nat.lt_or_ge x.natAbs y.natAbs with hl | hl
    · skip
      go_upto_region 3 with fail
      refine wp_region_calm 5 [] ([fun vq _ => vq = .pointer (some ⟨w.heap.size, 0, none⟩),
          fun vq _ => vq = .bool nm2,
          fun vq _ => vq = .pointer (some ⟨w.heap.size + 1, 0, none⟩),
          fun vq _ => vq = .bool nm5,
          fun vq _ => vq = .bool false]) (by kernel_rfl) (by decide) ?_ ?_ ?_
      · intro j hj; cases hj
      · refine po rfl (fun lq aq wq hk hr K hK => ?_) ?_
        · have B2 : ev aq (.tmp 2) = .pointer (some ⟨w.heap.size, 0, none⟩) := hk.base 2 (by kernel_rfl) rfl
          exact vc hK (by go_simp) (fun w2 h2 => rfl)
        refine po rfl (fun lq aq wq hk hr K hK => ?_) ?_
        · have E0 : ev aq (.tmp 13) = .pointer (some ⟨w.heap.size, 0, none⟩) := hk.dc hr 0 (by kernel_rfl) fun _ _ h => h
          have hb : Below _ _ _ := hk.ext
          have c0 := (D0.out.below hb).c0
          exact vc hK (by go_simp) (fun w2 h2 => rfl)
        refine po rfl (fun lq aq wq hk hr K hK => ?_) ?_
        · have B3 : ev aq (.tmp 3) = .pointer (some ⟨w.heap.size + 1, 0, none⟩) := hk.base 3 (by kernel_rfl) rfl
          exact vc hK (by go_simp) (fun w2 h2 => rfl)
        refine po rfl (fun lq aq wq hk hr K hK => ?_) ?_
        · have E2 : ev aq (.tmp 15) = .pointer (some ⟨w.heap.size + 1, 0, none⟩) := hk.dc hr 2 (by kernel_rfl) fun _ _ h => h
          have hb : Below _ _ _ := hk.ext
          have c0 := (D1.out.below hb).c0
          exact vc hK (by go_simp) (fun w2 h2 => rfl)
        refine po rfl (fun lq aq wq hk hr K hK => ?_) ?_
        · have E1 : ev aq (.tmp 14) = .bool nm2 := hk.dc hr 1 (by kernel_rfl) fun _ _ h => h
          have E3 : ev aq (.tmp 16) = .bool nm5 := hk.dc hr 3 (by kernel_rfl) fun _ _ h => h
          exact vc hK (by go_simp) (fun w2 h2 => rfl)
        exact AllOps.nil
      intro V x7 hG hV hap
      have r4 : (V 4) = .bool false := hV 4 (by decide)
      clear hV hap
      simp only [List.take_succ_cons, List.take_nil, List.drop_succ_cons, List.drop_nil, putAll, Act.put, List.setIfInBounds_toArray, List.set_cons_zero, List.set_cons_succ]
      have hb := (show Below _ _ _ from hG)
      replace D0 := Lib.hid (D0.out.below hb)
      replace SN0 := Lib.hid (SN0.out.below hb)
      replace D1 := Lib.hid (D1.out.below hb)
      replace SN1 := Lib.hid (SN1.out.below hb)
      replace DR := Lib.hid (DR.out.below hb)
      replace HB := Lib.hid (HB.out.trans (Below.mono hb HB.out.size))
      clear hb hG
      rw [r4]
      clear r4
      have hc : cmpN x.natAbs y.natAbs = -1 := by unfold cmpN; rw [if_pos hl]
      go_upto_region 5 with fail
      refine wp_region_calm 6 [] ([fun vq _ => vq = .pointer (some ⟨w.heap.size, 1, none⟩),
          fun vq _ => vq = .slice Am2 km2 cm2,
          fun vq _ => vq = .pointer (some ⟨w.heap.size + 1, 1, none⟩),
          fun vq _ => vq = .slice Am5 km5 cm5,
          fun vq _ => vq = .int .i64 ((-1)),
          fun vq _ => vq = .bool true]) (by kernel_rfl) (by decide) ?_ ?_ ?_
      · intro j hj; cases hj
      · refine po rfl (fun lq aq wq hk hr K hK => ?_) ?_
        · have B2 : ev aq (.tmp 2) = .pointer (some ⟨w.heap.size, 0, none⟩) := hk.base 2 (by kernel_rfl) rfl
          exact vc hK (by go_simp) (fun w2 h2 => rfl)
        refine po rfl (fun lq aq wq hk hr K hK => ?_) ?_
        · have E0 : ev aq (.tmp 27) = .pointer (some ⟨w.heap.size, 1, none⟩) := hk.dc hr 0 (by kernel_rfl) fun _ _ h => h
          have hb : Below _ _ _ := hk.ext
          have c1 := (D0.out.below hb).c1
          exact vc hK (by go_simp) (fun w2 h2 => rfl)
        refine po rfl (fun lq aq wq hk hr K hK => ?_) ?_
        · have B3 : ev aq (.tmp 3) = .pointer (some ⟨w.heap.size + 1, 0, none⟩) := hk.base 3 (by kernel_rfl) rfl
          exact vc hK (by go_simp) (fun w2 h2 => rfl)
        refine po rfl (fun lq aq wq hk hr K hK => ?_) ?_
        · have E2 : ev aq (.tmp 29) = .pointer (some ⟨w.heap.size + 1, 1, none⟩) := hk.dc hr 2 (by kernel_rfl) fun _ _ h => h
          have hb : Below _ _ _ := hk.ext
          have c1 := (D1.out.below hb).c1
          exact vc hK (by go_simp) (fun w2 h2 => rfl)
        refine po rfl (fun lq aq wq hk hr K hK => ?_) ?_
        · have E1 : ev aq (.tmp 28) = .slice Am2 km2 cm2 := hk.dc hr 1 (by kernel_rfl) fun _ _ h => h
          have E3 : ev aq (.tmp 30) = .slice Am5 km5 cm5 := hk.dc hr 3 (by kernel_rfl) fun _ _ h => h
          exact yc hK (by go_simp) (rcmpn_v wq (SN0.out.num.below hk.ext).lv (SN1.out.num.below hk.ext).lv SN0.out.short SN1.out.short hc) (fun u w1 hu w2 h2 => hu)
        refine po rfl (fun lq aq wq hk hr K hK => ?_) ?_
        · have E4 : ev aq (.tmp 31) = .int .i64 ((-1)) := hk.dc hr 4 (by kernel_rfl) fun _ _ h => h
          exact vc hK (by go_simp) (fun w2 h2 => rfl)
        exact AllOps.nil
      intro V x8 hG hV hap
      have r5 : (V 5) = .bool true := hV 5 (by decide)
      clear hV hap
      simp only [List.take_succ_cons, List.take_nil, List.drop_succ_cons, List.drop_nil, putAll, Act.put, List.setIfInBounds_toArray, List.set_cons_zero, List.set_cons_succ]
      have hb := (show Below _ _ _ from hG)
      replace D0 := Lib.hid (D0.out.below hb)
      replace SN0 := Lib.hid (SN0.out.below hb)
      replace D1 := Lib.hid (D1.out.below hb)
      replace SN1 := Lib.hid (SN1.out.below hb)
      replace DR := Lib.hid (DR.out.below hb)
      replace HB := Lib.hid (HB.out.trans (Below.mono hb HB.out.size))
      clear hb hG
      rw [r5]
      clear r5
      go_upto_region 6 with fail
      refine wp_region_calm 8 [] ([fun vq _ => vq = .pointer (some ⟨w.heap.size + 1, 1, none⟩),
          fun vq _ => vq = .slice Am5 km5 cm5,
          fun vq _ => vq = .pointer (some ⟨w.heap.size, 1, none⟩),
          fun vq _ => vq = .slice Am2 km2 cm2,
          fun vq wq => ∃ u0, vq = .tuple #[u0, .bool true] ∧ LV wq u0 ((limbs (y.natAbs - x.natAbs))) ((y.natAbs - x.natAbs)),
          fun vq wq => ∃ u0, vq = .tuple #[u0, .bool true] ∧ LV wq u0 ((limbs (y.natAbs - x.natAbs))) ((y.natAbs - x.natAbs)),
          fun vq wq => LV wq vq ((limbs (y.natAbs - x.natAbs))) ((y.natAbs - x.natAbs)),
          fun vq _ => vq = .bool true]) (by kernel_rfl) (by decide) ?_ ?_ ?_
      · intro j hj; cases hj
      · refine po rfl (fun lq aq wq hk hr K hK => ?_) ?_
        · have B3 : ev aq (.tmp 3) = .pointer (some ⟨w.heap.size + 1, 0, none⟩) := hk.base 3 (by kernel_rfl) rfl
          exact vc hK (by go_simp) (fun w2 h2 => rfl)
        refine po rfl (fun lq aq wq hk hr K hK => ?_) ?_
        · have E0 : ev aq (.tmp 34) = .pointer (some ⟨w.heap.size + 1, 1, none⟩) := hk.dc hr 0 (by kernel_rfl) fun _ _ h => h
          have hb : Below _ _ _ := hk.ext
          have c1 := (D1.out.below hb).c1
          exact vc hK (by go_simp) (fun w2 h2 => rfl)
        refine po rfl (fun lq aq wq hk hr K hK => ?_) ?_
        · have B2 : ev aq (.tmp 2) = .pointer (some ⟨w.heap.size, 0, none⟩) := hk.base 2 (by kernel_rfl) rfl
          exact vc hK (by go_simp) (fun w2 h2 => rfl)
        refine po rfl (fun lq aq wq hk hr K hK => ?_) ?_
        · have E2 : ev aq (.tmp 36) = .pointer (some ⟨w.heap.size, 1, none⟩) := hk.dc hr 2 (by kernel_rfl) fun _ _ h => h
          have hb : Below _ _ _ := hk.ext
          have c1 := (D0.out.below hb).c1
          exact vc hK (by go_simp) (fun w2 h2 => rfl)
        refine po rfl (fun lq aq wq hk hr K hK => ?_) ?_
        · have E1 : ev aq (.tmp 35) = .slice Am5 km5 cm5 := hk.dc hr 1 (by kernel_rfl) fun _ _ h => h
          have E3 : ev aq (.tmp 37) = .slice Am2 km2 cm2 := hk.dc hr 3 (by kernel_rfl) fun _ _ h => h
          exact yc hK (by go_simp) (rsubn_v wq (SN1.out.num.below hk.ext).lv (SN0.out.num.below hk.ext).lv SN1.out.short SN0.out.short (Nat.le_of_lt hl)) (fun u w1 hu w2 h2 => (let ⟨u0, e0, h0⟩ := hu; ⟨u0, e0, (h0).grow h2⟩))
        refine po rfl (fun lq aq wq hk hr K hK => ?_) ?_
        · obtain ⟨v4, E4, r4⟩ := hk.dp hr 4 38 (by kernel_rfl)
          have r4 : ∃ u0, v4 = .tuple #[u0, .bool true] ∧ LV wq u0 ((limbs (y.natAbs - x.natAbs))) ((y.natAbs - x.natAbs)) := r4
          exact vc hK (by go_simp) (fun w2 h2 => (let ⟨u0, e0, h0⟩ := r4; ⟨u0, e0, (h0).grow h2⟩))
        refine po rfl (fun lq aq wq hk hr K hK => ?_) ?_
        · obtain ⟨v5, E5, r5⟩ := hk.dp hr 5 33 (by kernel_rfl)
          have r5 : ∃ u0, v5 = .tuple #[u0, .bool true] ∧ LV wq u0 ((limbs (y.natAbs - x.natAbs))) ((y.natAbs - x.natAbs)) := r5
          obtain ⟨u0, rfl, h0⟩ := r5
          exact vc hK (by go_simp) (fun w2 h2 => (h0).grow h2)
        refine po rfl (fun lq aq wq hk hr K hK => ?_) ?_
        · obtain ⟨v5, E5, r5⟩ := hk.dp hr 5 33 (by kernel_rfl)
          have r5 : ∃ u0, v5 = .tuple #[u0, .bool true] ∧ LV wq u0 ((limbs (y.natAbs - x.natAbs))) ((y.natAbs - x.natAbs)) := r5
          obtain ⟨u0, rfl, h0⟩ := r5
          exact vc hK (by go_simp) (fun w2 h2 => rfl)
        exact AllOps.nil
      intro V x9 hG hV hap
      have r6 : LV x9 (V 6) ((limbs (y.natAbs - x.natAbs))) ((y.natAbs - x.natAbs)) := hV 6 (by decide)
      have r7 : (V 7) = .bool true := hV 7 (by decide)
      clear hV hap
      simp only [List.take_succ_cons, List.take_zero, List.drop_succ_cons, List.drop_zero, putAll, Act.put, List.setIfInBounds_toArray, List.set_cons_zero, List.set_cons_succ]
      have hb := (show Below _ _ _ from hG)
      replace D0 := Lib.hid (D0.out.below hb)
      replace SN0 := Lib.hid (SN0.out.below hb)
      replace D1 := Lib.hid (D1.out.below hb)
      replace SN1 := Lib.hid (SN1.out.below hb)
      replace DR := Lib.hid (DR.out.below hb)
      replace HB := Lib.hid (HB.out.trans (Below.mono hb HB.out.size))
      clear hb hG
      rw [r7]
      clear r7
      obtain ⟨A5, c5, e5, q5⟩ := r6
      simp only [e5]
      rw [e5] at q5
      have Q5 := Lib.hid q5
      clear e5 q5
      have h5 : sz (y.natAbs - x.natAbs) ≤ 1000 := Nat.le_trans (sz_mono (Nat.sub_le _ _)) hk1
      go_upto_region 7 with fail
      refine wp_region_calm 5 [] ([fun vq _ => vq = .pointer (some ⟨w.heap.size + 1, 0, none⟩),
          fun vq _ => vq = .bool nm5,
          fun vq _ => vq = .slice A5 (limbs (y.natAbs - x.natAbs)).length c5,
          fun vq wq => WV wq vq ((x + y)),
          fun vq wq => ZV wq vq ((x + y))]) (by kernel_rfl) (by decide) ?_ ?_ ?_
      · intro j hj; cases hj
      · refine po rfl (fun lq aq wq hk hr K hK => ?_) ?_
        · have B3 : ev aq (.tmp 3) = .pointer (some ⟨w.heap.size + 1, 0, none⟩) := hk.base 3 (by kernel_rfl) rfl
          exact vc hK (by go_simp) (fun w2 h2 => rfl)
        refine po rfl (fun lq aq wq hk hr K hK => ?_) ?_
        · have E0 : ev aq (.tmp 41) = .pointer (some ⟨w.heap.size + 1, 0, none⟩) := hk.dc hr 0 (by kernel_rfl) fun _ _ h => h
          have hb : Below _ _ _ := hk.ext
          have c0 := (D1.out.below hb).c0
          exact vc hK (by go_simp) (fun w2 h2 => rfl)
        refine po rfl (fun lq aq wq hk hr K hK => ?_) ?_
        · have B5 : ev aq (.tmp 5) = .slice A5 (limbs (y.natAbs - x.natAbs)).length c5 := hk.base 5 (by kernel_rfl) rfl
          exact vc hK (by go_simp) (fun w2 h2 => rfl)
        refine po rfl (fun lq aq wq hk hr K hK => ?_) ?_
        · have E1 : ev aq (.tmp 42) = .bool nm5 := hk.dc hr 1 (by kernel_rfl) fun _ _ h => h
          have E2 : ev aq (.tmp 43) = .slice A5 (limbs (y.natAbs - x.natAbs)).length c5 := hk.dc hr 2 (by kernel_rfl) fun _ _ h => h
          exact vc hK (by go_simp) (fun w2 h2 => (wv_lit nm5 (Q5.out.below hk.ext) h5 (add_apart' hg0.out hg1.out ht (Nat.le_of_lt hl))).grow h2)
        refine po rfl (fun lq aq wq hk hr K hK => ?_) ?_
        · obtain ⟨v3, E3, r3⟩ := hk.dp hr 3 44 (by kernel_rfl)
          have r3 : WV wq v3 ((x + y)) := r3
          exact yc hK (by go_simp) (whole_v wq r3) (fun u w1 hu w2 h2 => (hu).grow h2)
        exact AllOps.nil
      intro V x10 hG hV hap
      have r4 : ZV x10 (V 4) ((x + y)) := hV 4 (by decide)
      clear hV hap
      simp only [List.take_succ_cons, List.take_zero, List.drop_succ_cons, List.drop_zero, putAll, Act.put, List.setIfInBounds_toArray, List.set_cons_zero, List.set_cons_succ]
      have hb := (show Below _ _ _ from hG)
      obtain ⟨nR, AR, kR, cR, y9, eR, ey, hQ, HQ, c0, c1⟩ := ret2 r4 (DR.out.below hb) (HB.out.trans (Below.mono hb HB.out.size)) (by omega)
      simp only [eR]
      refine wpList_of_skip rfl (op_store 4 45 _ rfl rfl (DR.out.below hb)) ?_
      rw [ey]
      clear eR ey hb hG HB DR
      go_wp2_with fail
      refine bodyPost_ret (v := .agg #[.bool nR, .slice AR kR cR]) (by simp [results, Tryz.results64, go_sem, c0, c1]) rfl ⟨_, rfl, hQ, HQ⟩
    · skip
      go_upto_region 3 with fail
      refine wp_region_calm 5 [] ([fun vq _ => vq = .pointer (some ⟨w.heap.size, 0, none⟩),
          fun vq _ => vq = .bool nm2,
          fun vq _ => vq = .pointer (some ⟨w.heap.size + 1, 0, none⟩),
          fun vq _ => vq = .bool nm5,
          fun vq _ => vq = .bool false]) (by kernel_rfl) (by decide) ?_ ?_ ?_
      · intro j hj; cases hj
      · refine po rfl (fun lq aq wq hk hr K hK => ?_) ?_
        · have B2 : ev aq (.tmp 2) = .pointer (some ⟨w.heap.size, 0, none⟩) := hk.base 2 (by kernel_rfl) rfl
          exact vc hK (by go_simp) (fun w2 h2 => rfl)
        refine po rfl (fun lq aq wq hk hr K hK => ?_) ?_
        · have E0 : ev aq (.tmp 13) = .pointer (some ⟨w.heap.size, 0, none⟩) := hk.dc hr 0 (by kernel_rfl) fun _ _ h => h
          have hb : Below _ _ _ := hk.ext
          have c0 := (D0.out.below hb).c0
          exact vc hK (by go_simp) (fun w2 h2 => rfl)
        refine po rfl (fun lq aq wq hk hr K hK => ?_) ?_
        · have B3 : ev aq (.tmp 3) = .pointer (some ⟨w.heap.size + 1, 0, none⟩) := hk.base 3 (by kernel_rfl) rfl
          exact vc hK (by go_simp) (fun w2 h2 => rfl)
        refine po rfl (fun lq aq wq hk hr K hK => ?_) ?_
        · have E2 : ev aq (.tmp 15) = .pointer (some ⟨w.heap.size + 1, 0, none⟩) := hk.dc hr 2 (by kernel_rfl) fun _ _ h => h
          have hb : Below _ _ _ := hk.ext
          have c0 := (D1.out.below hb).c0
          exact vc hK (by go_simp) (fun w2 h2 => rfl)
        refine po rfl (fun lq aq wq hk hr K hK => ?_) ?_
        · have E1 : ev aq (.tmp 14) = .bool nm2 := hk.dc hr 1 (by kernel_rfl) fun _ _ h => h
          have E3 : ev aq (.tmp 16) = .bool nm5 := hk.dc hr 3 (by kernel_rfl) fun _ _ h => h
          exact vc hK (by go_simp) (fun w2 h2 => rfl)
        exact AllOps.nil
      intro V x7 hG hV hap
      have r4 : (V 4) = .bool false := hV 4 (by decide)
      clear hV hap
      simp only [List.take_succ_cons, List.take_nil, List.drop_succ_cons, List.drop_nil, putAll, Act.put, List.setIfInBounds_toArray, List.set_cons_zero, List.set_cons_succ]
      have hb := (show Below _ _ _ from hG)
      replace D0 := Lib.hid (D0.out.below hb)
      replace SN0 := Lib.hid (SN0.out.below hb)
      replace D1 := Lib.hid (D1.out.below hb)
      replace SN1 := Lib.hid (SN1.out.below hb)
      replace DR := Lib.hid (DR.out.below hb)
      replace HB := Lib.hid (HB.out.trans (Below.mono hb HB.out.size))
      clear hb hG
      rw [r4]
      clear r4
      obtain ⟨k, hc, hk9⟩ : ∃ k, cmpN x.natAbs y.natAbs = k ∧ 0 ≤ k := ⟨_, rfl, by unfold cmpN; rw [if_neg (by omega)]; split <;> decide⟩
      go_upto_region 5 with fail
      refine wp_region_calm 6 [] ([fun vq _ => vq = .pointer (some ⟨w.heap.size, 1, none⟩),
          fun vq _ => vq = .slice Am2 km2 cm2,
          fun vq _ => vq = .pointer (some ⟨w.heap.size + 1, 1, none⟩),
          fun vq _ => vq = .slice Am5 km5 cm5,
          fun vq _ => vq = .int .i64 k,
          fun vq _ => vq = .bool false]) (by kernel_rfl) (by decide) ?_ ?_ ?_
      · intro j hj; cases hj
      · refine po rfl (fun lq aq wq hk hr K hK => ?_) ?_
        · have B2 : ev aq (.tmp 2) = .pointer (some ⟨w.heap.size, 0, none⟩) := hk.base 2 (by kernel_rfl) rfl
          exact vc hK (by go_simp) (fun w2 h2 => rfl)
        refine po rfl (fun lq aq wq hk hr K hK => ?_) ?_
        · have E0 : ev aq (.tmp 27) = .pointer (some ⟨w.heap.size, 1, none⟩) := hk.dc hr 0 (by kernel_rfl) fun _ _ h => h
          have hb : Below _ _ _ := hk.ext
          have c1 := (D0.out.below hb).c1
          exact vc hK (by go_simp) (fun w2 h2 => rfl)
        refine po rfl (fun lq aq wq hk hr K hK => ?_) ?_
        · have B3 : ev aq (.tmp 3) = .pointer (some ⟨w.heap.size + 1, 0, none⟩) := hk.base 3 (by kernel_rfl) rfl
          exact vc hK (by go_simp) (fun w2 h2 => rfl)
        refine po rfl (fun lq aq wq hk hr K hK => ?_) ?_
        · have E2 : ev aq (.tmp 29) = .pointer (some ⟨w.heap.size + 1, 1, none⟩) := hk.dc hr 2 (by kernel_rfl) fun _ _ h => h
          have hb : Below _ _ _ := hk.ext
          have c1 := (D1.out.below hb).c1
          exact vc hK (by go_simp) (fun w2 h2 => rfl)
        refine po rfl (fun lq aq wq hk hr K hK => ?_) ?_
        · have E1 : ev aq (.tmp 28) = .slice Am2 km2 cm2 := hk.dc hr 1 (by kernel_rfl) fun _ _ h => h
          have E3 : ev aq (.tmp 30) = .slice Am5 km5 cm5 := hk.dc hr 3 (by kernel_rfl) fun _ _ h => h
          exact yc hK (by go_simp) (rcmpn_v wq (SN0.out.num.below hk.ext).lv (SN1.out.num.below hk.ext).lv SN0.out.short SN1.out.short hc) (fun u w1 hu w2 h2 => hu)
        refine po rfl (fun lq aq wq hk hr K hK => ?_) ?_
        · have E4 : ev aq (.tmp 31) = .int .i64 k := hk.dc hr 4 (by kernel_rfl) fun _ _ h => h
          exact vc hK (by go_simp <;> omega) (fun w2 h2 => rfl)
        exact AllOps.nil
      intro V x8 hG hV hap
      have r5 : (V 5) = .bool false := hV 5 (by decide)
      clear hV hap
      simp only [List.take_succ_cons, List.take_nil, List.drop_succ_cons, List.drop_nil, putAll, Act.put, List.setIfInBounds_toArray, List.set_cons_zero, List.set_cons_succ]
      have hb := (show Below _ _ _ from hG)
      replace D0 := Lib.hid (D0.out.below hb)
      replace SN0 := Lib.hid (SN0.out.below hb)
      replace D1 := Lib.hid (D1.out.below hb)
      replace SN1 := Lib.hid (SN1.out.below hb)
      replace DR := Lib.hid (DR.out.below hb)
      replace HB := Lib.hid (HB.out.trans (Below.mono hb HB.out.size))
      clear hb hG
      rw [r5]
      clear r5
      go_upto_region 8 with fail
      refine wp_region_calm 8 [] ([fun vq _ => vq = .pointer (some ⟨w.heap.size, 1, none⟩),
          fun vq _ => vq = .slice Am2 km2 cm2,
          fun vq _ => vq = .pointer (some ⟨w.heap.size + 1, 1, none⟩),
          fun vq _ => vq = .slice Am5 km5 cm5,
          fun vq wq => ∃ u0, vq = .tuple #[u0, .bool true] ∧ LV wq u0 ((limbs (x.natAbs - y.natAbs))) ((x.natAbs - y.natAbs)),
          fun vq wq => ∃ u0, vq = .tuple #[u0, .bool true] ∧ LV wq u0 ((limbs (x.natAbs - y.natAbs))) ((x.natAbs - y.natAbs)),
          fun vq wq => LV wq vq ((limbs (x.natAbs - y.natAbs))) ((x.natAbs - y.natAbs)),
          fun vq _ => vq = .bool true]) (by kernel_rfl) (by decide) ?_ ?_ ?_
      · intro j hj; cases hj
      · refine po rfl (fun lq aq wq hk hr K hK => ?_) ?_
        · have B2 : ev aq (.tmp 2) = .pointer (some ⟨w.heap.size, 0, none⟩) := hk.base 2 (by kernel_rfl) rfl
          exact vc hK (by go_simp) (fun w2 h2 => rfl)
        refine po rfl (fun lq aq wq hk hr K hK => ?_) ?_
        · have E0 : ev aq (.tmp 47) = .pointer (some ⟨w.heap.size, 1, none⟩) := hk.dc hr 0 (by kernel_rfl) fun _ _ h => h
          have hb : Below _ _ _ := hk.ext
          have c1 := (D0.out.below hb).c1
          exact vc hK (by go_simp) (fun w2 h2 => rfl)
        refine po rfl (fun lq aq wq hk hr K hK => ?_) ?_
        · have B3 : ev aq (.tmp 3) = .pointer (some ⟨w.heap.size + 1, 0, none⟩) := hk.base 3 (by kernel_rfl) rfl
          exact vc hK (by go_simp) (fun w2 h2 => rfl)
        refine po rfl (fun lq aq wq hk hr K hK => ?_) ?_
        · have E2 : ev aq (.tmp 49) = .pointer (some ⟨w.heap.size + 1, 1, none⟩) := hk.dc hr 2 (by kernel_rfl) fun _ _ h => h
          have hb : Below _ _ _ := hk.ext
          have c1 := (D1.out.below hb).c1
          exact vc hK (by go_simp) (fun w2 h2 => rfl)
        refine po rfl (fun lq aq wq hk hr K hK => ?_) ?_
        · have E1 : ev aq (.tmp 48) = .slice Am2 km2 cm2 := hk.dc hr 1 (by kernel_rfl) fun _ _ h => h
          have E3 : ev aq (.tmp 50) = .slice Am5 km5 cm5 := hk.dc hr 3 (by kernel_rfl) fun _ _ h => h
          exact yc hK (by go_simp) (rsubn_v wq (SN0.out.num.below hk.ext).lv (SN1.out.num.below hk.ext).lv SN0.out.short SN1.out.short hl) (fun u w1 hu w2 h2 => (let ⟨u0, e0, h0⟩ := hu; ⟨u0, e0, (h0).grow h2⟩))
        refine po rfl (fun lq aq wq hk hr K hK => ?_) ?_
        · obtain ⟨v4, E4, r4⟩ := hk.dp hr 4 51 (by kernel_rfl)
          have r4 : ∃ u0, v4 = .tuple #[u0, .bool true] ∧ LV wq u0 ((limbs (x.natAbs - y.natAbs))) ((x.natAbs - y.natAbs)) := r4
          exact vc hK (by go_simp) (fun w2 h2 => (let ⟨u0, e0, h0⟩ := r4; ⟨u0, e0, (h0).grow h2⟩))
        refine po rfl (fun lq aq wq hk hr K hK => ?_) ?_
        · obtain ⟨v5, E5, r5⟩ := hk.dp hr 5 46 (by kernel_rfl)
          have r5 : ∃ u0, v5 = .tuple #[u0, .bool true] ∧ LV wq u0 ((limbs (x.natAbs - y.natAbs))) ((x.natAbs - y.natAbs)) := r5
          obtain ⟨u0, rfl, h0⟩ := r5
          exact vc hK (by go_simp) (fun w2 h2 => (h0).grow h2)
        refine po rfl (fun lq aq wq hk hr K hK => ?_) ?_
        · obtain ⟨v5, E5, r5⟩ := hk.dp hr 5 46 (by kernel_rfl)
          have r5 : ∃ u0, v5 = .tuple #[u0, .bool true] ∧ LV wq u0 ((limbs (x.natAbs - y.natAbs))) ((x.natAbs - y.natAbs)) := r5
          obtain ⟨u0, rfl, h0⟩ := r5
          exact vc hK (by go_simp) (fun w2 h2 => rfl)
        exact AllOps.nil
      intro V x9 hG hV hap
      have r6 : LV x9 (V 6) ((limbs (x.natAbs - y.natAbs))) ((x.natAbs - y.natAbs)) := hV 6 (by decide)
      have r7 : (V 7) = .bool true := hV 7 (by decide)
      clear hV hap
      simp only [List.take_succ_cons, List.take_zero, List.drop_succ_cons, List.drop_zero, putAll, Act.put, List.setIfInBounds_toArray, List.set_cons_zero, List.set_cons_succ]
      have hb := (show Below _ _ _ from hG)
      replace D0 := Lib.hid (D0.out.below hb)
      replace SN0 := Lib.hid (SN0.out.below hb)
      replace D1 := Lib.hid (D1.out.below hb)
      replace SN1 := Lib.hid (SN1.out.below hb)
      replace DR := Lib.hid (DR.out.below hb)
      replace HB := Lib.hid (HB.out.trans (Below.mono hb HB.out.size))
      clear hb hG
      rw [r7]
      clear r7
      obtain ⟨A7, c7, e7, q7⟩ := r6
      simp only [e7]
      rw [e7] at q7
      have Q7 := Lib.hid q7
      clear e7 q7
      have h5 : sz (x.natAbs - y.natAbs) ≤ 1000 := Nat.le_trans (sz_mono (Nat.sub_le _ _)) hk0
      go_upto_region 9 with fail
      refine wp_region_calm 5 [] ([fun vq _ => vq = .pointer (some ⟨w.heap.size, 0, none⟩),
          fun vq _ => vq = .bool nm2,
          fun vq _ => vq = .slice A7 (limbs (x.natAbs - y.natAbs)).length c7,
          fun vq wq => WV wq vq ((x + y)),
          fun vq wq => ZV wq vq ((x + y))]) (by kernel_rfl) (by decide) ?_ ?_ ?_
      · intro j hj; cases hj
      · refine po rfl (fun lq aq wq hk hr K hK => ?_) ?_
        · have B2 : ev aq (.tmp 2) = .pointer (some ⟨w.heap.size, 0, none⟩) := hk.base 2 (by kernel_rfl) rfl
          exact vc hK (by go_simp) (fun w2 h2 => rfl)
        refine po rfl (fun lq aq wq hk hr K hK => ?_) ?_
        · have E0 : ev aq (.tmp 54) = .pointer (some ⟨w.heap.size, 0, none⟩) := hk.dc hr 0 (by kernel_rfl) fun _ _ h => h
          have hb : Below _ _ _ := hk.ext
          have c0 := (D0.out.below hb).c0
          exact vc hK (by go_simp) (fun w2 h2 => rfl)
        refine po rfl (fun lq aq wq hk hr K hK => ?_) ?_
        · have B7 : ev aq (.tmp 7) = .slice A7 (limbs (x.natAbs - y.natAbs)).length c7 := hk.base 7 (by kernel_rfl) rfl
          exact vc hK (by go_simp) (fun w2 h2 => rfl)
        refine po rfl (fun lq aq wq hk hr K hK => ?_) ?_
        · have E1 : ev aq (.tmp 55) = .bool nm2 := hk.dc hr 1 (by kernel_rfl) fun _ _ h => h
          have E2 : ev aq (.tmp 56) = .slice A7 (limbs (x.natAbs - y.natAbs)).length c7 := hk.dc hr 2 (by kernel_rfl) fun _ _ h => h
          exact vc hK (by go_simp) (fun w2 h2 => (wv_lit nm2 (Q7.out.below hk.ext) h5 (add_apart hg0.out hg1.out ht hl)).grow h2)
        refine po rfl (fun lq aq wq hk hr K hK => ?_) ?_
        · obtain ⟨v3, E3, r3⟩ := hk.dp hr 3 57 (by kernel_rfl)
          have r3 : WV wq v3 ((x + y)) := r3
          exact yc hK (by go_simp) (whole_v wq r3) (fun u w1 hu w2 h2 => (hu).grow h2)
        exact AllOps.nil
      intro V x10 hG hV hap
      have r4 : ZV x10 (V 4) ((x + y)) := hV 4 (by decide)
      clear hV hap
      simp only [List.take_succ_cons, List.take_zero, List.drop_succ_cons, List.drop_zero, putAll, Act.put, List.setIfInBounds_toArray, List.set_cons_zero, List.set_cons_succ]
      have hb := (show Below _ _ _ from hG)
      obtain ⟨nR, AR, kR, cR, y9, eR, ey, hQ, HQ, c0, c1⟩ := ret2 r4 (DR.out.below hb) (HB.out.trans (Below.mono hb HB.out.size)) (by omega)
      simp only [eR]
      refine wpList_of_skip rfl (op_store 4 58 _ rfl rfl (DR.out.below hb)) ?_
      rw [ey]
      clear eR ey hb hG HB DR
      go_wp2_with fail
      refine bodyPost_ret (v := .agg #[.bool nR, .slice AR kR cR]) (by simp [results, Tryz.results64, go_sem, c0, c1]) rfl ⟨_, rfl, hQ, HQ⟩
  · skip
    go_upto_region 3 with fail
    refine wp_region_calm 5 [] ([fun vq _ => vq = .pointer (some ⟨w.heap.size, 0, none⟩),
        fun vq _ => vq = .bool nm2,
        fun vq _ => vq = .pointer (some ⟨w.heap.size + 1, 0, none⟩),
        fun vq _ => vq = .bool nm5,
        fun vq _ => vq = .bool true]) (by kernel_rfl) (by decide) ?_ ?_ ?_
    · intro j hj; cases hj
    · refine po rfl (fun lq aq wq hk hr K hK => ?_) ?_
      · have B2 : ev aq (.tmp 2) = .pointer (some ⟨w.heap.size, 0, none⟩) := hk.base 2 (by kernel_rfl) rfl
        exact vc hK (by go_simp) (fun w2 h2 => rfl)
      refine po rfl (fun lq aq wq hk hr K hK => ?_) ?_
      · have E0 : ev aq (.tmp 13) = .pointer (some ⟨w.heap.size, 0, none⟩) := hk.dc hr 0 (by kernel_rfl) fun _ _ h => h
        have hb : Below _ _ _ := hk.ext
        have c0 := (D0.out.below hb).c0
        exact vc hK (by go_simp) (fun w2 h2 => rfl)
      refine po rfl (fun lq aq wq hk hr K hK => ?_) ?_
      · have B3 : ev aq (.tmp 3) = .pointer (some ⟨w.heap.size + 1, 0, none⟩) := hk.base 3 (by kernel_rfl) rfl
        exact vc hK (by go_simp) (fun w2 h2 => rfl)
      refine po rfl (fun lq aq wq hk hr K hK => ?_) ?_
      · have E2 : ev aq (.tmp 15) = .pointer (some ⟨w.heap.size + 1, 0, none⟩) := hk.dc hr 2 (by kernel_rfl) fun _ _ h => h
        have hb : Below _ _ _ := hk.ext
        have c0 := (D1.out.below hb).c0
        exact vc hK (by go_simp) (fun w2 h2 => rfl)
      refine po rfl (fun lq aq wq hk hr K hK => ?_) ?_
      · have E1 : ev aq (.tmp 14) = .bool nm2 := hk.dc hr 1 (by kernel_rfl) fun _ _ h => h
        have E3 : ev aq (.tmp 16) = .bool nm5 := hk.dc hr 3 (by kernel_rfl) fun _ _ h => h
        exact vc hK (by go_simp) (fun w2 h2 => rfl)
      exact AllOps.nil
    intro V x7 hG hV hap
    have r4 : (V 4) = .bool true := hV 4 (by decide)
    clear hV hap
    simp only [List.take_succ_cons, List.take_nil, List.drop_succ_cons, List.drop_nil, putAll, Act.put, List.setIfInBounds_toArray, List.set_cons_zero, List.set_cons_succ]
    have hb := (show Below _ _ _ from hG)
    replace D0 := Lib.hid (D0.out.below hb)
    replace SN0 := Lib.hid (SN0.out.below hb)
    replace D1 := Lib.hid (D1.out.below hb)
    replace SN1 := Lib.hid (SN1.out.below hb)
    replace DR := Lib.hid (DR.out.below hb)
    replace HB := Lib.hid (HB.out.trans (Below.mono hb HB.out.size))
    clear hb hG
    rw [r4]
    clear r4
    have h6 : sz (x.natAbs + y.natAbs) ≤ 1000 := by have h := hs; rw [← add_alike hg0.out hg1.out ht] at h; unfold szz at h; rwa [sg_natAbs] at h
    go_upto_region 4 with fail
    refine wp_region_going 9 [] ([fun vq _ => vq = .pointer (some ⟨w.heap.size, 0, none⟩),
        fun vq _ => vq = .bool nm2,
        fun vq _ => vq = .pointer (some ⟨w.heap.size, 1, none⟩),
        fun vq _ => vq = .slice Am2 km2 cm2,
        fun vq _ => vq = .pointer (some ⟨w.heap.size + 1, 1, none⟩),
        fun vq _ => vq = .slice Am5 km5 cm5,
        fun vq wq => LV wq vq ((limbs (x.natAbs + y.natAbs))) ((x.natAbs + y.natAbs)),
        fun vq wq => WV wq vq ((x + y)),
        fun vq wq => ZV wq vq ((x + y))]) (by kernel_rfl) (by kernel_rfl) (by decide) (by kernel_rfl) (by kernel_rfl) ?_ ?_ ?_
    · intro j hj; cases hj
    · refine po rfl (fun lq aq wq hk hr K hK => ?_) ?_
      · have B2 : ev aq (.tmp 2) = .pointer (some ⟨w.heap.size, 0, none⟩) := hk.base 2 (by kernel_rfl) rfl
        exact vc hK (by go_simp) (fun w2 h2 => rfl)
      refine po rfl (fun lq aq wq hk hr K hK => ?_) ?_
      · have E0 : ev aq (.tmp 18) = .pointer (some ⟨w.heap.size, 0, none⟩) := hk.dc hr 0 (by kernel_rfl) fun _ _ h => h
        have hb := grows_of hk.ext
        have c0 := (D0.out.below hb).c0
        exact vc hK (by go_simp) (fun w2 h2 => rfl)
      refine po rfl (fun lq aq wq hk hr K hK => ?_) ?_
      · have B2 : ev aq (.tmp 2) = .pointer (some ⟨w.heap.size, 0, none⟩) := hk.base 2 (by kernel_rfl) rfl
        exact vc hK (by go_simp) (fun w2 h2 => rfl)
      refine po rfl (fun lq aq wq hk hr K hK => ?_) ?_
      · have E2 : ev aq (.tmp 20) = .pointer (some ⟨w.heap.size, 1, none⟩) := hk.dc hr 2 (by kernel_rfl) fun _ _ h => h
        have hb := grows_of hk.ext
        have c1 := (D0.out.below hb).c1
        exact vc hK (by go_simp) (fun w2 h2 => rfl)
      refine po rfl (fun lq aq wq hk hr K hK => ?_) ?_
      · have B3 : ev aq (.tmp 3) = .pointer (some ⟨w.heap.size + 1, 0, none⟩) := hk.base 3 (by kernel_rfl) rfl
        exact vc hK (by go_simp) (fun w2 h2 => rfl)
      refine po rfl (fun lq aq wq hk hr K hK => ?_) ?_
      · have E4 : ev aq (.tmp 22) = .pointer (some ⟨w.heap.size + 1, 1, none⟩) := hk.dc hr 4 (by kernel_rfl) fun _ _ h => h
        have hb := grows_of hk.ext
        have c1 := (D1.out.below hb).c1
        exact vc hK (by go_simp) (fun w2 h2 => rfl)
      refine po rfl (fun lq aq wq hk hr K hK => ?_) ?_
      · have E3 : ev aq (.tmp 21) = .slice Am2 km2 cm2 := hk.dc hr 3 (by kernel_rfl) fun _ _ h => h
        have E5 : ev aq (.tmp 23) = .slice Am5 km5 cm5 := hk.dc hr 5 (by kernel_rfl) fun _ _ h => h
        exact yc hK (by go_simp) (raddn_v wq (SN0.out.num.below (grows_of hk.ext)).lv (SN1.out.num.below (grows_of hk.ext)).lv SN0.out.short SN1.out.short h6) (fun u w1 hu w2 h2 => (hu).grow h2)
      refine po rfl (fun lq aq wq hk hr K hK => ?_) ?_
      · have E1 : ev aq (.tmp 19) = .bool nm2 := hk.dc hr 1 (by kernel_rfl) fun _ _ h => h
        obtain ⟨v6, E6, r6⟩ := hk.dp hr 6 24 (by kernel_rfl)
        have r6 : LV wq v6 ((limbs (x.natAbs + y.natAbs))) ((x.natAbs + y.natAbs)) := r6
        obtain ⟨A6, c6, rfl, hnd⟩ := r6
        exact vc hK (by go_simp) (fun w2 h2 => (wv_lit nm2 hnd h6 (add_alike hg0.out hg1.out ht)).grow h2)
      refine po rfl (fun lq aq wq hk hr K hK => ?_) ?_
      · obtain ⟨v7, E7, r7⟩ := hk.dp hr 7 25 (by kernel_rfl)
        have r7 : WV wq v7 ((x + y)) := r7
        exact yc hK (by go_simp) (whole_v wq r7) (fun u w1 hu w2 h2 => (hu).grow h2)
      exact AllOps.nil
    intro V x8 hG hV hap
    have r8 : ZV x8 (V 8) ((x + y)) := hV 8 (by decide)
    clear hV hap
    simp only [List.take_succ_cons, List.take_zero, List.drop_succ_cons, List.drop_zero, putAll, Act.put, List.setIfInBounds_toArray, List.set_cons_zero, List.set_cons_succ]
    have hb := grows_of hG
    obtain ⟨nR, AR, kR, cR, y9, eR, ey, hQ, HQ, c0, c1⟩ := ret2 r8 (DR.out.below hb) (HB.out.trans (Below.mono hb HB.out.size)) (by omega)
    simp only [eR]
    refine wpList_of_skip rfl (op_store 4 26 _ rfl rfl (DR.out.below hb)) ?_
    rw [ey]
    clear eR ey hb hG HB DR
    go_wp2_with fail
    refine bodyPost_ret (v := .agg #[.bool nR, .slice AR kR cR]) (by simp [results, Tryz.results64, go_sem, c0, c1]) rfl ⟨_, rfl, hQ, HQ⟩
end Go.Proofs.YtbippecchpaleaaGreatDoor
