import Derived.Test.YtbippecchpaleaaGreatDoorGRatS
import Derived.Test.YtbippecchpaleaaGreatDoorVal5
import Derived.Test.YtbippecchpaleaaGreatDoorGRDiv
/- litmusref03.whole, times, less: what each returns. -/
namespace Go.Proofs.YtbippecchpaleaaGreatDoor
open Go.RowKit Go.Num Go.Kp
attribute [local go_sem] Oper.semAt_some u64_mask ev_const ev_func ev_global
set_option maxHeartbeats 4000000 in
set_option maxRecDepth 100000 in
theorem whole_v (w : World) {u : Value} {x : Int} (h0 : WV w u x) : Calls Tryz.prog 77 #[u] w fun e w' => ∃ r, e = .returned r ∧ ZV w' r x ∧ Grows w w' := by
  obtain ⟨n0, A0, k0, c0, rfl, s0⟩ := h0
  have hk0 : szz x ≤ 1000 := s0.size
  go_enter Tryz.func77, Tryz.ntmps77
  go_upto_region 1 with fail
  obtain ⟨x0, ex0, HB, D0, DR⟩ := st_22 w 24 (.bool n0) (.slice A0 k0 c0) 24 (.bool false) (.slice none 0 0)
  rw [ex0]
  clear ex0
  replace HB := Lib.hid HB
  replace D0 := Lib.hid D0
  replace DR := Lib.hid DR
  have SN0 := Lib.hid (s0.below HB.out)
  clear s0
  obtain ⟨lN0, aN0, qN0, hlN0, eN0⟩ := SN0.out
  have QN0 := Lib.hid qN0
  clear qN0
  refine wp_region_calm 3 [] ([fun vq _ => vq = .pointer (some ⟨w.heap.size, 1, none⟩),
      fun vq _ => vq = .slice A0 k0 c0,
      fun vq wq => LV wq vq (limbs aN0) aN0]) (by kernel_rfl) (by decide) ?_ ?_ ?_
  · intro j hj; cases hj
  · refine po rfl (fun lq aq wq hk hr K hK => ?_) ?_
    · have B1 : ev aq (.tmp 1) = .pointer (some ⟨w.heap.size, 0, none⟩) := hk.base 1 (by kernel_rfl) rfl
      exact vc hK (by go_simp) (fun w2 h2 => rfl)
    refine po rfl (fun lq aq wq hk hr K hK => ?_) ?_
    · have E0 : ev aq (.tmp 4) = .pointer (some ⟨w.heap.size, 1, none⟩) := hk.dc hr 0 (by kernel_rfl) fun _ _ h => h
      have hb : Below _ _ _ := hk.ext
      have c1 := (D0.out.below hb).c1
      exact vc hK (by go_simp) (fun w2 h2 => rfl)
    refine po rfl (fun lq aq wq hk hr K hK => ?_) ?_
    · have E1 : ev aq (.tmp 5) = .slice A0 k0 c0 := hk.dc hr 1 (by kernel_rfl) fun _ _ h => h
      exact yc hK (by go_simp) (rtrim_v wq (QN0.out.below hk.ext).lv hlN0) (fun u w1 hu w2 h2 => (hu).grow h2)
    exact AllOps.nil
  intro V x1 hG hV hap
  have r2 : LV x1 (V 2) (limbs aN0) aN0 := hV 2 (by decide)
  clear hV hap
  simp only [List.take_succ_cons, List.take_zero, List.drop_succ_cons, List.drop_zero, putAll, Act.put, List.setIfInBounds_toArray, List.set_cons_zero, List.set_cons_succ]
  have hb := (show Below _ _ _ from hG)
  replace D0 := Lib.hid (D0.out.below hb)
  replace SN0 := Lib.hid (SN0.out.below hb)
  replace DR := Lib.hid (DR.out.below hb)
  replace QN0 := Lib.hid (QN0.out.below hb)
  replace HB := Lib.hid (HB.out.trans (Below.mono hb HB.out.size))
  clear hb hG
  obtain ⟨A3, c3, e3, q3⟩ := r2
  simp only [e3]
  rw [e3] at q3
  have Q3 := Lib.hid q3
  clear e3 q3
  have hsz : sz aN0 ≤ 1000 := by have h := hk0; rw [eN0] at h; unfold szz at h; rwa [sg_natAbs] at h
  have hneg := Lib.hid (sg_lt n0 aN0)
  have hab := Lib.hid (show x.natAbs = aN0 by rw [eN0, sg_natAbs])
  have ht : n0 = false ∨ n0 = true ∧ (limbs aN0).length = 0 ∨ n0 = true ∧ ∃ k, (limbs aN0).length = k + 1 ∧ k < 1000 := by
    cases n0
    · exact .inl rfl
    · rcases Nat.eq_zero_or_pos aN0 with h0 | h0
      · exact .inr (.inl ⟨rfl, by rw [h0, limbs_zero]; rfl⟩)
      · obtain ⟨k, hl1⟩ : ∃ k, (limbs aN0).length = k + 1 := ⟨(limbs aN0).length - 1, by rw [limbs_pos (by omega)]; simp⟩
        exact .inr (.inr ⟨rfl, k, hl1, by unfold sz at hsz; omega⟩)
  replace eN0 := Lib.hid eN0
  rcases ht with hn | ⟨hn, ha⟩ | ⟨hn, ha⟩
  · skip
    subst hn
    have hd : false = (false && decide (0 < aN0)) := rfl
    replace hd := Lib.hid hd
    go_upto_region 2 with fail
    refine wp_region_calm 9 [] ([fun vq _ => vq = .pointer (some ⟨w.heap.size, 0, none⟩),
        fun vq _ => vq = .bool false,
        fun vq _ => vq = .bool false,
        fun vq _ => vq = undef,
        fun vq _ => vq = undef,
        fun vq _ => vq = undef,
        fun vq _ => vq = .bool false,
        fun vq _ => vq = .slice A3 (limbs aN0).length c3,
        fun vq wq => ZV wq vq x]) (by kernel_rfl) (by decide) ?_ ?_ ?_
    · intro j hj; cases hj
    · refine po rfl (fun lq aq wq hk hr K hK => ?_) ?_
      · have B1 : ev aq (.tmp 1) = .pointer (some ⟨w.heap.size, 0, none⟩) := hk.base 1 (by kernel_rfl) rfl
        exact vc hK (by go_simp) (fun w2 h2 => rfl)
      refine po rfl (fun lq aq wq hk hr K hK => ?_) ?_
      · have E0 : ev aq (.tmp 7) = .pointer (some ⟨w.heap.size, 0, none⟩) := hk.dc hr 0 (by kernel_rfl) fun _ _ h => h
        have hb : Below _ _ _ := hk.ext
        have c0 := (D0.out.below hb).c0
        exact vc hK (by go_simp) (fun w2 h2 => rfl)
      refine po rfl (fun lq aq wq hk hr K hK => ?_) ?_
      · have E1 : ev aq (.tmp 8) = .bool false := hk.dc hr 1 (by kernel_rfl) fun _ _ h => h
        exact vc hK (by go_simp) (fun w2 h2 => rfl)
      refine pb 2 9 true false rfl (by kernel_rfl) (fun _ _ h => h) (by decide) (fun _ => rfl) rfl ?_
      refine pb 2 9 true false rfl (by kernel_rfl) (fun _ _ h => h) (by decide) (fun _ => rfl) rfl ?_
      refine pb 2 9 true false rfl (by kernel_rfl) (fun _ _ h => h) (by decide) (fun _ => rfl) rfl ?_
      refine po rfl (fun lq aq wq hk hr K hK => ?_) ?_
      · have E2 : ev aq (.tmp 9) = .bool false := hk.dc hr 2 (by kernel_rfl) fun _ _ h => h
        exact vc hK (by go_simp) (fun w2 h2 => rfl)
      refine po rfl (fun lq aq wq hk hr K hK => ?_) ?_
      · have B3 : ev aq (.tmp 3) = .slice A3 (limbs aN0).length c3 := hk.base 3 (by kernel_rfl) rfl
        exact vc hK (by go_simp) (fun w2 h2 => rfl)
      refine po rfl (fun lq aq wq hk hr K hK => ?_) ?_
      · have E6 : ev aq (.tmp 13) = .bool false := hk.dc hr 6 (by kernel_rfl) fun _ _ h => h
        have E7 : ev aq (.tmp 14) = .slice A3 (limbs aN0).length c3 := hk.dc hr 7 (by kernel_rfl) fun _ _ h => h
        exact vc hK (by go_simp) (fun w2 h2 => (zv_lit' (n := false) (Q3.out.below hk.ext) hsz hab.out (by rw [eN0.out, hneg.out]; exact hd.out)).grow h2)
      exact AllOps.nil
    intro V x2 hG hV hap
    have r1 : (V 1) = .bool false := hV 1 (by decide)
    have r8 : ZV x2 (V 8) x := hV 8 (by decide)
    clear hV hap
    simp only [List.take_succ_cons, List.take_zero, List.drop_succ_cons, List.drop_zero, putAll, Act.put, List.setIfInBounds_toArray, List.set_cons_zero, List.set_cons_succ]
    have hb := (show Below _ _ _ from hG)
    obtain ⟨nR, AR, kR, cR, y9, eR, ey, hQ, HQ, c0, c1⟩ := ret2 r8 (DR.out.below hb) (HB.out.trans (Below.mono hb HB.out.size)) (by omega)
    simp only [eR]
    refine wpList_of_skip rfl (op_store 2 15 _ rfl rfl (DR.out.below hb)) ?_
    rw [ey]
    clear eR ey hb hG HB DR
    go_wp2_with fail
    refine bodyPost_ret (v := .agg #[.bool nR, .slice AR kR cR]) (by simp [results, Tryz.results77, go_sem, c0, c1]) rfl ⟨_, rfl, hQ, HQ⟩
  · skip
    subst hn
    have hd : false = (true && decide (0 < aN0)) := by
      rcases Nat.eq_zero_or_pos aN0 with h0 | h0
      · rw [h0]; rfl
      · rw [limbs_pos (by omega)] at ha; simp at ha
    replace hd := Lib.hid hd
    have hlen := ha
    have q3 := Q3.out
    rw [hlen] at q3 ⊢
    clear Q3
    have Q3 := Lib.hid q3
    clear q3
    go_upto_region 2 with fail
    refine wp_region_calm 9 [] ([fun vq _ => vq = .pointer (some ⟨w.heap.size, 0, none⟩),
        fun vq _ => vq = .bool true,
        fun vq _ => vq = .bool true,
        fun vq _ => vq = .slice A3 0 c3,
        fun vq _ => vq = .int .i64 0,
        fun vq _ => vq = .bool false,
        fun vq _ => vq = .bool false,
        fun vq _ => vq = .slice A3 0 c3,
        fun vq wq => ZV wq vq x]) (by kernel_rfl) (by decide) ?_ ?_ ?_
    · intro j hj; cases hj
    · refine po rfl (fun lq aq wq hk hr K hK => ?_) ?_
      · have B1 : ev aq (.tmp 1) = .pointer (some ⟨w.heap.size, 0, none⟩) := hk.base 1 (by kernel_rfl) rfl
        exact vc hK (by go_simp) (fun w2 h2 => rfl)
      refine po rfl (fun lq aq wq hk hr K hK => ?_) ?_
      · have E0 : ev aq (.tmp 7) = .pointer (some ⟨w.heap.size, 0, none⟩) := hk.dc hr 0 (by kernel_rfl) fun _ _ h => h
        have hb : Below _ _ _ := hk.ext
        have c0 := (D0.out.below hb).c0
        exact vc hK (by go_simp) (fun w2 h2 => rfl)
      refine po rfl (fun lq aq wq hk hr K hK => ?_) ?_
      · have E1 : ev aq (.tmp 8) = .bool true := hk.dc hr 1 (by kernel_rfl) fun _ _ h => h
        exact vc hK (by go_simp) (fun w2 h2 => rfl)
      refine pl 2 9 true rfl (by kernel_rfl) (fun _ _ h => h) (fun lq aq wq hk hr K hK => ?_) ?_
      · have B3 : ev aq (.tmp 3) = .slice A3 0 c3 := hk.base 3 (by kernel_rfl) rfl
        exact vc hK (by go_simp) (fun w2 h2 => rfl)
      refine pl 2 9 true rfl (by kernel_rfl) (fun _ _ h => h) (fun lq aq wq hk hr K hK => ?_) ?_
      · have E3 : ev aq (.tmp 10) = .slice A3 0 c3 := hk.dc hr 3 (by kernel_rfl) fun _ _ h => h
        exact vc hK (by go_simp) (fun w2 h2 => rfl)
      refine pl 2 9 true rfl (by kernel_rfl) (fun _ _ h => h) (fun lq aq wq hk hr K hK => ?_) ?_
      · have E4 : ev aq (.tmp 11) = .int .i64 0 := hk.dc hr 4 (by kernel_rfl) fun _ _ h => h
        exact vc hK (by go_simp) (fun w2 h2 => rfl)
      refine po rfl (fun lq aq wq hk hr K hK => ?_) ?_
      · have E2 : ev aq (.tmp 9) = .bool true := hk.dc hr 2 (by kernel_rfl) fun _ _ h => h
        have E5 : ev aq (.tmp 12) = .bool false := hk.dc hr 5 (by kernel_rfl) fun _ _ h => h
        exact vc hK (by go_simp) (fun w2 h2 => rfl)
      refine po rfl (fun lq aq wq hk hr K hK => ?_) ?_
      · have B3 : ev aq (.tmp 3) = .slice A3 0 c3 := hk.base 3 (by kernel_rfl) rfl
        exact vc hK (by go_simp) (fun w2 h2 => rfl)
      refine po rfl (fun lq aq wq hk hr K hK => ?_) ?_
      · have E6 : ev aq (.tmp 13) = .bool false := hk.dc hr 6 (by kernel_rfl) fun _ _ h => h
        have E7 : ev aq (.tmp 14) = .slice A3 0 c3 := hk.dc hr 7 (by kernel_rfl) fun _ _ h => h
        exact vc hK (by go_simp) (fun w2 h2 => (zv_lit' (n := false) (Q3.out.below hk.ext) hsz hab.out (by rw [eN0.out, hneg.out]; exact hd.out)).grow h2)
      exact AllOps.nil
    intro V x2 hG hV hap
    have r1 : (V 1) = .bool true := hV 1 (by decide)
    have r8 : ZV x2 (V 8) x := hV 8 (by decide)
    clear hV hap
    simp only [List.take_succ_cons, List.take_zero, List.drop_succ_cons, List.drop_zero, putAll, Act.put, List.setIfInBounds_toArray, List.set_cons_zero, List.set_cons_succ]
    have hb := (show Below _ _ _ from hG)
    obtain ⟨nR, AR, kR, cR, y9, eR, ey, hQ, HQ, c0, c1⟩ := ret2 r8 (DR.out.below hb) (HB.out.trans (Below.mono hb HB.out.size)) (by omega)
    simp only [eR]
    refine wpList_of_skip rfl (op_store 2 15 _ rfl rfl (DR.out.below hb)) ?_
    rw [ey]
    clear eR ey hb hG HB DR
    go_wp2_with fail
    refine bodyPost_ret (v := .agg #[.bool nR, .slice AR kR cR]) (by simp [results, Tryz.results77, go_sem, c0, c1]) rfl ⟨_, rfl, hQ, HQ⟩
  · skip
    subst hn
    have hd : true = (true && decide (0 < aN0)) := by
      obtain ⟨k, hk, _⟩ := ha
      rcases Nat.eq_zero_or_pos aN0 with h0 | h0
      · rw [h0, limbs_zero] at hk; simp at hk
      · rw [decide_eq_true h0]; rfl
    replace hd := Lib.hid hd
    obtain ⟨k, hlen, hk9⟩ := ha
    have q3 := Q3.out
    rw [hlen] at q3 ⊢
    clear Q3
    have Q3 := Lib.hid q3
    clear q3
    go_upto_region 2 with fail
    refine wp_region_calm 9 [] ([fun vq _ => vq = .pointer (some ⟨w.heap.size, 0, none⟩),
        fun vq _ => vq = .bool true,
        fun vq _ => vq = .bool true,
        fun vq _ => vq = .slice A3 (k + 1) c3,
        fun vq _ => vq = .int .i64 ((k + 1) : Nat),
        fun vq _ => vq = .bool true,
        fun vq _ => vq = .bool true,
        fun vq _ => vq = .slice A3 (k + 1) c3,
        fun vq wq => ZV wq vq x]) (by kernel_rfl) (by decide) ?_ ?_ ?_
    · intro j hj; cases hj
    · refine po rfl (fun lq aq wq hk hr K hK => ?_) ?_
      · have B1 : ev aq (.tmp 1) = .pointer (some ⟨w.heap.size, 0, none⟩) := hk.base 1 (by kernel_rfl) rfl
        exact vc hK (by go_simp) (fun w2 h2 => rfl)
      refine po rfl (fun lq aq wq hk hr K hK => ?_) ?_
      · have E0 : ev aq (.tmp 7) = .pointer (some ⟨w.heap.size, 0, none⟩) := hk.dc hr 0 (by kernel_rfl) fun _ _ h => h
        have hb : Below _ _ _ := hk.ext
        have c0 := (D0.out.below hb).c0
        exact vc hK (by go_simp) (fun w2 h2 => rfl)
      refine po rfl (fun lq aq wq hk hr K hK => ?_) ?_
      · have E1 : ev aq (.tmp 8) = .bool true := hk.dc hr 1 (by kernel_rfl) fun _ _ h => h
        exact vc hK (by go_simp) (fun w2 h2 => rfl)
      refine pl 2 9 true rfl (by kernel_rfl) (fun _ _ h => h) (fun lq aq wq hk hr K hK => ?_) ?_
      · have B3 : ev aq (.tmp 3) = .slice A3 (k + 1) c3 := hk.base 3 (by kernel_rfl) rfl
        exact vc hK (by go_simp) (fun w2 h2 => rfl)
      refine pl 2 9 true rfl (by kernel_rfl) (fun _ _ h => h) (fun lq aq wq hk hr K hK => ?_) ?_
      · have E3 : ev aq (.tmp 10) = .slice A3 (k + 1) c3 := hk.dc hr 3 (by kernel_rfl) fun _ _ h => h
        exact vc hK (by go_simp) (fun w2 h2 => rfl)
      refine pl 2 9 true rfl (by kernel_rfl) (fun _ _ h => h) (fun lq aq wq hk hr K hK => ?_) ?_
      · have E4 : ev aq (.tmp 11) = .int .i64 ((k + 1) : Nat) := hk.dc hr 4 (by kernel_rfl) fun _ _ h => h
        exact vc hK (by go_simp) (fun w2 h2 => rfl)
      refine po rfl (fun lq aq wq hk hr K hK => ?_) ?_
      · have E2 : ev aq (.tmp 9) = .bool true := hk.dc hr 2 (by kernel_rfl) fun _ _ h => h
        have E5 : ev aq (.tmp 12) = .bool true := hk.dc hr 5 (by kernel_rfl) fun _ _ h => h
        exact vc hK (by go_simp) (fun w2 h2 => rfl)
      refine po rfl (fun lq aq wq hk hr K hK => ?_) ?_
      · have B3 : ev aq (.tmp 3) = .slice A3 (k + 1) c3 := hk.base 3 (by kernel_rfl) rfl
        exact vc hK (by go_simp) (fun w2 h2 => rfl)
      refine po rfl (fun lq aq wq hk hr K hK => ?_) ?_
      · have E6 : ev aq (.tmp 13) = .bool true := hk.dc hr 6 (by kernel_rfl) fun _ _ h => h
        have E7 : ev aq (.tmp 14) = .slice A3 (k + 1) c3 := hk.dc hr 7 (by kernel_rfl) fun _ _ h => h
        exact vc hK (by go_simp) (fun w2 h2 => (zv_lit' (n := true) (Q3.out.below hk.ext) hsz hab.out (by rw [eN0.out, hneg.out]; exact hd.out)).grow h2)
      exact AllOps.nil
    intro V x2 hG hV hap
    have r1 : (V 1) = .bool true := hV 1 (by decide)
    have r8 : ZV x2 (V 8) x := hV 8 (by decide)
    clear hV hap
    simp only [List.take_succ_cons, List.take_zero, List.drop_succ_cons, List.drop_zero, putAll, Act.put, List.setIfInBounds_toArray, List.set_cons_zero, List.set_cons_succ]
    have hb := (show Below _ _ _ from hG)
    obtain ⟨nR, AR, kR, cR, y9, eR, ey, hQ, HQ, c0, c1⟩ := ret2 r8 (DR.out.below hb) (HB.out.trans (Below.mono hb HB.out.size)) (by omega)
    simp only [eR]
    refine wpList_of_skip rfl (op_store 2 15 _ rfl rfl (DR.out.below hb)) ?_
    rw [ey]
    clear eR ey hb hG HB DR
    go_wp2_with fail
    refine bodyPost_ret (v := .agg #[.bool nR, .slice AR kR cR]) (by simp [results, Tryz.results77, go_sem, c0, c1]) rfl ⟨_, rfl, hQ, HQ⟩
end Go.Proofs.YtbippecchpaleaaGreatDoor
/- litmusref03.plus: what it returns. -/
namespace Go.Proofs.YtbippecchpaleaaGreatDoor
open Go.RowKit Go.Num Go.Kp
attribute [local go_sem] Oper.semAt_some u64_mask ev_const ev_func ev_global
theorem rgcdn_v (w : World) {u v : Value} {l l' : List Nat} {a b : Nat} (h : LV w u l a) (g : LV w v l' b) (hs : sz b ≤ 1000) (hb : 0 < b) : Calls Tryz.prog 91 #[u, v] w fun e w' => ∃ r, e = .returned r ∧ LV w' r (limbs (a.gcd b)) (a.gcd b) ∧ Grows w w' := by
  obtain ⟨A, c, rfl, s⟩ := h
  obtain ⟨A', c', rfl, s'⟩ := g
  refine (rgcd_any w _ _ l l' a b s s').mono ?_
  rintro e w1 ⟨v1, rfl, g1, b1⟩
  exact ⟨_, rfl, lv_limbs g1 (Nat.le_trans (sz_mono (Nat.gcd_le_right _ hb)) hs), b1⟩
end Go.Proofs.YtbippecchpaleaaGreatDoor
