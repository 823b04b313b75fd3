import Derived.Test.YtbippecchpaleaaGreatDoorGRefQ3
import Derived.Test.YtbippecchpaleaaGreatDoorGRatF
/- litmusref03.Floor, Ceil, Text: what each returns. -/
namespace Go.Num
end Go.Num
namespace Go.Proofs.YtbippecchpaleaaGreatDoor
open Go.RowKit Go.Num Go.Kp
attribute [local go_sem] Oper.semAt_some u64_mask ev_const ev_func ev_global
theorem rtext01_v (w : World) {u : Value} {l : List Nat} {a : Nat} {s : ByteArray} (h : LV w u l a) (hl : l.length ≤ 1000) (hs : ByteArray.mk (dec a).toArray = s) : Calls Tryz.prog 82 #[u] w fun e w' => ∃ r, e = .returned r ∧ r = .string s ∧ Grows w w' := by
  obtain ⟨A, c, rfl, q⟩ := h
  refine (rtext_any w _ l a q (Nat.le_trans hl (by decide))).mono ?_
  rintro e w1 ⟨rfl, g⟩
  exact ⟨_, rfl, by rw [hs], g⟩
set_option maxHeartbeats 16000000 in
set_option maxRecDepth 100000 in
theorem rqtext_v (w : World) {u : Value} {q : Rat} {s : ByteArray} (h0 : QV w u q) (hs : ByteArray.mk (qtext q).toArray = s) : Calls Tryz.prog 38 #[u] w fun e w' => ∃ r, e = .returned r ∧ r = .string s ∧ Grows w w' := by
  obtain ⟨n0, A0, k0, c0, B0, j0, d0, rfl, z0, l0, a0, s0, t0, hl0, e0⟩ := h0
  have hk0 : szz z0 ≤ 1000 := s0.size
  go_enter Tryz.func38, Tryz.ntmps38
  go_upto_region 1 with fail
  obtain ⟨x0, ex0, HB, D0⟩ := st_3 w 26 (.bool n0) (.slice A0 k0 c0) (.slice B0 j0 d0)
  rw [ex0]
  clear ex0
  replace HB := Lib.hid HB
  replace D0 := Lib.hid D0
  have SN0 := Lib.hid (s0.below HB.out)
  clear s0
  have SD0 := Lib.hid (t0.below HB.out)
  clear t0
  refine wp_region_calm 2 [] ([fun vq wq => QV wq vq q,
      fun vq wq => RV wq vq q]) (by kernel_rfl) (by decide) ?_ ?_ ?_
  · intro j hj; cases hj
  · refine po rfl (fun lq aq wq hk hr K hK => ?_) ?_
    · have B1 : ev aq (.tmp 1) = .pointer (some ⟨w.heap.size, 0, none⟩) := hk.base 1 (by kernel_rfl) rfl
      have hb : Below _ _ _ := hk.ext
      exact vc hK (op_load3 1 _ B1 (D0.out.below hb)) (fun w2 h2 => QV.grow ⟨_, _, _, _, _, _, _, rfl, _, _, _, (SN0.out.below hb), (SD0.out.below hb), hl0, e0⟩ h2)
    refine po rfl (fun lq aq wq hk hr K hK => ?_) ?_
    · obtain ⟨v0, E0, r0⟩ := hk.dp hr 0 4 (by kernel_rfl)
      have r0 : QV wq v0 q := r0
      exact yc hK (by go_simp) (rmadeQ_v wq r0) (fun u w1 hu w2 h2 => (hu).grow h2)
    exact AllOps.nil
  intro V x1 hG hV hap
  have r1 : RV x1 (V 1) q := hV 1 (by decide)
  clear hV hap
  simp only [List.take_succ_cons, List.take_zero, List.drop_succ_cons, List.drop_zero, putAll, Act.put, List.setIfInBounds_toArray, List.set_cons_zero, List.set_cons_succ]
  have hb := (show Below _ _ _ from hG)
  obtain ⟨nm2, Am2, km2, cm2, Bm2, jm2, dm2, em2, sm2, tm2, hdm2⟩ := r1
  simp only [em2]
  clear em2
  clear hG
  replace D0 := D0.out.below hb
  refine wpList_of_skip rfl (op_store3 1 5 _ rfl rfl D0) ?_
  replace SN0 := Lib.hid (sm2.put3 D0 (.bool nm2) (.slice Am2 km2 cm2) (.slice Bm2 jm2 dm2))
  replace SD0 := Lib.hid (tm2.put3 D0 (.bool nm2) (.slice Am2 km2 cm2) (.slice Bm2 jm2 dm2))
  replace HB := Lib.hid (put3_below (x' := .bool nm2) (y' := .slice Am2 km2 cm2) (z' := .slice Bm2 jm2 dm2) (HB.out.trans (Below.mono hb HB.out.size)) (show w.heap.size ≤ w.heap.size by omega))
  replace D0 := Lib.hid (put3_own (x' := .bool nm2) (y' := .slice Am2 km2 cm2) (z' := .slice Bm2 jm2 dm2) D0)
  clear hb sm2 tm2
  generalize put3 x1 w.heap.size (.bool nm2) (.slice Am2 km2 cm2) (.slice Bm2 jm2 dm2) = y3 at *
  replace e0 := Lib.hid e0
  have hsd : sz q.den ≤ 1000 := hdm2
  have hsn := SN0.out.short
  have hng : nm2 = decide (q.num < 0) := SN0.out.sign
  obtain ⟨s1, hs1⟩ : ∃ s1, ByteArray.mk (dec q.num.natAbs).toArray = s1 := ⟨_, rfl⟩
  obtain ⟨s2, hs2⟩ : ∃ s2, ByteArray.mk (ztext q.num).toArray = s2 := ⟨_, rfl⟩
  obtain ⟨s3, hs3⟩ : ∃ s3, ByteArray.mk (ztext q.num ++ [47]).toArray = s3 := ⟨_, rfl⟩
  obtain ⟨s4, hs4⟩ : ∃ s4, ByteArray.mk (dec q.den).toArray = s4 := ⟨_, rfl⟩
  have hc3 : s2 ++ ByteArray.mk #[47] = s3 := by rw [← hs2, ← hs3]; exact cat_bytes' _ [47]
  have hl1 : s1.size ≤ 9223372036854775806 := by rw [← hs1]; have := dec_short hsn; show (dec q.num.natAbs).toArray.size ≤ _; simp; omega
  have hl2 : s2.size ≤ 9223372036854775806 := by rw [← hs2]; have := ztext_len hsn; show (ztext q.num).toArray.size ≤ _; simp; omega
  have hl3 : s3.size + s4.size ≤ 9223372036854775807 := by
    have e3 : s3.size ≤ 100000 := by rw [← hs3]; have := ztext_len hsn; show (ztext q.num ++ [47]).toArray.size ≤ _; simp; omega
    have e4 : s4.size ≤ 100000 := by rw [← hs4]; have := dec_short hsd; show (dec q.den).toArray.size ≤ _; simp; omega
    omega
  replace hs1 := Lib.hid hs1
  replace hs4 := Lib.hid hs4
  replace hs := Lib.hid hs
  go_upto_region 2 with fail
  refine wp_region_calm 4 [] ([fun vq _ => vq = .pointer (some ⟨w.heap.size, 0, none⟩),
      fun vq _ => vq = .pointer (some ⟨w.heap.size, 1, none⟩),
      fun vq _ => vq = .slice Am2 km2 cm2,
      fun vq _ => vq = .string s1]) (by kernel_rfl) (by decide) ?_ ?_ ?_
  · intro j hj; cases hj
  · refine po rfl (fun lq aq wq hk hr K hK => ?_) ?_
    · have B1 : ev aq (.tmp 1) = .pointer (some ⟨w.heap.size, 0, none⟩) := hk.base 1 (by kernel_rfl) rfl
      exact vc hK (by go_simp) (fun w2 h2 => rfl)
    refine po rfl (fun lq aq wq hk hr K hK => ?_) ?_
    · have E0 : ev aq (.tmp 6) = .pointer (some ⟨w.heap.size, 0, none⟩) := hk.dc hr 0 (by kernel_rfl) fun _ _ h => h
      exact vc hK (by go_simp) (fun w2 h2 => rfl)
    refine po rfl (fun lq aq wq hk hr K hK => ?_) ?_
    · have E1 : ev aq (.tmp 7) = .pointer (some ⟨w.heap.size, 1, none⟩) := hk.dc hr 1 (by kernel_rfl) fun _ _ h => h
      have hb : Below _ _ _ := hk.ext
      have c1 := (D0.out.below hb).c1
      exact vc hK (by go_simp) (fun w2 h2 => rfl)
    refine po rfl (fun lq aq wq hk hr K hK => ?_) ?_
    · have E2 : ev aq (.tmp 8) = .slice Am2 km2 cm2 := hk.dc hr 2 (by kernel_rfl) fun _ _ h => h
      exact yc hK (by go_simp) (rtext01_v wq (SN0.out.num.below hk.ext).lv SN0.out.short hs1.out) (fun u w1 hu w2 h2 => hu)
    exact AllOps.nil
  intro V x4 hG hV hap
  have r3 : (V 3) = .string s1 := hV 3 (by decide)
  clear hV hap
  simp only [List.take_succ_cons, List.take_zero, List.drop_succ_cons, List.drop_zero, putAll, Act.put, List.setIfInBounds_toArray, List.set_cons_zero, List.set_cons_succ]
  have hb := (show Below _ _ _ from hG)
  replace D0 := Lib.hid (D0.out.below hb)
  replace SN0 := Lib.hid (SN0.out.below hb)
  replace SD0 := Lib.hid (SD0.out.below hb)
  replace HB := Lib.hid (HB.out.trans (Below.mono hb HB.out.size))
  clear hb hG
  rw [r3]
  clear r3
  rcases Decidable.em (q.num < 0) with hneg | hneg
  · skip
    have hnb : nm2 = true := by rw [hng]; exact decide_eq_true hneg
    subst hnb
    clear hng
    have hc2 : ByteArray.mk #[45] ++ s1 = s2 := by rw [← hs1.out, ← hs2, ztext_neg hneg]; exact cat_bytes' [45] _
    have hl0 : 1 + s1.size ≤ 9223372036854775807 := by omega
    replace hs2 := Lib.hid hs2
    replace hs3 := Lib.hid hs3
    go_upto_region 3 with fail
    refine wp_region_calm 3 [] ([fun vq _ => vq = .pointer (some ⟨w.heap.size, 0, none⟩),
        fun vq _ => vq = .pointer (some ⟨w.heap.size, 0, none⟩),
        fun vq _ => vq = .bool true]) (by kernel_rfl) (by decide) ?_ ?_ ?_
    · intro j hj; cases hj
    · refine po rfl (fun lq aq wq hk hr K hK => ?_) ?_
      · have B1 : ev aq (.tmp 1) = .pointer (some ⟨w.heap.size, 0, none⟩) := hk.base 1 (by kernel_rfl) rfl
        exact vc hK (by go_simp) (fun w2 h2 => rfl)
      refine po rfl (fun lq aq wq hk hr K hK => ?_) ?_
      · have E0 : ev aq (.tmp 10) = .pointer (some ⟨w.heap.size, 0, none⟩) := hk.dc hr 0 (by kernel_rfl) fun _ _ h => h
        exact vc hK (by go_simp) (fun w2 h2 => rfl)
      refine po rfl (fun lq aq wq hk hr K hK => ?_) ?_
      · have E1 : ev aq (.tmp 11) = .pointer (some ⟨w.heap.size, 0, none⟩) := hk.dc hr 1 (by kernel_rfl) fun _ _ h => h
        have hb : Below _ _ _ := hk.ext
        have c0 := (D0.out.below hb).c0
        exact vc hK (by go_simp) (fun w2 h2 => rfl)
      exact AllOps.nil
    intro V x5 hG hV hap
    have r2 : (V 2) = .bool true := hV 2 (by decide)
    clear hV hap
    simp only [List.take_succ_cons, List.take_nil, List.drop_succ_cons, List.drop_nil, putAll, Act.put, List.setIfInBounds_toArray, List.set_cons_zero, List.set_cons_succ]
    have hb := (show Below _ _ _ from hG)
    replace D0 := Lib.hid (D0.out.below hb)
    replace SN0 := Lib.hid (SN0.out.below hb)
    replace SD0 := Lib.hid (SD0.out.below hb)
    replace HB := Lib.hid (HB.out.trans (Below.mono hb HB.out.size))
    clear hb hG
    rw [r2]
    clear r2
    go_upto_region 4 with fail
    refine wp_region_calm 2 [] ([fun vq _ => vq = .string s1,
        fun vq _ => vq = .string s2]) (by kernel_rfl) (by decide) ?_ ?_ ?_
    · intro j hj; cases hj
    · refine po rfl (fun lq aq wq hk hr K hK => ?_) ?_
      · have B3 : ev aq (.tmp 3) = .string s1 := hk.base 3 (by kernel_rfl) rfl
        exact vc hK (by go_simp) (fun w2 h2 => rfl)
      refine po rfl (fun lq aq wq hk hr K hK => ?_) ?_
      · have E0 : ev aq (.tmp 13) = .string s1 := hk.dc hr 0 (by kernel_rfl) fun _ _ h => h
        exact vc hK (by first | (go_simp; done) | (go_simp; exact hl0)) (fun w2 h2 => rfl)
      exact AllOps.nil
    intro V x6 hG hV hap
    have r1 : (V 1) = .string s2 := hV 1 (by decide)
    clear hV hap
    simp only [List.take_succ_cons, List.take_zero, List.drop_succ_cons, List.drop_zero, putAll, Act.put, List.setIfInBounds_toArray, List.set_cons_zero, List.set_cons_succ]
    have hb := (show Below _ _ _ from hG)
    replace D0 := Lib.hid (D0.out.below hb)
    replace SN0 := Lib.hid (SN0.out.below hb)
    replace SD0 := Lib.hid (SD0.out.below hb)
    replace HB := Lib.hid (HB.out.trans (Below.mono hb HB.out.size))
    clear hb hG
    rw [r1]
    clear r1
    rcases Decidable.em (q.den = 1) with hd1 | hd1
    · skip
      have hlt : decide (limbs q.den = [1]) = true := by rw [hd1]; refine decide_eq_true ?_; rw [limbs_pos (by decide)]; simp [limbs_zero]
      go_upto_region 5 with fail
      refine wp_region_calm 5 [] ([fun vq _ => vq = .pointer (some ⟨w.heap.size, 2, none⟩),
          fun vq _ => vq = .slice Bm2 jm2 dm2,
          fun vq wq => LV wq vq ([1]) 1,
          fun vq _ => vq = .bool true,
          fun vq _ => vq = .bool false]) (by kernel_rfl) (by decide) ?_ ?_ ?_
      · intro j hj; cases hj
      · refine po rfl (fun lq aq wq hk hr K hK => ?_) ?_
        · have B1 : ev aq (.tmp 1) = .pointer (some ⟨w.heap.size, 0, none⟩) := hk.base 1 (by kernel_rfl) rfl
          exact vc hK (by go_simp) (fun w2 h2 => rfl)
        refine po rfl (fun lq aq wq hk hr K hK => ?_) ?_
        · have E0 : ev aq (.tmp 15) = .pointer (some ⟨w.heap.size, 2, none⟩) := hk.dc hr 0 (by kernel_rfl) fun _ _ h => h
          have hb : Below _ _ _ := hk.ext
          have c2 := (D0.out.below hb).c2
          exact vc hK (by go_simp) (fun w2 h2 => rfl)
        refine po rfl (fun lq aq wq hk hr K hK => ?_) ?_
        · exact wp_of_value (by go_simp) (hK.out _ _ ((Grows.refl _).alloc _) (fun w2 h2 => (lit_lv wq 43 (cs := #[.int .u32 1]) (n := 1) [1] 1 rfl rfl (by decide) (by decide)).grow h2) (fun h => absurd h (by decide)))
        refine po rfl (fun lq aq wq hk hr K hK => ?_) ?_
        · have E1 : ev aq (.tmp 16) = .slice Bm2 jm2 dm2 := hk.dc hr 1 (by kernel_rfl) fun _ _ h => h
          obtain ⟨v2, E2, r2⟩ := hk.dp hr 2 17 (by kernel_rfl)
          have r2 : LV wq v2 ([1]) 1 := r2
          exact yc hK (by go_simp) (rsamel_v wq (SD0.out.below hk.ext).lv r2 hdm2 hlt) (fun u w1 hu w2 h2 => hu)
        refine po rfl (fun lq aq wq hk hr K hK => ?_) ?_
        · have E3 : ev aq (.tmp 18) = .bool true := hk.dc hr 3 (by kernel_rfl) fun _ _ h => h
          exact vc hK (by go_simp) (fun w2 h2 => rfl)
        exact AllOps.nil
      intro V x7 hG hV hap
      have r4 : (V 4) = .bool false := hV 4 (by decide)
      clear hV hap
      simp only [List.take_succ_cons, List.take_nil, List.drop_succ_cons, List.drop_nil, putAll, Act.put, List.setIfInBounds_toArray, List.set_cons_zero, List.set_cons_succ]
      have hb := (show Below _ _ _ from hG)
      replace D0 := Lib.hid (D0.out.below hb)
      replace SN0 := Lib.hid (SN0.out.below hb)
      replace SD0 := Lib.hid (SD0.out.below hb)
      replace HB := Lib.hid (HB.out.trans (Below.mono hb HB.out.size))
      clear hb hG
      rw [r4]
      clear r4
      have hfs : s2 = s := by rw [← hs2.out, ← hs.out, qtext_one hd1]
      replace hfs := Lib.hid hfs
      go_wp2_with fail
      go_ret
      exact ⟨_, rfl, congrArg Value.string hfs.out, HB.out⟩
    · skip
      have hlt : decide (limbs q.den = [1]) = false := by
        refine decide_eq_false fun e => hd1 ?_
        have h := congrArg val e
        rw [val_limbs] at h
        rw [h]; rfl
      go_upto_region 5 with fail
      refine wp_region_calm 5 [] ([fun vq _ => vq = .pointer (some ⟨w.heap.size, 2, none⟩),
          fun vq _ => vq = .slice Bm2 jm2 dm2,
          fun vq wq => LV wq vq ([1]) 1,
          fun vq _ => vq = .bool false,
          fun vq _ => vq = .bool true]) (by kernel_rfl) (by decide) ?_ ?_ ?_
      · intro j hj; cases hj
      · refine po rfl (fun lq aq wq hk hr K hK => ?_) ?_
        · have B1 : ev aq (.tmp 1) = .pointer (some ⟨w.heap.size, 0, none⟩) := hk.base 1 (by kernel_rfl) rfl
          exact vc hK (by go_simp) (fun w2 h2 => rfl)
        refine po rfl (fun lq aq wq hk hr K hK => ?_) ?_
        · have E0 : ev aq (.tmp 15) = .pointer (some ⟨w.heap.size, 2, none⟩) := hk.dc hr 0 (by kernel_rfl) fun _ _ h => h
          have hb : Below _ _ _ := hk.ext
          have c2 := (D0.out.below hb).c2
          exact vc hK (by go_simp) (fun w2 h2 => rfl)
        refine po rfl (fun lq aq wq hk hr K hK => ?_) ?_
        · exact wp_of_value (by go_simp) (hK.out _ _ ((Grows.refl _).alloc _) (fun w2 h2 => (lit_lv wq 43 (cs := #[.int .u32 1]) (n := 1) [1] 1 rfl rfl (by decide) (by decide)).grow h2) (fun h => absurd h (by decide)))
        refine po rfl (fun lq aq wq hk hr K hK => ?_) ?_
        · have E1 : ev aq (.tmp 16) = .slice Bm2 jm2 dm2 := hk.dc hr 1 (by kernel_rfl) fun _ _ h => h
          obtain ⟨v2, E2, r2⟩ := hk.dp hr 2 17 (by kernel_rfl)
          have r2 : LV wq v2 ([1]) 1 := r2
          exact yc hK (by go_simp) (rsamel_v wq (SD0.out.below hk.ext).lv r2 hdm2 hlt) (fun u w1 hu w2 h2 => hu)
        refine po rfl (fun lq aq wq hk hr K hK => ?_) ?_
        · have E3 : ev aq (.tmp 18) = .bool false := hk.dc hr 3 (by kernel_rfl) fun _ _ h => h
          exact vc hK (by go_simp) (fun w2 h2 => rfl)
        exact AllOps.nil
      intro V x7 hG hV hap
      have r4 : (V 4) = .bool true := hV 4 (by decide)
      clear hV hap
      simp only [List.take_succ_cons, List.take_nil, List.drop_succ_cons, List.drop_nil, putAll, Act.put, List.setIfInBounds_toArray, List.set_cons_zero, List.set_cons_succ]
      have hb := (show Below _ _ _ from hG)
      replace D0 := Lib.hid (D0.out.below hb)
      replace SN0 := Lib.hid (SN0.out.below hb)
      replace SD0 := Lib.hid (SD0.out.below hb)
      replace HB := Lib.hid (HB.out.trans (Below.mono hb HB.out.size))
      clear hb hG
      rw [r4]
      clear r4
      have hc4 : s3 ++ s4 = s := by rw [← hs3.out, ← hs4.out, cat_bytes', ← hs.out, qtext_far hd1, List.append_assoc]; rfl
      go_upto_region 6 with fail
      refine wp_region_calm 6 [] ([fun vq _ => vq = .string s2,
          fun vq _ => vq = .string s3,
          fun vq _ => vq = .pointer (some ⟨w.heap.size, 2, none⟩),
          fun vq _ => vq = .slice Bm2 jm2 dm2,
          fun vq _ => vq = .string s4,
          fun vq _ => vq = .string s]) (by kernel_rfl) (by decide) ?_ ?_ ?_
      · intro j hj; cases hj
      · refine po rfl (fun lq aq wq hk hr K hK => ?_) ?_
        · have B3 : ev aq (.tmp 3) = .string s2 := hk.base 3 (by kernel_rfl) rfl
          exact vc hK (by go_simp) (fun w2 h2 => rfl)
        refine po rfl (fun lq aq wq hk hr K hK => ?_) ?_
        · have E0 : ev aq (.tmp 20) = .string s2 := hk.dc hr 0 (by kernel_rfl) fun _ _ h => h
          exact vc hK (by go_simp) (fun w2 h2 => rfl)
        refine po rfl (fun lq aq wq hk hr K hK => ?_) ?_
        · have B1 : ev aq (.tmp 1) = .pointer (some ⟨w.heap.size, 0, none⟩) := hk.base 1 (by kernel_rfl) rfl
          exact vc hK (by go_simp) (fun w2 h2 => rfl)
        refine po rfl (fun lq aq wq hk hr K hK => ?_) ?_
        · have E2 : ev aq (.tmp 22) = .pointer (some ⟨w.heap.size, 2, none⟩) := hk.dc hr 2 (by kernel_rfl) fun _ _ h => h
          have hb : Below _ _ _ := hk.ext
          have c2 := (D0.out.below hb).c2
          exact vc hK (by go_simp) (fun w2 h2 => rfl)
        refine po rfl (fun lq aq wq hk hr K hK => ?_) ?_
        · have E3 : ev aq (.tmp 23) = .slice Bm2 jm2 dm2 := hk.dc hr 3 (by kernel_rfl) fun _ _ h => h
          exact yc hK (by go_simp) (rtext01_v wq (SD0.out.below hk.ext).lv hdm2 hs4.out) (fun u w1 hu w2 h2 => hu)
        refine po rfl (fun lq aq wq hk hr K hK => ?_) ?_
        · have E1 : ev aq (.tmp 21) = .string s3 := hk.dc hr 1 (by kernel_rfl) fun _ _ h => h
          have E4 : ev aq (.tmp 24) = .string s4 := hk.dc hr 4 (by kernel_rfl) fun _ _ h => h
          exact vc hK (by go_simp) (fun w2 h2 => rfl)
        exact AllOps.nil
      intro V x8 hG hV hap
      have r5 : (V 5) = .string s := hV 5 (by decide)
      clear hV hap
      simp only [List.take_succ_cons, List.take_zero, List.drop_succ_cons, List.drop_zero, putAll, Act.put, List.setIfInBounds_toArray, List.set_cons_zero, List.set_cons_succ]
      have hb := (show Below _ _ _ from hG)
      replace D0 := Lib.hid (D0.out.below hb)
      replace SN0 := Lib.hid (SN0.out.below hb)
      replace SD0 := Lib.hid (SD0.out.below hb)
      replace HB := Lib.hid (HB.out.trans (Below.mono hb HB.out.size))
      clear hb hG
      rw [r5]
      clear r5
      go_wp2_with fail
      go_ret
      exact ⟨_, rfl, rfl, HB.out⟩
  · skip
    have hnb : nm2 = false := by rw [hng]; exact decide_eq_false hneg
    subst hnb
    clear hng
    have hc2 : s1 = s2 := by rw [← hs1.out, ← hs2, ztext_pos hneg]
    replace hs2 := Lib.hid hs2
    replace hs3 := Lib.hid hs3
    go_upto_region 3 with fail
    refine wp_region_calm 3 [] ([fun vq _ => vq = .pointer (some ⟨w.heap.size, 0, none⟩),
        fun vq _ => vq = .pointer (some ⟨w.heap.size, 0, none⟩),
        fun vq _ => vq = .bool false]) (by kernel_rfl) (by decide) ?_ ?_ ?_
    · intro j hj; cases hj
    · refine po rfl (fun lq aq wq hk hr K hK => ?_) ?_
      · have B1 : ev aq (.tmp 1) = .pointer (some ⟨w.heap.size, 0, none⟩) := hk.base 1 (by kernel_rfl) rfl
        exact vc hK (by go_simp) (fun w2 h2 => rfl)
      refine po rfl (fun lq aq wq hk hr K hK => ?_) ?_
      · have E0 : ev aq (.tmp 10) = .pointer (some ⟨w.heap.size, 0, none⟩) := hk.dc hr 0 (by kernel_rfl) fun _ _ h => h
        exact vc hK (by go_simp) (fun w2 h2 => rfl)
      refine po rfl (fun lq aq wq hk hr K hK => ?_) ?_
      · have E1 : ev aq (.tmp 11) = .pointer (some ⟨w.heap.size, 0, none⟩) := hk.dc hr 1 (by kernel_rfl) fun _ _ h => h
        have hb : Below _ _ _ := hk.ext
        have c0 := (D0.out.below hb).c0
        exact vc hK (by go_simp) (fun w2 h2 => rfl)
      exact AllOps.nil
    intro V x5 hG hV hap
    have r2 : (V 2) = .bool false := hV 2 (by decide)
    clear hV hap
    simp only [List.take_succ_cons, List.take_nil, List.drop_succ_cons, List.drop_nil, putAll, Act.put, List.setIfInBounds_toArray, List.set_cons_zero, List.set_cons_succ]
    have hb := (show Below _ _ _ from hG)
    replace D0 := Lib.hid (D0.out.below hb)
    replace SN0 := Lib.hid (SN0.out.below hb)
    replace SD0 := Lib.hid (SD0.out.below hb)
    replace HB := Lib.hid (HB.out.trans (Below.mono hb HB.out.size))
    clear hb hG
    rw [r2]
    clear r2
    subst hc2
    rcases Decidable.em (q.den = 1) with hd1 | hd1
    · skip
      have hlt : decide (limbs q.den = [1]) = true := by rw [hd1]; refine decide_eq_true ?_; rw [limbs_pos (by decide)]; simp [limbs_zero]
      go_upto_region 5 with fail
      refine wp_region_calm 5 [] ([fun vq _ => vq = .pointer (some ⟨w.heap.size, 2, none⟩),
          fun vq _ => vq = .slice Bm2 jm2 dm2,
          fun vq wq => LV wq vq ([1]) 1,
          fun vq _ => vq = .bool true,
          fun vq _ => vq = .bool false]) (by kernel_rfl) (by decide) ?_ ?_ ?_
      · intro j hj; cases hj
      · refine po rfl (fun lq aq wq hk hr K hK => ?_) ?_
        · have B1 : ev aq (.tmp 1) = .pointer (some ⟨w.heap.size, 0, none⟩) := hk.base 1 (by kernel_rfl) rfl
          exact vc hK (by go_simp) (fun w2 h2 => rfl)
        refine po rfl (fun lq aq wq hk hr K hK => ?_) ?_
        · have E0 : ev aq (.tmp 15) = .pointer (some ⟨w.heap.size, 2, none⟩) := hk.dc hr 0 (by kernel_rfl) fun _ _ h => h
          have hb : Below _ _ _ := hk.ext
          have c2 := (D0.out.below hb).c2
          exact vc hK (by go_simp) (fun w2 h2 => rfl)
        refine po rfl (fun lq aq wq hk hr K hK => ?_) ?_
        · exact wp_of_value (by go_simp) (hK.out _ _ ((Grows.refl _).alloc _) (fun w2 h2 => (lit_lv wq 43 (cs := #[.int .u32 1]) (n := 1) [1] 1 rfl rfl (by decide) (by decide)).grow h2) (fun h => absurd h (by decide)))
        refine po rfl (fun lq aq wq hk hr K hK => ?_) ?_
        · have E1 : ev aq (.tmp 16) = .slice Bm2 jm2 dm2 := hk.dc hr 1 (by kernel_rfl) fun _ _ h => h
          obtain ⟨v2, E2, r2⟩ := hk.dp hr 2 17 (by kernel_rfl)
          have r2 : LV wq v2 ([1]) 1 := r2
          exact yc hK (by go_simp) (rsamel_v wq (SD0.out.below hk.ext).lv r2 hdm2 hlt) (fun u w1 hu w2 h2 => hu)
        refine po rfl (fun lq aq wq hk hr K hK => ?_) ?_
        · have E3 : ev aq (.tmp 18) = .bool true := hk.dc hr 3 (by kernel_rfl) fun _ _ h => h
          exact vc hK (by go_simp) (fun w2 h2 => rfl)
        exact AllOps.nil
      intro V x6 hG hV hap
      have r4 : (V 4) = .bool false := hV 4 (by decide)
      clear hV hap
      simp only [List.take_succ_cons, List.take_nil, List.drop_succ_cons, List.drop_nil, putAll, Act.put, List.setIfInBounds_toArray, List.set_cons_zero, List.set_cons_succ]
      have hb := (show Below _ _ _ from hG)
      replace D0 := Lib.hid (D0.out.below hb)
      replace SN0 := Lib.hid (SN0.out.below hb)
      replace SD0 := Lib.hid (SD0.out.below hb)
      replace HB := Lib.hid (HB.out.trans (Below.mono hb HB.out.size))
      clear hb hG
      rw [r4]
      clear r4
      have hfs : s1 = s := by rw [← hs2.out, ← hs.out, qtext_one hd1]
      replace hfs := Lib.hid hfs
      go_wp2_with fail
      go_ret
      exact ⟨_, rfl, congrArg Value.string hfs.out, HB.out⟩
    · skip
      have hlt : decide (limbs q.den = [1]) = false := by
        refine decide_eq_false fun e => hd1 ?_
        have h := congrArg val e
        rw [val_limbs] at h
        rw [h]; rfl
      go_upto_region 5 with fail
      refine wp_region_calm 5 [] ([fun vq _ => vq = .pointer (some ⟨w.heap.size, 2, none⟩),
          fun vq _ => vq = .slice Bm2 jm2 dm2,
          fun vq wq => LV wq vq ([1]) 1,
          fun vq _ => vq = .bool false,
          fun vq _ => vq = .bool true]) (by kernel_rfl) (by decide) ?_ ?_ ?_
      · intro j hj; cases hj
      · refine po rfl (fun lq aq wq hk hr K hK => ?_) ?_
        · have B1 : ev aq (.tmp 1) = .pointer (some ⟨w.heap.size, 0, none⟩) := hk.base 1 (by kernel_rfl) rfl
          exact vc hK (by go_simp) (fun w2 h2 => rfl)
        refine po rfl (fun lq aq wq hk hr K hK => ?_) ?_
        · have E0 : ev aq (.tmp 15) = .pointer (some ⟨w.heap.size, 2, none⟩) := hk.dc hr 0 (by kernel_rfl) fun _ _ h => h
          have hb : Below _ _ _ := hk.ext
          have c2 := (D0.out.below hb).c2
          exact vc hK (by go_simp) (fun w2 h2 => rfl)
        refine po rfl (fun lq aq wq hk hr K hK => ?_) ?_
        · exact wp_of_value (by go_simp) (hK.out _ _ ((Grows.refl _).alloc _) (fun w2 h2 => (lit_lv wq 43 (cs := #[.int .u32 1]) (n := 1) [1] 1 rfl rfl (by decide) (by decide)).grow h2) (fun h => absurd h (by decide)))
        refine po rfl (fun lq aq wq hk hr K hK => ?_) ?_
        · have E1 : ev aq (.tmp 16) = .slice Bm2 jm2 dm2 := hk.dc hr 1 (by kernel_rfl) fun _ _ h => h
          obtain ⟨v2, E2, r2⟩ := hk.dp hr 2 17 (by kernel_rfl)
          have r2 : LV wq v2 ([1]) 1 := r2
          exact yc hK (by go_simp) (rsamel_v wq (SD0.out.below hk.ext).lv r2 hdm2 hlt) (fun u w1 hu w2 h2 => hu)
        refine po rfl (fun lq aq wq hk hr K hK => ?_) ?_
        · have E3 : ev aq (.tmp 18) = .bool false := hk.dc hr 3 (by kernel_rfl) fun _ _ h => h
          exact vc hK (by go_simp) (fun w2 h2 => rfl)
        exact AllOps.nil
      intro V x6 hG hV hap
      have r4 : (V 4) = .bool true := hV 4 (by decide)
      clear hV hap
      simp only [List.take_succ_cons, List.take_nil, List.drop_succ_cons, List.drop_nil, putAll, Act.put, List.setIfInBounds_toArray, List.set_cons_zero, List.set_cons_succ]
      have hb := (show Below _ _ _ from hG)
      replace D0 := Lib.hid (D0.out.below hb)
      replace SN0 := Lib.hid (SN0.out.below hb)
      replace SD0 := Lib.hid (SD0.out.below hb)
      replace HB := Lib.hid (HB.out.trans (Below.mono hb HB.out.size))
      clear hb hG
      rw [r4]
      clear r4
      have hc4 : s3 ++ s4 = s := by rw [← hs3.out, ← hs4.out, cat_bytes', ← hs.out, qtext_far hd1, List.append_assoc]; rfl
      go_upto_region 6 with fail
      refine wp_region_calm 6 [] ([fun vq _ => vq = .string s1,
          fun vq _ => vq = .string s3,
          fun vq _ => vq = .pointer (some ⟨w.heap.size, 2, none⟩),
          fun vq _ => vq = .slice Bm2 jm2 dm2,
          fun vq _ => vq = .string s4,
          fun vq _ => vq = .string s]) (by kernel_rfl) (by decide) ?_ ?_ ?_
      · intro j hj; cases hj
      · refine po rfl (fun lq aq wq hk hr K hK => ?_) ?_
        · have B3 : ev aq (.tmp 3) = .string s1 := hk.base 3 (by kernel_rfl) rfl
          exact vc hK (by go_simp) (fun w2 h2 => rfl)
        refine po rfl (fun lq aq wq hk hr K hK => ?_) ?_
        · have E0 : ev aq (.tmp 20) = .string s1 := hk.dc hr 0 (by kernel_rfl) fun _ _ h => h
          exact vc hK (by go_simp) (fun w2 h2 => rfl)
        refine po rfl (fun lq aq wq hk hr K hK => ?_) ?_
        · have B1 : ev aq (.tmp 1) = .pointer (some ⟨w.heap.size, 0, none⟩) := hk.base 1 (by kernel_rfl) rfl
          exact vc hK (by go_simp) (fun w2 h2 => rfl)
        refine po rfl (fun lq aq wq hk hr K hK => ?_) ?_
        · have E2 : ev aq (.tmp 22) = .pointer (some ⟨w.heap.size, 2, none⟩) := hk.dc hr 2 (by kernel_rfl) fun _ _ h => h
          have hb : Below _ _ _ := hk.ext
          have c2 := (D0.out.below hb).c2
          exact vc hK (by go_simp) (fun w2 h2 => rfl)
        refine po rfl (fun lq aq wq hk hr K hK => ?_) ?_
        · have E3 : ev aq (.tmp 23) = .slice Bm2 jm2 dm2 := hk.dc hr 3 (by kernel_rfl) fun _ _ h => h
          exact yc hK (by go_simp) (rtext01_v wq (SD0.out.below hk.ext).lv hdm2 hs4.out) (fun u w1 hu w2 h2 => hu)
        refine po rfl (fun lq aq wq hk hr K hK => ?_) ?_
        · have E1 : ev aq (.tmp 21) = .string s3 := hk.dc hr 1 (by kernel_rfl) fun _ _ h => h
          have E4 : ev aq (.tmp 24) = .string s4 := hk.dc hr 4 (by kernel_rfl) fun _ _ h => h
          exact vc hK (by go_simp) (fun w2 h2 => rfl)
        exact AllOps.nil
      intro V x7 hG hV hap
      have r5 : (V 5) = .string s := hV 5 (by decide)
      clear hV hap
      simp only [List.take_succ_cons, List.take_zero, List.drop_succ_cons, List.drop_zero, putAll, Act.put, List.setIfInBounds_toArray, List.set_cons_zero, List.set_cons_succ]
      have hb := (show Below _ _ _ from hG)
      replace D0 := Lib.hid (D0.out.below hb)
      replace SN0 := Lib.hid (SN0.out.below hb)
      replace SD0 := Lib.hid (SD0.out.below hb)
      replace HB := Lib.hid (HB.out.trans (Below.mono hb HB.out.size))
      clear hb hG
      rw [r5]
      clear r5
      go_wp2_with fail
      go_ret
      exact ⟨_, rfl, rfl, HB.out⟩
end Go.Proofs.YtbippecchpaleaaGreatDoor
