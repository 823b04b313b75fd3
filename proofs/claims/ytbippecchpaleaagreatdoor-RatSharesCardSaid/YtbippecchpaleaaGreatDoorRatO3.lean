import Derived.Test.YtbippecchpaleaaGreatDoorRatO1
import Derived.Test.YtbippecchpaleaaGreatDoorGRat3
/- rat.Of, Mul, Div: what each returns, in rows of its own. -/
namespace Go.Proofs.YtbippecchpaleaaGreatDoor
open Go.RowKit Go.Num Go.Kp
attribute [local go_sem] Oper.semAt_some u64_mask ev_const ev_func ev_global
set_option maxHeartbeats 4000000 in
set_option maxRecDepth 100000 in
theorem qof0_o (w : World) {bO : Nat} (hB : bO ≤ w.heap.size) {u v : Value} {z y : Int} (h0 : WV w u z) (h1 : WV w v y) (hy : y = 0) : Calls Tryz.prog 41 #[u, v] w fun e w' => ∃ r, e = .returned r ∧ (∃ x, r = .tuple #[x, .int .i64 3] ∧ RO bO w' x ((0 : Int) : Rat)) ∧ Grows w w' := by
  obtain ⟨n0, A0, k0, c0, rfl, s0⟩ := h0
  have hk0 : szz z ≤ 1000 := s0.size
  obtain ⟨n1, A1, k1, c1, rfl, s1⟩ := h1
  have hk1 : szz y ≤ 1000 := s1.size
  go_enter Tryz.func41, Tryz.ntmps41
  go_upto_region 1 with fail
  obtain ⟨x0, ex0, HB, D0, D1, DR⟩ := st_223 w 24 (.bool n0) (.slice A0 k0 c0) 24 (.bool n1) (.slice A1 k1 c1) 26 (.bool false) (.slice none 0 0) (.slice none 0 0)
  rw [ex0]
  clear ex0
  replace HB := Lib.hid HB
  replace D0 := Lib.hid D0
  replace D1 := Lib.hid D1
  replace DR := Lib.hid DR
  have SN0 := Lib.hid (s0.below HB.out)
  clear s0
  have SN1 := Lib.hid (s1.below HB.out)
  clear s1
  refine wp_region_calm 3 [] ([fun vq wq => WV wq vq y,
      fun vq _ => vq = .int .i64 0,
      fun vq _ => vq = .bool true]) (by kernel_rfl) (by decide) ?_ ?_ ?_
  · intro j hj; cases hj
  · refine po rfl (fun lq aq wq hk hr K hK => ?_) ?_
    · have B3 : ev aq (.tmp 3) = .pointer (some ⟨w.heap.size + 1, 0, none⟩) := hk.base 3 (by kernel_rfl) rfl
      have hb : Below _ _ _ := hk.ext
      exact vc hK (op_load 3 _ B3 (D1.out.below hb)) (fun w2 h2 => ⟨_, _, _, _, rfl, (SN1.out.below hb).below h2⟩)
    refine po rfl (fun lq aq wq hk hr K hK => ?_) ?_
    · obtain ⟨v0, E0, r0⟩ := hk.dp hr 0 6 (by kernel_rfl)
      have r0 : WV wq v0 y := r0
      exact yc hK (by go_simp) (sign_v wq r0 (k := 0) (by rw [hy]; rfl)) (fun u w1 hu w2 h2 => hu)
    refine po rfl (fun lq aq wq hk hr K hK => ?_) ?_
    · have E1 : ev aq (.tmp 7) = .int .i64 0 := hk.dc hr 1 (by kernel_rfl) fun _ _ h => h
      exact vc hK (by go_simp) (fun w2 h2 => rfl)
    exact AllOps.nil
  intro V x1 hG hV hap
  have r2 : (V 2) = .bool true := hV 2 (by decide)
  clear hV hap
  simp only [List.take_succ_cons, List.take_nil, List.drop_succ_cons, List.drop_nil, putAll, Act.put, List.setIfInBounds_toArray, List.set_cons_zero, List.set_cons_succ]
  have hb := (show Below _ _ _ from hG)
  replace D0 := Lib.hid (D0.out.below hb)
  replace SN0 := Lib.hid (SN0.out.below hb)
  replace D1 := Lib.hid (D1.out.below hb)
  replace SN1 := Lib.hid (SN1.out.below hb)
  replace DR := Lib.hid (DR.out.below hb)
  replace HB := Lib.hid (HB.out.trans (Below.mono hb HB.out.size))
  clear hb hG
  rw [r2]
  clear r2
  go_upto_region 2 with fail
  refine wp_region_calm 2 [] ([fun vq wq => ZV wq vq 0,
      fun vq wq => RO bO wq vq (((0 : Int) : Rat))]) (by kernel_rfl) (by decide) ?_ ?_ ?_
  · intro j hj; cases hj
  · refine po rfl (fun lq aq wq hk hr K hK => ?_) ?_
    · exact vc hK (by go_simp) (fun w2 h2 => (ZV.zero _ 0).grow h2)
    refine po rfl (fun lq aq wq hk hr K hK => ?_) ?_
    · obtain ⟨v0, E0, r0⟩ := hk.dp hr 0 9 (by kernel_rfl)
      have r0 : ZV wq v0 0 := r0
      exact yc hK (by go_simp) (int_o wq (low hB HB.out hk.ext) (r0).wv) (fun u w1 hu w2 h2 => (hu).grow h2)
    exact AllOps.nil
  intro V x2 hG hV hap
  have r1 : RO bO x2 (V 1) (((0 : Int) : Rat)) := hV 1 (by decide)
  clear hV hap
  simp only [List.take_succ_cons, List.take_zero, List.drop_succ_cons, List.drop_zero, putAll, Act.put, List.setIfInBounds_toArray, List.set_cons_zero, List.set_cons_succ]
  have hb := (show Below _ _ _ from hG)
  obtain ⟨nR, AR, kR, cR, BR, jR, dR, y9, eR, ey, hQ, HQ, c0, c1, c2⟩ := ret3o r1 (DR.out.below hb) (HB.out.trans (Below.mono hb HB.out.size)) (by omega)
  simp only [eR]
  refine wpList_of_skip rfl (op_store3 4 10 _ rfl rfl (DR.out.below hb)) ?_
  rw [ey]
  clear eR ey hb hG HB DR
  go_wp2_with fail
  refine bodyPost_ret (v := .tuple #[.agg #[.bool nR, .slice AR kR cR, .slice BR jR dR], .int .i64 3]) (by simp [results, Tryz.results41, go_sem, c0, c1, c2]) rfl ⟨_, rfl, ⟨_, rfl, hQ⟩, HQ⟩
set_option maxHeartbeats 4000000 in
set_option maxRecDepth 100000 in
theorem qofp_o (w : World) {bO : Nat} (hB : bO ≤ w.heap.size) {u v : Value} {z y : Int} (h0 : WV w u z) (h1 : WV w v y) (hy : 0 < y) : Calls Tryz.prog 41 #[u, v] w fun e w' => ∃ r, e = .returned r ∧ (∃ x, r = .tuple #[x, .int .i64 0] ∧ RO bO w' x (Rat.divInt z y)) ∧ Grows w w' := by
  obtain ⟨n0, A0, k0, c0, rfl, s0⟩ := h0
  have hk0 : szz z ≤ 1000 := s0.size
  obtain ⟨n1, A1, k1, c1, rfl, s1⟩ := h1
  have hk1 : szz y ≤ 1000 := s1.size
  go_enter Tryz.func41, Tryz.ntmps41
  go_upto_region 1 with fail
  obtain ⟨x0, ex0, HB, D0, D1, DR⟩ := st_223 w 24 (.bool n0) (.slice A0 k0 c0) 24 (.bool n1) (.slice A1 k1 c1) 26 (.bool false) (.slice none 0 0) (.slice none 0 0)
  rw [ex0]
  clear ex0
  replace HB := Lib.hid HB
  replace D0 := Lib.hid D0
  replace D1 := Lib.hid D1
  replace DR := Lib.hid DR
  have SN0 := Lib.hid (s0.below HB.out)
  clear s0
  have SN1 := Lib.hid (s1.below HB.out)
  clear s1
  refine wp_region_calm 3 [] ([fun vq wq => WV wq vq y,
      fun vq _ => vq = .int .i64 1,
      fun vq _ => vq = .bool false]) (by kernel_rfl) (by decide) ?_ ?_ ?_
  · intro j hj; cases hj
  · refine po rfl (fun lq aq wq hk hr K hK => ?_) ?_
    · have B3 : ev aq (.tmp 3) = .pointer (some ⟨w.heap.size + 1, 0, none⟩) := hk.base 3 (by kernel_rfl) rfl
      have hb : Below _ _ _ := hk.ext
      exact vc hK (op_load 3 _ B3 (D1.out.below hb)) (fun w2 h2 => ⟨_, _, _, _, rfl, (SN1.out.below hb).below h2⟩)
    refine po rfl (fun lq aq wq hk hr K hK => ?_) ?_
    · obtain ⟨v0, E0, r0⟩ := hk.dp hr 0 6 (by kernel_rfl)
      have r0 : WV wq v0 y := r0
      exact yc hK (by go_simp) (sign_v wq r0 (k := 1) (Int.sign_eq_one_of_pos hy)) (fun u w1 hu w2 h2 => hu)
    refine po rfl (fun lq aq wq hk hr K hK => ?_) ?_
    · have E1 : ev aq (.tmp 7) = .int .i64 1 := hk.dc hr 1 (by kernel_rfl) fun _ _ h => h
      exact vc hK (by go_simp) (fun w2 h2 => rfl)
    exact AllOps.nil
  intro V x1 hG hV hap
  have r2 : (V 2) = .bool false := hV 2 (by decide)
  clear hV hap
  simp only [List.take_succ_cons, List.take_nil, List.drop_succ_cons, List.drop_nil, putAll, Act.put, List.setIfInBounds_toArray, List.set_cons_zero, List.set_cons_succ]
  have hb := (show Below _ _ _ from hG)
  replace D0 := Lib.hid (D0.out.below hb)
  replace SN0 := Lib.hid (SN0.out.below hb)
  replace D1 := Lib.hid (D1.out.below hb)
  replace SN1 := Lib.hid (SN1.out.below hb)
  replace DR := Lib.hid (DR.out.below hb)
  replace HB := Lib.hid (HB.out.trans (Below.mono hb HB.out.size))
  clear hb hG
  rw [r2]
  clear r2
  go_upto_region 3 with fail
  refine wp_region_calm 3 [] ([fun vq wq => WV wq vq y,
      fun vq _ => vq = .int .i64 1,
      fun vq _ => vq = .bool false]) (by kernel_rfl) (by decide) ?_ ?_ ?_
  · intro j hj; cases hj
  · refine po rfl (fun lq aq wq hk hr K hK => ?_) ?_
    · have B3 : ev aq (.tmp 3) = .pointer (some ⟨w.heap.size + 1, 0, none⟩) := hk.base 3 (by kernel_rfl) rfl
      have hb : Below _ _ _ := hk.ext
      exact vc hK (op_load 3 _ B3 (D1.out.below hb)) (fun w2 h2 => ⟨_, _, _, _, rfl, (SN1.out.below hb).below h2⟩)
    refine po rfl (fun lq aq wq hk hr K hK => ?_) ?_
    · obtain ⟨v0, E0, r0⟩ := hk.dp hr 0 11 (by kernel_rfl)
      have r0 : WV wq v0 y := r0
      exact yc hK (by go_simp) (sign_v wq r0 (k := 1) (Int.sign_eq_one_of_pos hy)) (fun u w1 hu w2 h2 => hu)
    refine po rfl (fun lq aq wq hk hr K hK => ?_) ?_
    · have E1 : ev aq (.tmp 12) = .int .i64 1 := hk.dc hr 1 (by kernel_rfl) fun _ _ h => h
      exact vc hK (by go_simp) (fun w2 h2 => rfl)
    exact AllOps.nil
  intro V x2 hG hV hap
  have r2 : (V 2) = .bool false := hV 2 (by decide)
  clear hV hap
  simp only [List.take_succ_cons, List.take_nil, List.drop_succ_cons, List.drop_nil, putAll, Act.put, List.setIfInBounds_toArray, List.set_cons_zero, List.set_cons_succ]
  have hb := (show Below _ _ _ from hG)
  replace D0 := Lib.hid (D0.out.below hb)
  replace SN0 := Lib.hid (SN0.out.below hb)
  replace D1 := Lib.hid (D1.out.below hb)
  replace SN1 := Lib.hid (SN1.out.below hb)
  replace DR := Lib.hid (DR.out.below hb)
  replace HB := Lib.hid (HB.out.trans (Below.mono hb HB.out.size))
  clear hb hG
  rw [r2]
  clear r2
  go_upto_region 5 with fail
  obtain ⟨lN1, aN1, qN1, hlN1, eN1⟩ := SN1.out
  have QN1 := Lib.hid qN1
  clear qN1
  have hya : y.natAbs = aN1 := by rw [eN1, sg_natAbs]
  have hpos : 0 < aN1 := by rw [← hya]; exact Int.natAbs_pos.2 (by omega)
  have hsa : sz aN1 ≤ 1000 := Nat.le_trans (sz_num QN1.out) hlN1
  refine wp_region_going 5 [] ([fun vq wq => WV wq vq z,
      fun vq _ => vq = .pointer (some ⟨w.heap.size + 1, 1, none⟩),
      fun vq _ => vq = .slice A1 k1 c1,
      fun vq wq => LV wq vq ((limbs aN1)) aN1,
      fun vq wq => RO bO wq vq ((mkRat z aN1))]) (by kernel_rfl) (by kernel_rfl) (by decide) (by kernel_rfl) (by kernel_rfl) ?_ ?_ ?_
  · intro j hj; cases hj
  · refine po rfl (fun lq aq wq hk hr K hK => ?_) ?_
    · have B2 : ev aq (.tmp 2) = .pointer (some ⟨w.heap.size, 0, none⟩) := hk.base 2 (by kernel_rfl) rfl
      have hb := grows_of hk.ext
      exact vc hK (op_load 2 _ B2 (D0.out.below hb)) (fun w2 h2 => ⟨_, _, _, _, rfl, (SN0.out.below hb).below h2⟩)
    refine po rfl (fun lq aq wq hk hr K hK => ?_) ?_
    · have B3 : ev aq (.tmp 3) = .pointer (some ⟨w.heap.size + 1, 0, none⟩) := hk.base 3 (by kernel_rfl) rfl
      exact vc hK (by go_simp) (fun w2 h2 => rfl)
    refine po rfl (fun lq aq wq hk hr K hK => ?_) ?_
    · have E1 : ev aq (.tmp 17) = .pointer (some ⟨w.heap.size + 1, 1, none⟩) := hk.dc hr 1 (by kernel_rfl) fun _ _ h => h
      have hb := grows_of hk.ext
      have c1 := (D1.out.below hb).c1
      exact vc hK (by go_simp) (fun w2 h2 => rfl)
    refine po rfl (fun lq aq wq hk hr K hK => ?_) ?_
    · have E2 : ev aq (.tmp 18) = .slice A1 k1 c1 := hk.dc hr 2 (by kernel_rfl) fun _ _ h => h
      exact yc hK (by go_simp) (ntrim_v wq (QN1.out.below (grows_of hk.ext)).lv hsa) (fun u w1 hu w2 h2 => (hu).grow h2)
    refine po rfl (fun lq aq wq hk hr K hK => ?_) ?_
    · obtain ⟨v0, E0, r0⟩ := hk.dp hr 0 16 (by kernel_rfl)
      have r0 : WV wq v0 z := r0
      obtain ⟨v3, E3, r3⟩ := hk.dp hr 3 19 (by kernel_rfl)
      have r3 : LV wq v3 ((limbs aN1)) aN1 := r3
      exact yc hK (by go_simp) (reduced_o wq (low hB HB.out (grows_of hk.ext)) r0 r3 hsa hpos) (fun u w1 hu w2 h2 => (hu).grow h2)
    exact AllOps.nil
  intro V x3 hG hV hap
  have r4 : RO bO x3 (V 4) ((mkRat z aN1)) := hV 4 (by decide)
  clear hV hap
  simp only [List.take_succ_cons, List.take_zero, List.drop_succ_cons, List.drop_zero, putAll, Act.put, List.setIfInBounds_toArray, List.set_cons_zero, List.set_cons_succ]
  have hb := grows_of hG
  obtain ⟨nR, AR, kR, cR, BR, jR, dR, y9, eR, ey, hQ, HQ, c0, c1, c2⟩ := ret3o r4 (DR.out.below hb) (HB.out.trans (Below.mono hb HB.out.size)) (by omega)
  simp only [eR]
  refine wpList_of_skip rfl (op_store3 4 20 _ rfl rfl (DR.out.below hb)) ?_
  rw [ey]
  clear eR ey hb hG HB DR
  go_wp2_with fail
  refine bodyPost_ret (v := .tuple #[.agg #[.bool nR, .slice AR kR cR, .slice BR jR dR], .int .i64 0]) (by simp [results, Tryz.results41, go_sem, c0, c1, c2]) rfl ⟨_, rfl, ⟨_, rfl, (RO.to hQ (by rw [← hya]; exact divInt_pos hy))⟩, HQ⟩
set_option maxHeartbeats 4000000 in
set_option maxRecDepth 100000 in
theorem qofn_o (w : World) {bO : Nat} (hB : bO ≤ w.heap.size) {u v : Value} {z y : Int} (h0 : WV w u z) (h1 : WV w v y) (hy : y < 0) : Calls Tryz.prog 41 #[u, v] w fun e w' => ∃ r, e = .returned r ∧ (∃ x, r = .tuple #[x, .int .i64 0] ∧ RO bO w' x (Rat.divInt z y)) ∧ Grows w w' := by
  obtain ⟨n0, A0, k0, c0, rfl, s0⟩ := h0
  have hk0 : szz z ≤ 1000 := s0.size
  obtain ⟨n1, A1, k1, c1, rfl, s1⟩ := h1
  have hk1 : szz y ≤ 1000 := s1.size
  go_enter Tryz.func41, Tryz.ntmps41
  go_upto_region 1 with fail
  obtain ⟨x0, ex0, HB, D0, D1, DR⟩ := st_223 w 24 (.bool n0) (.slice A0 k0 c0) 24 (.bool n1) (.slice A1 k1 c1) 26 (.bool false) (.slice none 0 0) (.slice none 0 0)
  rw [ex0]
  clear ex0
  replace HB := Lib.hid HB
  replace D0 := Lib.hid D0
  replace D1 := Lib.hid D1
  replace DR := Lib.hid DR
  have SN0 := Lib.hid (s0.below HB.out)
  clear s0
  have SN1 := Lib.hid (s1.below HB.out)
  clear s1
  refine wp_region_calm 3 [] ([fun vq wq => WV wq vq y,
      fun vq _ => vq = .int .i64 ((-1)),
      fun vq _ => vq = .bool false]) (by kernel_rfl) (by decide) ?_ ?_ ?_
  · intro j hj; cases hj
  · refine po rfl (fun lq aq wq hk hr K hK => ?_) ?_
    · have B3 : ev aq (.tmp 3) = .pointer (some ⟨w.heap.size + 1, 0, none⟩) := hk.base 3 (by kernel_rfl) rfl
      have hb : Below _ _ _ := hk.ext
      exact vc hK (op_load 3 _ B3 (D1.out.below hb)) (fun w2 h2 => ⟨_, _, _, _, rfl, (SN1.out.below hb).below h2⟩)
    refine po rfl (fun lq aq wq hk hr K hK => ?_) ?_
    · obtain ⟨v0, E0, r0⟩ := hk.dp hr 0 6 (by kernel_rfl)
      have r0 : WV wq v0 y := r0
      exact yc hK (by go_simp) (sign_v wq r0 (k := (-1)) (Int.sign_eq_neg_one_of_neg hy)) (fun u w1 hu w2 h2 => hu)
    refine po rfl (fun lq aq wq hk hr K hK => ?_) ?_
    · have E1 : ev aq (.tmp 7) = .int .i64 ((-1)) := hk.dc hr 1 (by kernel_rfl) fun _ _ h => h
      exact vc hK (by go_simp) (fun w2 h2 => rfl)
    exact AllOps.nil
  intro V x1 hG hV hap
  have r2 : (V 2) = .bool false := hV 2 (by decide)
  clear hV hap
  simp only [List.take_succ_cons, List.take_nil, List.drop_succ_cons, List.drop_nil, putAll, Act.put, List.setIfInBounds_toArray, List.set_cons_zero, List.set_cons_succ]
  have hb := (show Below _ _ _ from hG)
  replace D0 := Lib.hid (D0.out.below hb)
  replace SN0 := Lib.hid (SN0.out.below hb)
  replace D1 := Lib.hid (D1.out.below hb)
  replace SN1 := Lib.hid (SN1.out.below hb)
  replace DR := Lib.hid (DR.out.below hb)
  replace HB := Lib.hid (HB.out.trans (Below.mono hb HB.out.size))
  clear hb hG
  rw [r2]
  clear r2
  go_upto_region 3 with fail
  refine wp_region_calm 3 [] ([fun vq wq => WV wq vq y,
      fun vq _ => vq = .int .i64 ((-1)),
      fun vq _ => vq = .bool true]) (by kernel_rfl) (by decide) ?_ ?_ ?_
  · intro j hj; cases hj
  · refine po rfl (fun lq aq wq hk hr K hK => ?_) ?_
    · have B3 : ev aq (.tmp 3) = .pointer (some ⟨w.heap.size + 1, 0, none⟩) := hk.base 3 (by kernel_rfl) rfl
      have hb : Below _ _ _ := hk.ext
      exact vc hK (op_load 3 _ B3 (D1.out.below hb)) (fun w2 h2 => ⟨_, _, _, _, rfl, (SN1.out.below hb).below h2⟩)
    refine po rfl (fun lq aq wq hk hr K hK => ?_) ?_
    · obtain ⟨v0, E0, r0⟩ := hk.dp hr 0 11 (by kernel_rfl)
      have r0 : WV wq v0 y := r0
      exact yc hK (by go_simp) (sign_v wq r0 (k := (-1)) (Int.sign_eq_neg_one_of_neg hy)) (fun u w1 hu w2 h2 => hu)
    refine po rfl (fun lq aq wq hk hr K hK => ?_) ?_
    · have E1 : ev aq (.tmp 12) = .int .i64 ((-1)) := hk.dc hr 1 (by kernel_rfl) fun _ _ h => h
      exact vc hK (by go_simp) (fun w2 h2 => rfl)
    exact AllOps.nil
  intro V x2 hG hV hap
  have r2 : (V 2) = .bool true := hV 2 (by decide)
  clear hV hap
  simp only [List.take_succ_cons, List.take_nil, List.drop_succ_cons, List.drop_nil, putAll, Act.put, List.setIfInBounds_toArray, List.set_cons_zero, List.set_cons_succ]
  have hb := (show Below _ _ _ from hG)
  replace D0 := Lib.hid (D0.out.below hb)
  replace SN0 := Lib.hid (SN0.out.below hb)
  replace D1 := Lib.hid (D1.out.below hb)
  replace SN1 := Lib.hid (SN1.out.below hb)
  replace DR := Lib.hid (DR.out.below hb)
  replace HB := Lib.hid (HB.out.trans (Below.mono hb HB.out.size))
  clear hb hG
  rw [r2]
  clear r2
  go_upto_region 4 with fail
  refine wp_region_calm 2 [] ([fun vq wq => WV wq vq z,
      fun vq wq => ZV wq vq ((-z))]) (by kernel_rfl) (by decide) ?_ ?_ ?_
  · intro j hj; cases hj
  · refine po rfl (fun lq aq wq hk hr K hK => ?_) ?_
    · have B2 : ev aq (.tmp 2) = .pointer (some ⟨w.heap.size, 0, none⟩) := hk.base 2 (by kernel_rfl) rfl
      have hb : Below _ _ _ := hk.ext
      exact vc hK (op_load 2 _ B2 (D0.out.below hb)) (fun w2 h2 => ⟨_, _, _, _, rfl, (SN0.out.below hb).below h2⟩)
    refine po rfl (fun lq aq wq hk hr K hK => ?_) ?_
    · obtain ⟨v0, E0, r0⟩ := hk.dp hr 0 14 (by kernel_rfl)
      have r0 : WV wq v0 z := r0
      exact yc hK (by go_simp) (neg_v wq r0 (Nat.le_trans (szz_neg hk0) (by decide))) (fun u w1 hu w2 h2 => (hu).grow h2)
    exact AllOps.nil
  intro V x3 hG hV hap
  have r1 : ZV x3 (V 1) ((-z)) := hV 1 (by decide)
  clear hV hap
  simp only [List.take_succ_cons, List.take_zero, List.drop_succ_cons, List.drop_zero, putAll, Act.put, List.setIfInBounds_toArray, List.set_cons_zero, List.set_cons_succ]
  have hb := (show Below _ _ _ from hG)
  obtain ⟨nm4, Am4, km4, cm4, em4, sm4⟩ := r1
  simp only [em4]
  clear em4
  clear hG
  replace D0 := D0.out.below hb
  refine wpList_of_skip rfl (op_store 2 15 _ rfl rfl D0) ?_
  replace D1 := Lib.hid (put2_far (u := .bool nm4) (v := .slice Am4 km4 cm4) (D1.out.below hb) (show w.heap.size + 1 ≠ w.heap.size by omega))
  replace SN1 := Lib.hid ((SN1.out.below hb).put D0 (.bool nm4) (.slice Am4 km4 cm4))
  replace DR := Lib.hid (Box3.put2_far (x' := .bool nm4) (y' := .slice Am4 km4 cm4) (DR.out.below hb) (show w.heap.size + 1 + 1 ≠ w.heap.size by omega))
  replace SN0 := Lib.hid (sm4.put D0 (.bool nm4) (.slice Am4 km4 cm4))
  replace HB := Lib.hid (put2_below (u := .bool nm4) (v := .slice Am4 km4 cm4) (HB.out.trans (Below.mono hb HB.out.size)) (show w.heap.size ≤ w.heap.size by omega))
  replace D0 := Lib.hid (put2_own (u := .bool nm4) (v := .slice Am4 km4 cm4) D0)
  clear hb sm4
  generalize put2 x3 w.heap.size (.bool nm4) (.slice Am4 km4 cm4) = y5 at *
  go_upto_region 5 with fail
  obtain ⟨lN1, aN1, qN1, hlN1, eN1⟩ := SN1.out
  have QN1 := Lib.hid qN1
  clear qN1
  have hya : y.natAbs = aN1 := by rw [eN1, sg_natAbs]
  have hpos : 0 < aN1 := by rw [← hya]; exact Int.natAbs_pos.2 (by omega)
  have hsa : sz aN1 ≤ 1000 := Nat.le_trans (sz_num QN1.out) hlN1
  refine wp_region_going 5 [] ([fun vq wq => ZV wq vq ((-z)),
      fun vq _ => vq = .pointer (some ⟨w.heap.size + 1, 1, none⟩),
      fun vq _ => vq = .slice A1 k1 c1,
      fun vq wq => LV wq vq ((limbs aN1)) aN1,
      fun vq wq => RO bO wq vq ((mkRat ((-z)) aN1))]) (by kernel_rfl) (by kernel_rfl) (by decide) (by kernel_rfl) (by kernel_rfl) ?_ ?_ ?_
  · intro j hj; cases hj
  · refine po rfl (fun lq aq wq hk hr K hK => ?_) ?_
    · have B2 : ev aq (.tmp 2) = .pointer (some ⟨w.heap.size, 0, none⟩) := hk.base 2 (by kernel_rfl) rfl
      have hb := grows_of hk.ext
      exact vc hK (op_load 2 _ B2 (D0.out.below hb)) (fun w2 h2 => ⟨_, _, _, _, rfl, (SN0.out.below hb).below h2⟩)
    refine po rfl (fun lq aq wq hk hr K hK => ?_) ?_
    · have B3 : ev aq (.tmp 3) = .pointer (some ⟨w.heap.size + 1, 0, none⟩) := hk.base 3 (by kernel_rfl) rfl
      exact vc hK (by go_simp) (fun w2 h2 => rfl)
    refine po rfl (fun lq aq wq hk hr K hK => ?_) ?_
    · have E1 : ev aq (.tmp 17) = .pointer (some ⟨w.heap.size + 1, 1, none⟩) := hk.dc hr 1 (by kernel_rfl) fun _ _ h => h
      have hb := grows_of hk.ext
      have c1 := (D1.out.below hb).c1
      exact vc hK (by go_simp) (fun w2 h2 => rfl)
    refine po rfl (fun lq aq wq hk hr K hK => ?_) ?_
    · have E2 : ev aq (.tmp 18) = .slice A1 k1 c1 := hk.dc hr 2 (by kernel_rfl) fun _ _ h => h
      exact yc hK (by go_simp) (ntrim_v wq (QN1.out.below (grows_of hk.ext)).lv hsa) (fun u w1 hu w2 h2 => (hu).grow h2)
    refine po rfl (fun lq aq wq hk hr K hK => ?_) ?_
    · obtain ⟨v0, E0, r0⟩ := hk.dp hr 0 16 (by kernel_rfl)
      have r0 : ZV wq v0 ((-z)) := r0
      obtain ⟨v3, E3, r3⟩ := hk.dp hr 3 19 (by kernel_rfl)
      have r3 : LV wq v3 ((limbs aN1)) aN1 := r3
      exact yc hK (by go_simp) (reduced_o wq (low hB HB.out (grows_of hk.ext)) (r0).wv r3 hsa hpos) (fun u w1 hu w2 h2 => (hu).grow h2)
    exact AllOps.nil
  intro V x6 hG hV hap
  have r4 : RO bO x6 (V 4) ((mkRat ((-z)) aN1)) := hV 4 (by decide)
  clear hV hap
  simp only [List.take_succ_cons, List.take_zero, List.drop_succ_cons, List.drop_zero, putAll, Act.put, List.setIfInBounds_toArray, List.set_cons_zero, List.set_cons_succ]
  have hb := grows_of hG
  obtain ⟨nR, AR, kR, cR, BR, jR, dR, y9, eR, ey, hQ, HQ, c0, c1, c2⟩ := ret3o r4 (DR.out.below hb) (HB.out.trans (Below.mono hb HB.out.size)) (by omega)
  simp only [eR]
  refine wpList_of_skip rfl (op_store3 4 20 _ rfl rfl (DR.out.below hb)) ?_
  rw [ey]
  clear eR ey hb hG HB DR
  go_wp2_with fail
  refine bodyPost_ret (v := .tuple #[.agg #[.bool nR, .slice AR kR cR, .slice BR jR dR], .int .i64 0]) (by simp [results, Tryz.results41, go_sem, c0, c1, c2]) rfl ⟨_, rfl, ⟨_, rfl, (RO.to hQ (by rw [← hya]; exact divInt_neg' hy))⟩, HQ⟩
set_option maxHeartbeats 16000000 in
set_option maxRecDepth 100000 in
theorem qmul_o (w : World) {bO : Nat} (hB : bO ≤ w.heap.size) {u v : Value} {q r : Rat} (h0 : QV w u q) (h1 : QV w v r) (hqs : Qsz q 300) (hrs : Qsz r 300) : Calls Tryz.prog 26 #[u, v] w fun e w' => ∃ x, e = .returned x ∧ RO bO w' x (q * r) ∧ Grows w w' := by
  obtain ⟨n0, A0, k0, c0, B0, j0, d0, rfl, z0, l0, a0, s0, t0, hl0, e0⟩ := h0
  have hk0 : szz z0 ≤ 1000 := s0.size
  obtain ⟨n1, A1, k1, c1, B1, j1, d1, rfl, z1, l1, a1, s1, t1, hl1, e1⟩ := h1
  have hk1 : szz z1 ≤ 1000 := s1.size
  go_enter Tryz.func26, Tryz.ntmps26
  go_upto_region 1 with fail
  obtain ⟨x0, ex0, HB, D0, D1, DR⟩ := st_333 w 26 (.bool n0) (.slice A0 k0 c0) (.slice B0 j0 d0) 26 (.bool n1) (.slice A1 k1 c1) (.slice B1 j1 d1) 26 (.bool false) (.slice none 0 0) (.slice none 0 0)
  rw [ex0]
  clear ex0
  replace HB := Lib.hid HB
  replace D0 := Lib.hid D0
  replace D1 := Lib.hid D1
  replace DR := Lib.hid DR
  have SN0 := Lib.hid (s0.below HB.out)
  clear s0
  have SD0 := Lib.hid (t0.below HB.out)
  clear t0
  have SN1 := Lib.hid (s1.below HB.out)
  clear s1
  have SD1 := Lib.hid (t1.below HB.out)
  clear t1
  refine wp_region_going 4 [] ([fun vq wq => QV wq vq q,
      fun vq wq => RV wq vq q,
      fun vq wq => QV wq vq r,
      fun vq wq => RV wq vq r]) (by kernel_rfl) (by kernel_rfl) (by decide) (by kernel_rfl) (by kernel_rfl) ?_ ?_ ?_
  · intro j hj; cases hj
  · refine po rfl (fun lq aq wq hk hr K hK => ?_) ?_
    · have B2 : ev aq (.tmp 2) = .pointer (some ⟨w.heap.size, 0, none⟩) := hk.base 2 (by kernel_rfl) rfl
      have hb := grows_of hk.ext
      exact vc hK (op_load3 2 _ B2 (D0.out.below hb)) (fun w2 h2 => QV.grow ⟨_, _, _, _, _, _, _, rfl, _, _, _, (SN0.out.below hb), (SD0.out.below hb), hl0, e0⟩ h2)
    refine po rfl (fun lq aq wq hk hr K hK => ?_) ?_
    · obtain ⟨v0, E0, r0⟩ := hk.dp hr 0 5 (by kernel_rfl)
      have r0 : QV wq v0 q := r0
      exact yc hK (by go_simp) (made_v wq r0) (fun u w1 hu w2 h2 => (hu).grow h2)
    refine po rfl (fun lq aq wq hk hr K hK => ?_) ?_
    · have B3 : ev aq (.tmp 3) = .pointer (some ⟨w.heap.size + 1, 0, none⟩) := hk.base 3 (by kernel_rfl) rfl
      have hb := grows_of hk.ext
      exact vc hK (op_load3 3 _ B3 (D1.out.below hb)) (fun w2 h2 => QV.grow ⟨_, _, _, _, _, _, _, rfl, _, _, _, (SN1.out.below hb), (SD1.out.below hb), hl1, e1⟩ h2)
    refine po rfl (fun lq aq wq hk hr K hK => ?_) ?_
    · obtain ⟨v2, E2, r2⟩ := hk.dp hr 2 7 (by kernel_rfl)
      have r2 : QV wq v2 r := r2
      exact yc hK (by go_simp) (made_v wq r2) (fun u w1 hu w2 h2 => (hu).grow h2)
    exact AllOps.nil
  intro V x1 hG hV hap
  have r1 : RV x1 (V 1) q := hV 1 (by decide)
  have r3 : RV x1 (V 3) r := hV 3 (by decide)
  clear hV hap
  simp only [List.take_succ_cons, List.take_zero, List.drop_succ_cons, List.drop_zero, putAll, Act.put, List.setIfInBounds_toArray, List.set_cons_zero, List.set_cons_succ]
  have hb := grows_of hG
  obtain ⟨nm2, Am2, km2, cm2, Bm2, jm2, dm2, em2, sm2, tm2, hdm2⟩ := r1
  simp only [em2]
  clear em2
  obtain ⟨nm3, Am3, km3, cm3, Bm3, jm3, dm3, em3, sm3, tm3, hdm3⟩ := r3
  simp only [em3]
  clear em3
  clear hG
  replace D0 := D0.out.below hb
  refine wpList_of_skip rfl (op_store3 2 6 _ rfl rfl D0) ?_
  replace D1 := Lib.hid (put3_far (x' := .bool nm2) (y' := .slice Am2 km2 cm2) (z' := .slice Bm2 jm2 dm2) (D1.out.below hb) (show w.heap.size + 1 ≠ w.heap.size by omega))
  replace SN1 := Lib.hid ((SN1.out.below hb).put3 D0 (.bool nm2) (.slice Am2 km2 cm2) (.slice Bm2 jm2 dm2))
  replace SD1 := Lib.hid ((SD1.out.below hb).put3 D0 (.bool nm2) (.slice Am2 km2 cm2) (.slice Bm2 jm2 dm2))
  replace DR := Lib.hid (put3_far (x' := .bool nm2) (y' := .slice Am2 km2 cm2) (z' := .slice Bm2 jm2 dm2) (DR.out.below hb) (show w.heap.size + 1 + 1 ≠ w.heap.size by omega))
  replace sm3 := sm3.put3 D0 (.bool nm2) (.slice Am2 km2 cm2) (.slice Bm2 jm2 dm2)
  replace tm3 := tm3.put3 D0 (.bool nm2) (.slice Am2 km2 cm2) (.slice Bm2 jm2 dm2)
  replace SN0 := Lib.hid (sm2.put3 D0 (.bool nm2) (.slice Am2 km2 cm2) (.slice Bm2 jm2 dm2))
  replace SD0 := Lib.hid (tm2.put3 D0 (.bool nm2) (.slice Am2 km2 cm2) (.slice Bm2 jm2 dm2))
  replace HB := Lib.hid (put3_below (x' := .bool nm2) (y' := .slice Am2 km2 cm2) (z' := .slice Bm2 jm2 dm2) (HB.out.trans (Below.mono hb HB.out.size)) (show w.heap.size ≤ w.heap.size by omega))
  replace D0 := Lib.hid (put3_own (x' := .bool nm2) (y' := .slice Am2 km2 cm2) (z' := .slice Bm2 jm2 dm2) D0)
  clear hb sm2 tm2
  generalize put3 x1 w.heap.size (.bool nm2) (.slice Am2 km2 cm2) (.slice Bm2 jm2 dm2) = y4 at *
  have hb := Below.refl (y4).heap.size (y4)
  replace D1 := D1.out.below hb
  refine wpList_of_skip rfl (op_store3 3 8 _ rfl rfl D1) ?_
  replace D0 := Lib.hid (put3_far (x' := .bool nm3) (y' := .slice Am3 km3 cm3) (z' := .slice Bm3 jm3 dm3) (D0.out.below hb) (show w.heap.size ≠ w.heap.size + 1 by omega))
  replace SN0 := Lib.hid ((SN0.out.below hb).put3 D1 (.bool nm3) (.slice Am3 km3 cm3) (.slice Bm3 jm3 dm3))
  replace SD0 := Lib.hid ((SD0.out.below hb).put3 D1 (.bool nm3) (.slice Am3 km3 cm3) (.slice Bm3 jm3 dm3))
  replace DR := Lib.hid (put3_far (x' := .bool nm3) (y' := .slice Am3 km3 cm3) (z' := .slice Bm3 jm3 dm3) (DR.out.below hb) (show w.heap.size + 1 + 1 ≠ w.heap.size + 1 by omega))
  replace SN1 := Lib.hid (sm3.put3 D1 (.bool nm3) (.slice Am3 km3 cm3) (.slice Bm3 jm3 dm3))
  replace SD1 := Lib.hid (tm3.put3 D1 (.bool nm3) (.slice Am3 km3 cm3) (.slice Bm3 jm3 dm3))
  replace HB := Lib.hid (put3_below (x' := .bool nm3) (y' := .slice Am3 km3 cm3) (z' := .slice Bm3 jm3 dm3) (HB.out.trans (Below.mono hb HB.out.size)) (show w.heap.size ≤ w.heap.size + 1 by omega))
  replace D1 := Lib.hid (put3_own (x' := .bool nm3) (y' := .slice Am3 km3 cm3) (z' := .slice Bm3 jm3 dm3) D1)
  clear hb sm3 tm3
  generalize put3 y4 (w.heap.size + 1) (.bool nm3) (.slice Am3 km3 cm3) (.slice Bm3 jm3 dm3) = y5 at *
  have hpos : 0 < q.den * r.den := Nat.mul_pos q.den_pos r.den_pos
  have hmul : mkRat (q.num * r.num) (q.den * r.den) = q * r := by rw [← Rat.mkRat_mul_mkRat, Rat.mkRat_self, Rat.mkRat_self]
  have hs1 : szz (q.num * r.num) ≤ 1000 := Nat.le_trans (szz_mul hqs.1 hrs.1) (by decide)
  have hs2 : sz (q.den * r.den) ≤ 1000 := Nat.le_trans (sz_mul _ _) (by have := hqs.2; have := hrs.2; omega)
  go_upto_region 2 with fail
  refine wp_region_going 12 [] ([fun vq _ => vq = .pointer (some ⟨w.heap.size, 0, none⟩),
      fun vq wq => ZV wq vq q.num,
      fun vq _ => vq = .pointer (some ⟨w.heap.size + 1, 0, none⟩),
      fun vq wq => ZV wq vq r.num,
      fun vq wq => RowV wq vq [q.num, r.num],
      fun vq wq => ZV wq vq ((q.num * r.num)),
      fun vq _ => vq = .pointer (some ⟨w.heap.size, 2, none⟩),
      fun vq _ => vq = .slice Bm2 jm2 dm2,
      fun vq _ => vq = .pointer (some ⟨w.heap.size + 1, 2, none⟩),
      fun vq _ => vq = .slice Bm3 jm3 dm3,
      fun vq wq => LV wq vq ((limbs (q.den * r.den))) ((q.den * r.den)),
      fun vq wq => RO bO wq vq ((mkRat ((q.num * r.num)) (q.den * r.den)))]) (by kernel_rfl) (by kernel_rfl) (by decide) (by kernel_rfl) (by kernel_rfl) ?_ ?_ ?_
  · intro j hj; cases hj
  · refine po rfl (fun lq aq wq hk hr K hK => ?_) ?_
    · have B2 : ev aq (.tmp 2) = .pointer (some ⟨w.heap.size, 0, none⟩) := hk.base 2 (by kernel_rfl) rfl
      exact vc hK (by go_simp) (fun w2 h2 => rfl)
    refine po rfl (fun lq aq wq hk hr K hK => ?_) ?_
    · have E0 : ev aq (.tmp 9) = .pointer (some ⟨w.heap.size, 0, none⟩) := hk.dc hr 0 (by kernel_rfl) fun _ _ h => h
      have hb := grows_of hk.ext
      exact vc hK (op_loadN 9 _ E0 (D0.out.below hb)) (fun w2 h2 => ⟨_, _, _, _, rfl, (SN0.out.below hb).below h2⟩)
    refine po rfl (fun lq aq wq hk hr K hK => ?_) ?_
    · have B3 : ev aq (.tmp 3) = .pointer (some ⟨w.heap.size + 1, 0, none⟩) := hk.base 3 (by kernel_rfl) rfl
      exact vc hK (by go_simp) (fun w2 h2 => rfl)
    refine po rfl (fun lq aq wq hk hr K hK => ?_) ?_
    · have E2 : ev aq (.tmp 11) = .pointer (some ⟨w.heap.size + 1, 0, none⟩) := hk.dc hr 2 (by kernel_rfl) fun _ _ h => h
      have hb := grows_of hk.ext
      exact vc hK (op_loadN 11 _ E2 (D1.out.below hb)) (fun w2 h2 => ⟨_, _, _, _, rfl, (SN1.out.below hb).below h2⟩)
    refine po rfl (fun lq aq wq hk hr K hK => ?_) ?_
    · obtain ⟨v1, E1, r1⟩ := hk.dp hr 1 10 (by kernel_rfl)
      have r1 : ZV wq v1 q.num := r1
      obtain ⟨n1, A1, k1, c1, rfl, s1⟩ := r1
      obtain ⟨v3, E3, r3⟩ := hk.dp hr 3 12 (by kernel_rfl)
      have r3 : ZV wq v3 r.num := r3
      obtain ⟨n3, A3, k3, c3, rfl, s3⟩ := r3
      exact wp_of_value (op_row2 10 12 E1 E3) (hK.out _ _ ((Grows.refl _).alloc _) (fun w2 h2 => (RowV.two s1.whole s3.whole).grow h2) (fun h => absurd h (by decide)))
    refine po rfl (fun lq aq wq hk hr K hK => ?_) ?_
    · obtain ⟨v4, E4, r4⟩ := hk.dp hr 4 13 (by kernel_rfl)
      have r4 : RowV wq v4 [q.num, r.num] := r4
      exact yc hK (by go_simp) (mul2_v wq r4 SN0.out.short hs1) (fun u w1 hu w2 h2 => (hu).grow h2)
    refine po rfl (fun lq aq wq hk hr K hK => ?_) ?_
    · have B2 : ev aq (.tmp 2) = .pointer (some ⟨w.heap.size, 0, none⟩) := hk.base 2 (by kernel_rfl) rfl
      exact vc hK (by go_simp) (fun w2 h2 => rfl)
    refine po rfl (fun lq aq wq hk hr K hK => ?_) ?_
    · have E6 : ev aq (.tmp 15) = .pointer (some ⟨w.heap.size, 2, none⟩) := hk.dc hr 6 (by kernel_rfl) fun _ _ h => h
      have hb := grows_of hk.ext
      have c2 := (D0.out.below hb).c2
      exact vc hK (by go_simp) (fun w2 h2 => rfl)
    refine po rfl (fun lq aq wq hk hr K hK => ?_) ?_
    · have B3 : ev aq (.tmp 3) = .pointer (some ⟨w.heap.size + 1, 0, none⟩) := hk.base 3 (by kernel_rfl) rfl
      exact vc hK (by go_simp) (fun w2 h2 => rfl)
    refine po rfl (fun lq aq wq hk hr K hK => ?_) ?_
    · have E8 : ev aq (.tmp 17) = .pointer (some ⟨w.heap.size + 1, 2, none⟩) := hk.dc hr 8 (by kernel_rfl) fun _ _ h => h
      have hb := grows_of hk.ext
      have c2 := (D1.out.below hb).c2
      exact vc hK (by go_simp) (fun w2 h2 => rfl)
    refine po rfl (fun lq aq wq hk hr K hK => ?_) ?_
    · have E7 : ev aq (.tmp 16) = .slice Bm2 jm2 dm2 := hk.dc hr 7 (by kernel_rfl) fun _ _ h => h
      have E9 : ev aq (.tmp 18) = .slice Bm3 jm3 dm3 := hk.dc hr 9 (by kernel_rfl) fun _ _ h => h
      exact yc hK (by go_simp) (nmul_v wq (SD0.out.below (grows_of hk.ext)).lv (SD1.out.below (grows_of hk.ext)).lv hs2) (fun u w1 hu w2 h2 => (hu).grow h2)
    refine po rfl (fun lq aq wq hk hr K hK => ?_) ?_
    · obtain ⟨v5, E5, r5⟩ := hk.dp hr 5 14 (by kernel_rfl)
      have r5 : ZV wq v5 ((q.num * r.num)) := r5
      obtain ⟨v10, E10, r10⟩ := hk.dp hr 10 19 (by kernel_rfl)
      have r10 : LV wq v10 ((limbs (q.den * r.den))) ((q.den * r.den)) := r10
      exact yc hK (by go_simp) (reduced_o wq (low hB HB.out (grows_of hk.ext)) (r5).wv r10 hs2 hpos) (fun u w1 hu w2 h2 => (hu).grow h2)
    exact AllOps.nil
  intro V x6 hG hV hap
  have r2 : (V 2) = .pointer (some ⟨w.heap.size + 1, 0, none⟩) := hV 2 (by decide)
  have r11 : RO bO x6 (V 11) ((mkRat ((q.num * r.num)) (q.den * r.den))) := hV 11 (by decide)
  clear hV hap
  simp only [List.take_succ_cons, List.take_zero, List.drop_succ_cons, List.drop_zero, putAll, Act.put, List.setIfInBounds_toArray, List.set_cons_zero, List.set_cons_succ]
  have hb := grows_of hG
  obtain ⟨nR, AR, kR, cR, BR, jR, dR, y9, eR, ey, hQ, HQ, c0, c1, c2⟩ := ret3o r11 (DR.out.below hb) (HB.out.trans (Below.mono hb HB.out.size)) (by omega)
  simp only [eR]
  refine wpList_of_skip rfl (op_store3 4 20 _ rfl rfl (DR.out.below hb)) ?_
  rw [ey]
  clear eR ey hb hG HB DR
  go_wp2_with fail
  refine bodyPost_ret (v := .agg #[.bool nR, .slice AR kR cR, .slice BR jR dR]) (by simp [results, Tryz.results26, go_sem, c0, c1, c2]) rfl ⟨_, rfl, (RO.to hQ hmul), HQ⟩
set_option maxHeartbeats 16000000 in
set_option maxRecDepth 100000 in
theorem qdiv0_o (w : World) {bO : Nat} (hB : bO ≤ w.heap.size) {u v : Value} {q r : Rat} (h0 : QV w u q) (h1 : QV w v r) (hqs : Qsz q 300) (hrs : Qsz r 300) (hr0 : r.num = 0) : Calls Tryz.prog 13 #[u, v] w fun e w' => ∃ y, e = .returned y ∧ (∃ x, y = .tuple #[x, .int .i64 3] ∧ RO bO w' x ((0 : Int) : Rat)) ∧ Grows w w' := by
  obtain ⟨n0, A0, k0, c0, B0, j0, d0, rfl, z0, l0, a0, s0, t0, hl0, e0⟩ := h0
  have hk0 : szz z0 ≤ 1000 := s0.size
  obtain ⟨n1, A1, k1, c1, B1, j1, d1, rfl, z1, l1, a1, s1, t1, hl1, e1⟩ := h1
  have hk1 : szz z1 ≤ 1000 := s1.size
  go_enter Tryz.func13, Tryz.ntmps13
  go_upto_region 1 with fail
  obtain ⟨x0, ex0, HB, D0, D1, DR⟩ := st_333 w 26 (.bool n0) (.slice A0 k0 c0) (.slice B0 j0 d0) 26 (.bool n1) (.slice A1 k1 c1) (.slice B1 j1 d1) 26 (.bool false) (.slice none 0 0) (.slice none 0 0)
  rw [ex0]
  clear ex0
  replace HB := Lib.hid HB
  replace D0 := Lib.hid D0
  replace D1 := Lib.hid D1
  replace DR := Lib.hid DR
  have SN0 := Lib.hid (s0.below HB.out)
  clear s0
  have SD0 := Lib.hid (t0.below HB.out)
  clear t0
  have SN1 := Lib.hid (s1.below HB.out)
  clear s1
  have SD1 := Lib.hid (t1.below HB.out)
  clear t1
  refine wp_region_going 4 [] ([fun vq wq => QV wq vq q,
      fun vq wq => RV wq vq q,
      fun vq wq => QV wq vq r,
      fun vq wq => RV wq vq r]) (by kernel_rfl) (by kernel_rfl) (by decide) (by kernel_rfl) (by kernel_rfl) ?_ ?_ ?_
  · intro j hj; cases hj
  · refine po rfl (fun lq aq wq hk hr K hK => ?_) ?_
    · have B2 : ev aq (.tmp 2) = .pointer (some ⟨w.heap.size, 0, none⟩) := hk.base 2 (by kernel_rfl) rfl
      have hb := grows_of hk.ext
      exact vc hK (op_load3 2 _ B2 (D0.out.below hb)) (fun w2 h2 => QV.grow ⟨_, _, _, _, _, _, _, rfl, _, _, _, (SN0.out.below hb), (SD0.out.below hb), hl0, e0⟩ h2)
    refine po rfl (fun lq aq wq hk hr K hK => ?_) ?_
    · obtain ⟨v0, E0, r0⟩ := hk.dp hr 0 6 (by kernel_rfl)
      have r0 : QV wq v0 q := r0
      exact yc hK (by go_simp) (made_v wq r0) (fun u w1 hu w2 h2 => (hu).grow h2)
    refine po rfl (fun lq aq wq hk hr K hK => ?_) ?_
    · have B3 : ev aq (.tmp 3) = .pointer (some ⟨w.heap.size + 1, 0, none⟩) := hk.base 3 (by kernel_rfl) rfl
      have hb := grows_of hk.ext
      exact vc hK (op_load3 3 _ B3 (D1.out.below hb)) (fun w2 h2 => QV.grow ⟨_, _, _, _, _, _, _, rfl, _, _, _, (SN1.out.below hb), (SD1.out.below hb), hl1, e1⟩ h2)
    refine po rfl (fun lq aq wq hk hr K hK => ?_) ?_
    · obtain ⟨v2, E2, r2⟩ := hk.dp hr 2 8 (by kernel_rfl)
      have r2 : QV wq v2 r := r2
      exact yc hK (by go_simp) (made_v wq r2) (fun u w1 hu w2 h2 => (hu).grow h2)
    exact AllOps.nil
  intro V x1 hG hV hap
  have r1 : RV x1 (V 1) q := hV 1 (by decide)
  have r3 : RV x1 (V 3) r := hV 3 (by decide)
  clear hV hap
  simp only [List.take_succ_cons, List.take_zero, List.drop_succ_cons, List.drop_zero, putAll, Act.put, List.setIfInBounds_toArray, List.set_cons_zero, List.set_cons_succ]
  have hb := grows_of hG
  obtain ⟨nm2, Am2, km2, cm2, Bm2, jm2, dm2, em2, sm2, tm2, hdm2⟩ := r1
  simp only [em2]
  clear em2
  obtain ⟨nm3, Am3, km3, cm3, Bm3, jm3, dm3, em3, sm3, tm3, hdm3⟩ := r3
  simp only [em3]
  clear em3
  clear hG
  replace D0 := D0.out.below hb
  refine wpList_of_skip rfl (op_store3 2 7 _ rfl rfl D0) ?_
  replace D1 := Lib.hid (put3_far (x' := .bool nm2) (y' := .slice Am2 km2 cm2) (z' := .slice Bm2 jm2 dm2) (D1.out.below hb) (show w.heap.size + 1 ≠ w.heap.size by omega))
  replace SN1 := Lib.hid ((SN1.out.below hb).put3 D0 (.bool nm2) (.slice Am2 km2 cm2) (.slice Bm2 jm2 dm2))
  replace SD1 := Lib.hid ((SD1.out.below hb).put3 D0 (.bool nm2) (.slice Am2 km2 cm2) (.slice Bm2 jm2 dm2))
  replace DR := Lib.hid (put3_far (x' := .bool nm2) (y' := .slice Am2 km2 cm2) (z' := .slice Bm2 jm2 dm2) (DR.out.below hb) (show w.heap.size + 1 + 1 ≠ w.heap.size by omega))
  replace sm3 := sm3.put3 D0 (.bool nm2) (.slice Am2 km2 cm2) (.slice Bm2 jm2 dm2)
  replace tm3 := tm3.put3 D0 (.bool nm2) (.slice Am2 km2 cm2) (.slice Bm2 jm2 dm2)
  replace SN0 := Lib.hid (sm2.put3 D0 (.bool nm2) (.slice Am2 km2 cm2) (.slice Bm2 jm2 dm2))
  replace SD0 := Lib.hid (tm2.put3 D0 (.bool nm2) (.slice Am2 km2 cm2) (.slice Bm2 jm2 dm2))
  replace HB := Lib.hid (put3_below (x' := .bool nm2) (y' := .slice Am2 km2 cm2) (z' := .slice Bm2 jm2 dm2) (HB.out.trans (Below.mono hb HB.out.size)) (show w.heap.size ≤ w.heap.size by omega))
  replace D0 := Lib.hid (put3_own (x' := .bool nm2) (y' := .slice Am2 km2 cm2) (z' := .slice Bm2 jm2 dm2) D0)
  clear hb sm2 tm2
  generalize put3 x1 w.heap.size (.bool nm2) (.slice Am2 km2 cm2) (.slice Bm2 jm2 dm2) = y4 at *
  have hb := Below.refl (y4).heap.size (y4)
  replace D1 := D1.out.below hb
  refine wpList_of_skip rfl (op_store3 3 9 _ rfl rfl D1) ?_
  replace D0 := Lib.hid (put3_far (x' := .bool nm3) (y' := .slice Am3 km3 cm3) (z' := .slice Bm3 jm3 dm3) (D0.out.below hb) (show w.heap.size ≠ w.heap.size + 1 by omega))
  replace SN0 := Lib.hid ((SN0.out.below hb).put3 D1 (.bool nm3) (.slice Am3 km3 cm3) (.slice Bm3 jm3 dm3))
  replace SD0 := Lib.hid ((SD0.out.below hb).put3 D1 (.bool nm3) (.slice Am3 km3 cm3) (.slice Bm3 jm3 dm3))
  replace DR := Lib.hid (put3_far (x' := .bool nm3) (y' := .slice Am3 km3 cm3) (z' := .slice Bm3 jm3 dm3) (DR.out.below hb) (show w.heap.size + 1 + 1 ≠ w.heap.size + 1 by omega))
  replace SN1 := Lib.hid (sm3.put3 D1 (.bool nm3) (.slice Am3 km3 cm3) (.slice Bm3 jm3 dm3))
  replace SD1 := Lib.hid (tm3.put3 D1 (.bool nm3) (.slice Am3 km3 cm3) (.slice Bm3 jm3 dm3))
  replace HB := Lib.hid (put3_below (x' := .bool nm3) (y' := .slice Am3 km3 cm3) (z' := .slice Bm3 jm3 dm3) (HB.out.trans (Below.mono hb HB.out.size)) (show w.heap.size ≤ w.heap.size + 1 by omega))
  replace D1 := Lib.hid (put3_own (x' := .bool nm3) (y' := .slice Am3 km3 cm3) (z' := .slice Bm3 jm3 dm3) D1)
  clear hb sm3 tm3
  generalize put3 y4 (w.heap.size + 1) (.bool nm3) (.slice Am3 km3 cm3) (.slice Bm3 jm3 dm3) = y5 at *
  obtain ⟨hp1, hp2, _⟩ := hqs.parts hrs (by decide)
  have hsd : szz (r.den : Int) ≤ 1000 := by unfold szz; rw [Int.natAbs_natCast]; exact Nat.le_trans hrs.2 (by decide)
  have hse : szz (q.den : Int) ≤ 1000 := by unfold szz; rw [Int.natAbs_natCast]; exact Nat.le_trans hqs.2 (by decide)
  have hqd : (0 : Int) < (q.den : Int) := by have := q.den_pos; omega
  have hy : r.num * (q.den : Int) = 0 := by rw [hr0, Int.zero_mul]
  go_upto_region 2 with fail
  refine wp_region_going 17 [] ([fun vq _ => vq = .pointer (some ⟨w.heap.size, 0, none⟩),
      fun vq wq => ZV wq vq q.num,
      fun vq _ => vq = .pointer (some ⟨w.heap.size + 1, 2, none⟩),
      fun vq _ => vq = .slice Bm3 jm3 dm3,
      fun vq wq => ZV wq vq ((r.den : Int)),
      fun vq wq => RowV wq vq [q.num, (r.den : Int)],
      fun vq wq => ZV wq vq ((q.num * (r.den : Int))),
      fun vq _ => vq = .pointer (some ⟨w.heap.size + 1, 0, none⟩),
      fun vq wq => ZV wq vq r.num,
      fun vq _ => vq = .pointer (some ⟨w.heap.size, 2, none⟩),
      fun vq _ => vq = .slice Bm2 jm2 dm2,
      fun vq wq => ZV wq vq ((q.den : Int)),
      fun vq wq => RowV wq vq [r.num, (q.den : Int)],
      fun vq wq => ZV wq vq ((r.num * (q.den : Int))),
      fun vq wq => ∃ u0, vq = .tuple #[u0, .int .i64 3] ∧ RO bO wq u0 (((0 : Int) : Rat)),
      fun vq wq => RO bO wq vq (((0 : Int) : Rat)),
      fun vq _ => vq = .int .i64 3]) (by kernel_rfl) (by kernel_rfl) (by decide) (by kernel_rfl) (by kernel_rfl) ?_ ?_ ?_
  · intro j hj; cases hj
  · refine po rfl (fun lq aq wq hk hr K hK => ?_) ?_
    · have B2 : ev aq (.tmp 2) = .pointer (some ⟨w.heap.size, 0, none⟩) := hk.base 2 (by kernel_rfl) rfl
      exact vc hK (by go_simp) (fun w2 h2 => rfl)
    refine po rfl (fun lq aq wq hk hr K hK => ?_) ?_
    · have E0 : ev aq (.tmp 10) = .pointer (some ⟨w.heap.size, 0, none⟩) := hk.dc hr 0 (by kernel_rfl) fun _ _ h => h
      have hb := grows_of hk.ext
      exact vc hK (op_loadN 10 _ E0 (D0.out.below hb)) (fun w2 h2 => ⟨_, _, _, _, rfl, (SN0.out.below hb).below h2⟩)
    refine po rfl (fun lq aq wq hk hr K hK => ?_) ?_
    · have B3 : ev aq (.tmp 3) = .pointer (some ⟨w.heap.size + 1, 0, none⟩) := hk.base 3 (by kernel_rfl) rfl
      exact vc hK (by go_simp) (fun w2 h2 => rfl)
    refine po rfl (fun lq aq wq hk hr K hK => ?_) ?_
    · have E2 : ev aq (.tmp 12) = .pointer (some ⟨w.heap.size + 1, 2, none⟩) := hk.dc hr 2 (by kernel_rfl) fun _ _ h => h
      have hb := grows_of hk.ext
      have c2 := (D1.out.below hb).c2
      exact vc hK (by go_simp) (fun w2 h2 => rfl)
    refine po rfl (fun lq aq wq hk hr K hK => ?_) ?_
    · have E3 : ev aq (.tmp 13) = .slice Bm3 jm3 dm3 := hk.dc hr 3 (by kernel_rfl) fun _ _ h => h
      exact yc hK (by go_simp) (of_v wq false (SD1.out.below (grows_of hk.ext)).lv (sg_false _) hsd) (fun u w1 hu w2 h2 => (hu).grow h2)
    refine po rfl (fun lq aq wq hk hr K hK => ?_) ?_
    · obtain ⟨v1, E1, r1⟩ := hk.dp hr 1 11 (by kernel_rfl)
      have r1 : ZV wq v1 q.num := r1
      obtain ⟨n1, A1, k1, c1, rfl, s1⟩ := r1
      obtain ⟨v4, E4, r4⟩ := hk.dp hr 4 14 (by kernel_rfl)
      have r4 : ZV wq v4 ((r.den : Int)) := r4
      obtain ⟨n4, A4, k4, c4, rfl, s4⟩ := r4
      exact wp_of_value (op_row2 11 14 E1 E4) (hK.out _ _ ((Grows.refl _).alloc _) (fun w2 h2 => (RowV.two s1.whole s4.whole).grow h2) (fun h => absurd h (by decide)))
    refine po rfl (fun lq aq wq hk hr K hK => ?_) ?_
    · obtain ⟨v5, E5, r5⟩ := hk.dp hr 5 15 (by kernel_rfl)
      have r5 : RowV wq v5 [q.num, (r.den : Int)] := r5
      exact yc hK (by go_simp) (mul2_v wq r5 SN0.out.short hp1) (fun u w1 hu w2 h2 => (hu).grow h2)
    refine po rfl (fun lq aq wq hk hr K hK => ?_) ?_
    · have B3 : ev aq (.tmp 3) = .pointer (some ⟨w.heap.size + 1, 0, none⟩) := hk.base 3 (by kernel_rfl) rfl
      exact vc hK (by go_simp) (fun w2 h2 => rfl)
    refine po rfl (fun lq aq wq hk hr K hK => ?_) ?_
    · have E7 : ev aq (.tmp 17) = .pointer (some ⟨w.heap.size + 1, 0, none⟩) := hk.dc hr 7 (by kernel_rfl) fun _ _ h => h
      have hb := grows_of hk.ext
      exact vc hK (op_loadN 17 _ E7 (D1.out.below hb)) (fun w2 h2 => ⟨_, _, _, _, rfl, (SN1.out.below hb).below h2⟩)
    refine po rfl (fun lq aq wq hk hr K hK => ?_) ?_
    · have B2 : ev aq (.tmp 2) = .pointer (some ⟨w.heap.size, 0, none⟩) := hk.base 2 (by kernel_rfl) rfl
      exact vc hK (by go_simp) (fun w2 h2 => rfl)
    refine po rfl (fun lq aq wq hk hr K hK => ?_) ?_
    · have E9 : ev aq (.tmp 19) = .pointer (some ⟨w.heap.size, 2, none⟩) := hk.dc hr 9 (by kernel_rfl) fun _ _ h => h
      have hb := grows_of hk.ext
      have c2 := (D0.out.below hb).c2
      exact vc hK (by go_simp) (fun w2 h2 => rfl)
    refine po rfl (fun lq aq wq hk hr K hK => ?_) ?_
    · have E10 : ev aq (.tmp 20) = .slice Bm2 jm2 dm2 := hk.dc hr 10 (by kernel_rfl) fun _ _ h => h
      exact yc hK (by go_simp) (of_v wq false (SD0.out.below (grows_of hk.ext)).lv (sg_false _) hse) (fun u w1 hu w2 h2 => (hu).grow h2)
    refine po rfl (fun lq aq wq hk hr K hK => ?_) ?_
    · obtain ⟨v8, E8, r8⟩ := hk.dp hr 8 18 (by kernel_rfl)
      have r8 : ZV wq v8 r.num := r8
      obtain ⟨n8, A8, k8, c8, rfl, s8⟩ := r8
      obtain ⟨v11, E11, r11⟩ := hk.dp hr 11 21 (by kernel_rfl)
      have r11 : ZV wq v11 ((q.den : Int)) := r11
      obtain ⟨n11, A11, k11, c11, rfl, s11⟩ := r11
      exact wp_of_value (op_row2 18 21 E8 E11) (hK.out _ _ ((Grows.refl _).alloc _) (fun w2 h2 => (RowV.two s8.whole s11.whole).grow h2) (fun h => absurd h (by decide)))
    refine po rfl (fun lq aq wq hk hr K hK => ?_) ?_
    · obtain ⟨v12, E12, r12⟩ := hk.dp hr 12 22 (by kernel_rfl)
      have r12 : RowV wq v12 [r.num, (q.den : Int)] := r12
      exact yc hK (by go_simp) (mul2_v wq r12 SN1.out.short hp2) (fun u w1 hu w2 h2 => (hu).grow h2)
    refine po rfl (fun lq aq wq hk hr K hK => ?_) ?_
    · obtain ⟨v6, E6, r6⟩ := hk.dp hr 6 16 (by kernel_rfl)
      have r6 : ZV wq v6 ((q.num * (r.den : Int))) := r6
      obtain ⟨v13, E13, r13⟩ := hk.dp hr 13 23 (by kernel_rfl)
      have r13 : ZV wq v13 ((r.num * (q.den : Int))) := r13
      exact yc hK (by go_simp) (qof0_o wq (low hB HB.out (grows_of hk.ext)) (r6).wv (r13).wv hy) (fun u w1 hu w2 h2 => (let ⟨u0, e0, h0⟩ := hu; ⟨u0, e0, (h0).grow h2⟩))
    refine po rfl (fun lq aq wq hk hr K hK => ?_) ?_
    · obtain ⟨v14, E14, r14⟩ := hk.dp hr 14 24 (by kernel_rfl)
      have r14 : ∃ u0, v14 = .tuple #[u0, .int .i64 3] ∧ RO bO wq u0 (((0 : Int) : Rat)) := r14
      obtain ⟨u0, rfl, h0⟩ := r14
      exact vc hK (by go_simp) (fun w2 h2 => (h0).grow h2)
    refine po rfl (fun lq aq wq hk hr K hK => ?_) ?_
    · obtain ⟨v14, E14, r14⟩ := hk.dp hr 14 24 (by kernel_rfl)
      have r14 : ∃ u0, v14 = .tuple #[u0, .int .i64 3] ∧ RO bO wq u0 (((0 : Int) : Rat)) := r14
      obtain ⟨u0, rfl, h0⟩ := r14
      exact vc hK (by go_simp) (fun w2 h2 => rfl)
    exact AllOps.nil
  intro V x6 hG hV hap
  have r5 : RowV x6 (V 5) [q.num, (r.den : Int)] := hV 5 (by decide)
  have r6 : ZV x6 (V 6) ((q.num * (r.den : Int))) := hV 6 (by decide)
  have r15 : RO bO x6 (V 15) (((0 : Int) : Rat)) := hV 15 (by decide)
  have r16 : (V 16) = .int .i64 3 := hV 16 (by decide)
  clear hV hap
  simp only [List.take_succ_cons, List.take_zero, List.drop_succ_cons, List.drop_zero, putAll, Act.put, List.setIfInBounds_toArray, List.set_cons_zero, List.set_cons_succ]
  have hb := grows_of hG
  obtain ⟨nR, AR, kR, cR, BR, jR, dR, y9, eR, ey, hQ, HQ, c0, c1, c2⟩ := ret3o r15 (DR.out.below hb) (HB.out.trans (Below.mono hb HB.out.size)) (by omega)
  simp only [eR, r16]
  refine wpList_of_skip rfl (op_store3 4 25 _ rfl rfl (DR.out.below hb)) ?_
  rw [ey]
  clear eR ey hb hG HB DR r16
  go_wp2_with fail
  refine bodyPost_ret (v := .tuple #[.agg #[.bool nR, .slice AR kR cR, .slice BR jR dR], .int .i64 3]) (by simp [results, Tryz.results13, go_sem, c0, c1, c2]) rfl ⟨_, rfl, ⟨_, rfl, hQ⟩, HQ⟩
set_option maxHeartbeats 16000000 in
set_option maxRecDepth 100000 in
theorem qdivp_o (w : World) {bO : Nat} (hB : bO ≤ w.heap.size) {u v : Value} {q r : Rat} (h0 : QV w u q) (h1 : QV w v r) (hqs : Qsz q 300) (hrs : Qsz r 300) (hr0 : 0 < r.num) : Calls Tryz.prog 13 #[u, v] w fun e w' => ∃ y, e = .returned y ∧ (∃ x, y = .tuple #[x, .int .i64 0] ∧ RO bO w' x (q / r)) ∧ Grows w w' := by
  obtain ⟨n0, A0, k0, c0, B0, j0, d0, rfl, z0, l0, a0, s0, t0, hl0, e0⟩ := h0
  have hk0 : szz z0 ≤ 1000 := s0.size
  obtain ⟨n1, A1, k1, c1, B1, j1, d1, rfl, z1, l1, a1, s1, t1, hl1, e1⟩ := h1
  have hk1 : szz z1 ≤ 1000 := s1.size
  go_enter Tryz.func13, Tryz.ntmps13
  go_upto_region 1 with fail
  obtain ⟨x0, ex0, HB, D0, D1, DR⟩ := st_333 w 26 (.bool n0) (.slice A0 k0 c0) (.slice B0 j0 d0) 26 (.bool n1) (.slice A1 k1 c1) (.slice B1 j1 d1) 26 (.bool false) (.slice none 0 0) (.slice none 0 0)
  rw [ex0]
  clear ex0
  replace HB := Lib.hid HB
  replace D0 := Lib.hid D0
  replace D1 := Lib.hid D1
  replace DR := Lib.hid DR
  have SN0 := Lib.hid (s0.below HB.out)
  clear s0
  have SD0 := Lib.hid (t0.below HB.out)
  clear t0
  have SN1 := Lib.hid (s1.below HB.out)
  clear s1
  have SD1 := Lib.hid (t1.below HB.out)
  clear t1
  refine wp_region_going 4 [] ([fun vq wq => QV wq vq q,
      fun vq wq => RV wq vq q,
      fun vq wq => QV wq vq r,
      fun vq wq => RV wq vq r]) (by kernel_rfl) (by kernel_rfl) (by decide) (by kernel_rfl) (by kernel_rfl) ?_ ?_ ?_
  · intro j hj; cases hj
  · refine po rfl (fun lq aq wq hk hr K hK => ?_) ?_
    · have B2 : ev aq (.tmp 2) = .pointer (some ⟨w.heap.size, 0, none⟩) := hk.base 2 (by kernel_rfl) rfl
      have hb := grows_of hk.ext
      exact vc hK (op_load3 2 _ B2 (D0.out.below hb)) (fun w2 h2 => QV.grow ⟨_, _, _, _, _, _, _, rfl, _, _, _, (SN0.out.below hb), (SD0.out.below hb), hl0, e0⟩ h2)
    refine po rfl (fun lq aq wq hk hr K hK => ?_) ?_
    · obtain ⟨v0, E0, r0⟩ := hk.dp hr 0 6 (by kernel_rfl)
      have r0 : QV wq v0 q := r0
      exact yc hK (by go_simp) (made_v wq r0) (fun u w1 hu w2 h2 => (hu).grow h2)
    refine po rfl (fun lq aq wq hk hr K hK => ?_) ?_
    · have B3 : ev aq (.tmp 3) = .pointer (some ⟨w.heap.size + 1, 0, none⟩) := hk.base 3 (by kernel_rfl) rfl
      have hb := grows_of hk.ext
      exact vc hK (op_load3 3 _ B3 (D1.out.below hb)) (fun w2 h2 => QV.grow ⟨_, _, _, _, _, _, _, rfl, _, _, _, (SN1.out.below hb), (SD1.out.below hb), hl1, e1⟩ h2)
    refine po rfl (fun lq aq wq hk hr K hK => ?_) ?_
    · obtain ⟨v2, E2, r2⟩ := hk.dp hr 2 8 (by kernel_rfl)
      have r2 : QV wq v2 r := r2
      exact yc hK (by go_simp) (made_v wq r2) (fun u w1 hu w2 h2 => (hu).grow h2)
    exact AllOps.nil
  intro V x1 hG hV hap
  have r1 : RV x1 (V 1) q := hV 1 (by decide)
  have r3 : RV x1 (V 3) r := hV 3 (by decide)
  clear hV hap
  simp only [List.take_succ_cons, List.take_zero, List.drop_succ_cons, List.drop_zero, putAll, Act.put, List.setIfInBounds_toArray, List.set_cons_zero, List.set_cons_succ]
  have hb := grows_of hG
  obtain ⟨nm2, Am2, km2, cm2, Bm2, jm2, dm2, em2, sm2, tm2, hdm2⟩ := r1
  simp only [em2]
  clear em2
  obtain ⟨nm3, Am3, km3, cm3, Bm3, jm3, dm3, em3, sm3, tm3, hdm3⟩ := r3
  simp only [em3]
  clear em3
  clear hG
  replace D0 := D0.out.below hb
  refine wpList_of_skip rfl (op_store3 2 7 _ rfl rfl D0) ?_
  replace D1 := Lib.hid (put3_far (x' := .bool nm2) (y' := .slice Am2 km2 cm2) (z' := .slice Bm2 jm2 dm2) (D1.out.below hb) (show w.heap.size + 1 ≠ w.heap.size by omega))
  replace SN1 := Lib.hid ((SN1.out.below hb).put3 D0 (.bool nm2) (.slice Am2 km2 cm2) (.slice Bm2 jm2 dm2))
  replace SD1 := Lib.hid ((SD1.out.below hb).put3 D0 (.bool nm2) (.slice Am2 km2 cm2) (.slice Bm2 jm2 dm2))
  replace DR := Lib.hid (put3_far (x' := .bool nm2) (y' := .slice Am2 km2 cm2) (z' := .slice Bm2 jm2 dm2) (DR.out.below hb) (show w.heap.size + 1 + 1 ≠ w.heap.size by omega))
  replace sm3 := sm3.put3 D0 (.bool nm2) (.slice Am2 km2 cm2) (.slice Bm2 jm2 dm2)
  replace tm3 := tm3.put3 D0 (.bool nm2) (.slice Am2 km2 cm2) (.slice Bm2 jm2 dm2)
  replace SN0 := Lib.hid (sm2.put3 D0 (.bool nm2) (.slice Am2 km2 cm2) (.slice Bm2 jm2 dm2))
  replace SD0 := Lib.hid (tm2.put3 D0 (.bool nm2) (.slice Am2 km2 cm2) (.slice Bm2 jm2 dm2))
  replace HB := Lib.hid (put3_below (x' := .bool nm2) (y' := .slice Am2 km2 cm2) (z' := .slice Bm2 jm2 dm2) (HB.out.trans (Below.mono hb HB.out.size)) (show w.heap.size ≤ w.heap.size by omega))
  replace D0 := Lib.hid (put3_own (x' := .bool nm2) (y' := .slice Am2 km2 cm2) (z' := .slice Bm2 jm2 dm2) D0)
  clear hb sm2 tm2
  generalize put3 x1 w.heap.size (.bool nm2) (.slice Am2 km2 cm2) (.slice Bm2 jm2 dm2) = y4 at *
  have hb := Below.refl (y4).heap.size (y4)
  replace D1 := D1.out.below hb
  refine wpList_of_skip rfl (op_store3 3 9 _ rfl rfl D1) ?_
  replace D0 := Lib.hid (put3_far (x' := .bool nm3) (y' := .slice Am3 km3 cm3) (z' := .slice Bm3 jm3 dm3) (D0.out.below hb) (show w.heap.size ≠ w.heap.size + 1 by omega))
  replace SN0 := Lib.hid ((SN0.out.below hb).put3 D1 (.bool nm3) (.slice Am3 km3 cm3) (.slice Bm3 jm3 dm3))
  replace SD0 := Lib.hid ((SD0.out.below hb).put3 D1 (.bool nm3) (.slice Am3 km3 cm3) (.slice Bm3 jm3 dm3))
  replace DR := Lib.hid (put3_far (x' := .bool nm3) (y' := .slice Am3 km3 cm3) (z' := .slice Bm3 jm3 dm3) (DR.out.below hb) (show w.heap.size + 1 + 1 ≠ w.heap.size + 1 by omega))
  replace SN1 := Lib.hid (sm3.put3 D1 (.bool nm3) (.slice Am3 km3 cm3) (.slice Bm3 jm3 dm3))
  replace SD1 := Lib.hid (tm3.put3 D1 (.bool nm3) (.slice Am3 km3 cm3) (.slice Bm3 jm3 dm3))
  replace HB := Lib.hid (put3_below (x' := .bool nm3) (y' := .slice Am3 km3 cm3) (z' := .slice Bm3 jm3 dm3) (HB.out.trans (Below.mono hb HB.out.size)) (show w.heap.size ≤ w.heap.size + 1 by omega))
  replace D1 := Lib.hid (put3_own (x' := .bool nm3) (y' := .slice Am3 km3 cm3) (z' := .slice Bm3 jm3 dm3) D1)
  clear hb sm3 tm3
  generalize put3 y4 (w.heap.size + 1) (.bool nm3) (.slice Am3 km3 cm3) (.slice Bm3 jm3 dm3) = y5 at *
  obtain ⟨hp1, hp2, _⟩ := hqs.parts hrs (by decide)
  have hsd : szz (r.den : Int) ≤ 1000 := by unfold szz; rw [Int.natAbs_natCast]; exact Nat.le_trans hrs.2 (by decide)
  have hse : szz (q.den : Int) ≤ 1000 := by unfold szz; rw [Int.natAbs_natCast]; exact Nat.le_trans hqs.2 (by decide)
  have hqd : (0 : Int) < (q.den : Int) := by have := q.den_pos; omega
  have hy : 0 < r.num * (q.den : Int) := Int.mul_pos hr0 hqd
  go_upto_region 2 with fail
  refine wp_region_going 17 [] ([fun vq _ => vq = .pointer (some ⟨w.heap.size, 0, none⟩),
      fun vq wq => ZV wq vq q.num,
      fun vq _ => vq = .pointer (some ⟨w.heap.size + 1, 2, none⟩),
      fun vq _ => vq = .slice Bm3 jm3 dm3,
      fun vq wq => ZV wq vq ((r.den : Int)),
      fun vq wq => RowV wq vq [q.num, (r.den : Int)],
      fun vq wq => ZV wq vq ((q.num * (r.den : Int))),
      fun vq _ => vq = .pointer (some ⟨w.heap.size + 1, 0, none⟩),
      fun vq wq => ZV wq vq r.num,
      fun vq _ => vq = .pointer (some ⟨w.heap.size, 2, none⟩),
      fun vq _ => vq = .slice Bm2 jm2 dm2,
      fun vq wq => ZV wq vq ((q.den : Int)),
      fun vq wq => RowV wq vq [r.num, (q.den : Int)],
      fun vq wq => ZV wq vq ((r.num * (q.den : Int))),
      fun vq wq => ∃ u0, vq = .tuple #[u0, .int .i64 0] ∧ RO bO wq u0 ((Rat.divInt (q.num * (r.den : Int)) (r.num * (q.den : Int)))),
      fun vq wq => RO bO wq vq ((Rat.divInt (q.num * (r.den : Int)) (r.num * (q.den : Int)))),
      fun vq _ => vq = .int .i64 0]) (by kernel_rfl) (by kernel_rfl) (by decide) (by kernel_rfl) (by kernel_rfl) ?_ ?_ ?_
  · intro j hj; cases hj
  · refine po rfl (fun lq aq wq hk hr K hK => ?_) ?_
    · have B2 : ev aq (.tmp 2) = .pointer (some ⟨w.heap.size, 0, none⟩) := hk.base 2 (by kernel_rfl) rfl
      exact vc hK (by go_simp) (fun w2 h2 => rfl)
    refine po rfl (fun lq aq wq hk hr K hK => ?_) ?_
    · have E0 : ev aq (.tmp 10) = .pointer (some ⟨w.heap.size, 0, none⟩) := hk.dc hr 0 (by kernel_rfl) fun _ _ h => h
      have hb := grows_of hk.ext
      exact vc hK (op_loadN 10 _ E0 (D0.out.below hb)) (fun w2 h2 => ⟨_, _, _, _, rfl, (SN0.out.below hb).below h2⟩)
    refine po rfl (fun lq aq wq hk hr K hK => ?_) ?_
    · have B3 : ev aq (.tmp 3) = .pointer (some ⟨w.heap.size + 1, 0, none⟩) := hk.base 3 (by kernel_rfl) rfl
      exact vc hK (by go_simp) (fun w2 h2 => rfl)
    refine po rfl (fun lq aq wq hk hr K hK => ?_) ?_
    · have E2 : ev aq (.tmp 12) = .pointer (some ⟨w.heap.size + 1, 2, none⟩) := hk.dc hr 2 (by kernel_rfl) fun _ _ h => h
      have hb := grows_of hk.ext
      have c2 := (D1.out.below hb).c2
      exact vc hK (by go_simp) (fun w2 h2 => rfl)
    refine po rfl (fun lq aq wq hk hr K hK => ?_) ?_
    · have E3 : ev aq (.tmp 13) = .slice Bm3 jm3 dm3 := hk.dc hr 3 (by kernel_rfl) fun _ _ h => h
      exact yc hK (by go_simp) (of_v wq false (SD1.out.below (grows_of hk.ext)).lv (sg_false _) hsd) (fun u w1 hu w2 h2 => (hu).grow h2)
    refine po rfl (fun lq aq wq hk hr K hK => ?_) ?_
    · obtain ⟨v1, E1, r1⟩ := hk.dp hr 1 11 (by kernel_rfl)
      have r1 : ZV wq v1 q.num := r1
      obtain ⟨n1, A1, k1, c1, rfl, s1⟩ := r1
      obtain ⟨v4, E4, r4⟩ := hk.dp hr 4 14 (by kernel_rfl)
      have r4 : ZV wq v4 ((r.den : Int)) := r4
      obtain ⟨n4, A4, k4, c4, rfl, s4⟩ := r4
      exact wp_of_value (op_row2 11 14 E1 E4) (hK.out _ _ ((Grows.refl _).alloc _) (fun w2 h2 => (RowV.two s1.whole s4.whole).grow h2) (fun h => absurd h (by decide)))
    refine po rfl (fun lq aq wq hk hr K hK => ?_) ?_
    · obtain ⟨v5, E5, r5⟩ := hk.dp hr 5 15 (by kernel_rfl)
      have r5 : RowV wq v5 [q.num, (r.den : Int)] := r5
      exact yc hK (by go_simp) (mul2_v wq r5 SN0.out.short hp1) (fun u w1 hu w2 h2 => (hu).grow h2)
    refine po rfl (fun lq aq wq hk hr K hK => ?_) ?_
    · have B3 : ev aq (.tmp 3) = .pointer (some ⟨w.heap.size + 1, 0, none⟩) := hk.base 3 (by kernel_rfl) rfl
      exact vc hK (by go_simp) (fun w2 h2 => rfl)
    refine po rfl (fun lq aq wq hk hr K hK => ?_) ?_
    · have E7 : ev aq (.tmp 17) = .pointer (some ⟨w.heap.size + 1, 0, none⟩) := hk.dc hr 7 (by kernel_rfl) fun _ _ h => h
      have hb := grows_of hk.ext
      exact vc hK (op_loadN 17 _ E7 (D1.out.below hb)) (fun w2 h2 => ⟨_, _, _, _, rfl, (SN1.out.below hb).below h2⟩)
    refine po rfl (fun lq aq wq hk hr K hK => ?_) ?_
    · have B2 : ev aq (.tmp 2) = .pointer (some ⟨w.heap.size, 0, none⟩) := hk.base 2 (by kernel_rfl) rfl
      exact vc hK (by go_simp) (fun w2 h2 => rfl)
    refine po rfl (fun lq aq wq hk hr K hK => ?_) ?_
    · have E9 : ev aq (.tmp 19) = .pointer (some ⟨w.heap.size, 2, none⟩) := hk.dc hr 9 (by kernel_rfl) fun _ _ h => h
      have hb := grows_of hk.ext
      have c2 := (D0.out.below hb).c2
      exact vc hK (by go_simp) (fun w2 h2 => rfl)
    refine po rfl (fun lq aq wq hk hr K hK => ?_) ?_
    · have E10 : ev aq (.tmp 20) = .slice Bm2 jm2 dm2 := hk.dc hr 10 (by kernel_rfl) fun _ _ h => h
      exact yc hK (by go_simp) (of_v wq false (SD0.out.below (grows_of hk.ext)).lv (sg_false _) hse) (fun u w1 hu w2 h2 => (hu).grow h2)
    refine po rfl (fun lq aq wq hk hr K hK => ?_) ?_
    · obtain ⟨v8, E8, r8⟩ := hk.dp hr 8 18 (by kernel_rfl)
      have r8 : ZV wq v8 r.num := r8
      obtain ⟨n8, A8, k8, c8, rfl, s8⟩ := r8
      obtain ⟨v11, E11, r11⟩ := hk.dp hr 11 21 (by kernel_rfl)
      have r11 : ZV wq v11 ((q.den : Int)) := r11
      obtain ⟨n11, A11, k11, c11, rfl, s11⟩ := r11
      exact wp_of_value (op_row2 18 21 E8 E11) (hK.out _ _ ((Grows.refl _).alloc _) (fun w2 h2 => (RowV.two s8.whole s11.whole).grow h2) (fun h => absurd h (by decide)))
    refine po rfl (fun lq aq wq hk hr K hK => ?_) ?_
    · obtain ⟨v12, E12, r12⟩ := hk.dp hr 12 22 (by kernel_rfl)
      have r12 : RowV wq v12 [r.num, (q.den : Int)] := r12
      exact yc hK (by go_simp) (mul2_v wq r12 SN1.out.short hp2) (fun u w1 hu w2 h2 => (hu).grow h2)
    refine po rfl (fun lq aq wq hk hr K hK => ?_) ?_
    · obtain ⟨v6, E6, r6⟩ := hk.dp hr 6 16 (by kernel_rfl)
      have r6 : ZV wq v6 ((q.num * (r.den : Int))) := r6
      obtain ⟨v13, E13, r13⟩ := hk.dp hr 13 23 (by kernel_rfl)
      have r13 : ZV wq v13 ((r.num * (q.den : Int))) := r13
      exact yc hK (by go_simp) (qofp_o wq (low hB HB.out (grows_of hk.ext)) (r6).wv (r13).wv hy) (fun u w1 hu w2 h2 => (let ⟨u0, e0, h0⟩ := hu; ⟨u0, e0, (h0).grow h2⟩))
    refine po rfl (fun lq aq wq hk hr K hK => ?_) ?_
    · obtain ⟨v14, E14, r14⟩ := hk.dp hr 14 24 (by kernel_rfl)
      have r14 : ∃ u0, v14 = .tuple #[u0, .int .i64 0] ∧ RO bO wq u0 ((Rat.divInt (q.num * (r.den : Int)) (r.num * (q.den : Int)))) := r14
      obtain ⟨u0, rfl, h0⟩ := r14
      exact vc hK (by go_simp) (fun w2 h2 => (h0).grow h2)
    refine po rfl (fun lq aq wq hk hr K hK => ?_) ?_
    · obtain ⟨v14, E14, r14⟩ := hk.dp hr 14 24 (by kernel_rfl)
      have r14 : ∃ u0, v14 = .tuple #[u0, .int .i64 0] ∧ RO bO wq u0 ((Rat.divInt (q.num * (r.den : Int)) (r.num * (q.den : Int)))) := r14
      obtain ⟨u0, rfl, h0⟩ := r14
      exact vc hK (by go_simp) (fun w2 h2 => rfl)
    exact AllOps.nil
  intro V x6 hG hV hap
  have r5 : RowV x6 (V 5) [q.num, (r.den : Int)] := hV 5 (by decide)
  have r6 : ZV x6 (V 6) ((q.num * (r.den : Int))) := hV 6 (by decide)
  have r15 : RO bO x6 (V 15) ((Rat.divInt (q.num * (r.den : Int)) (r.num * (q.den : Int)))) := hV 15 (by decide)
  have r16 : (V 16) = .int .i64 0 := hV 16 (by decide)
  clear hV hap
  simp only [List.take_succ_cons, List.take_zero, List.drop_succ_cons, List.drop_zero, putAll, Act.put, List.setIfInBounds_toArray, List.set_cons_zero, List.set_cons_succ]
  have hb := grows_of hG
  obtain ⟨nR, AR, kR, cR, BR, jR, dR, y9, eR, ey, hQ, HQ, c0, c1, c2⟩ := ret3o r15 (DR.out.below hb) (HB.out.trans (Below.mono hb HB.out.size)) (by omega)
  simp only [eR, r16]
  refine wpList_of_skip rfl (op_store3 4 25 _ rfl rfl (DR.out.below hb)) ?_
  rw [ey]
  clear eR ey hb hG HB DR r16
  go_wp2_with fail
  refine bodyPost_ret (v := .tuple #[.agg #[.bool nR, .slice AR kR cR, .slice BR jR dR], .int .i64 0]) (by simp [results, Tryz.results13, go_sem, c0, c1, c2]) rfl ⟨_, rfl, ⟨_, rfl, (RO.to hQ (div_parts q r))⟩, HQ⟩
set_option maxHeartbeats 16000000 in
set_option maxRecDepth 100000 in
theorem qdivn_o (w : World) {bO : Nat} (hB : bO ≤ w.heap.size) {u v : Value} {q r : Rat} (h0 : QV w u q) (h1 : QV w v r) (hqs : Qsz q 300) (hrs : Qsz r 300) (hr0 : r.num < 0) : Calls Tryz.prog 13 #[u, v] w fun e w' => ∃ y, e = .returned y ∧ (∃ x, y = .tuple #[x, .int .i64 0] ∧ RO bO w' x (q / r)) ∧ Grows w w' := by
  obtain ⟨n0, A0, k0, c0, B0, j0, d0, rfl, z0, l0, a0, s0, t0, hl0, e0⟩ := h0
  have hk0 : szz z0 ≤ 1000 := s0.size
  obtain ⟨n1, A1, k1, c1, B1, j1, d1, rfl, z1, l1, a1, s1, t1, hl1, e1⟩ := h1
  have hk1 : szz z1 ≤ 1000 := s1.size
  go_enter Tryz.func13, Tryz.ntmps13
  go_upto_region 1 with fail
  obtain ⟨x0, ex0, HB, D0, D1, DR⟩ := st_333 w 26 (.bool n0) (.slice A0 k0 c0) (.slice B0 j0 d0) 26 (.bool n1) (.slice A1 k1 c1) (.slice B1 j1 d1) 26 (.bool false) (.slice none 0 0) (.slice none 0 0)
  rw [ex0]
  clear ex0
  replace HB := Lib.hid HB
  replace D0 := Lib.hid D0
  replace D1 := Lib.hid D1
  replace DR := Lib.hid DR
  have SN0 := Lib.hid (s0.below HB.out)
  clear s0
  have SD0 := Lib.hid (t0.below HB.out)
  clear t0
  have SN1 := Lib.hid (s1.below HB.out)
  clear s1
  have SD1 := Lib.hid (t1.below HB.out)
  clear t1
  refine wp_region_going 4 [] ([fun vq wq => QV wq vq q,
      fun vq wq => RV wq vq q,
      fun vq wq => QV wq vq r,
      fun vq wq => RV wq vq r]) (by kernel_rfl) (by kernel_rfl) (by decide) (by kernel_rfl) (by kernel_rfl) ?_ ?_ ?_
  · intro j hj; cases hj
  · refine po rfl (fun lq aq wq hk hr K hK => ?_) ?_
    · have B2 : ev aq (.tmp 2) = .pointer (some ⟨w.heap.size, 0, none⟩) := hk.base 2 (by kernel_rfl) rfl
      have hb := grows_of hk.ext
      exact vc hK (op_load3 2 _ B2 (D0.out.below hb)) (fun w2 h2 => QV.grow ⟨_, _, _, _, _, _, _, rfl, _, _, _, (SN0.out.below hb), (SD0.out.below hb), hl0, e0⟩ h2)
    refine po rfl (fun lq aq wq hk hr K hK => ?_) ?_
    · obtain ⟨v0, E0, r0⟩ := hk.dp hr 0 6 (by kernel_rfl)
      have r0 : QV wq v0 q := r0
      exact yc hK (by go_simp) (made_v wq r0) (fun u w1 hu w2 h2 => (hu).grow h2)
    refine po rfl (fun lq aq wq hk hr K hK => ?_) ?_
    · have B3 : ev aq (.tmp 3) = .pointer (some ⟨w.heap.size + 1, 0, none⟩) := hk.base 3 (by kernel_rfl) rfl
      have hb := grows_of hk.ext
      exact vc hK (op_load3 3 _ B3 (D1.out.below hb)) (fun w2 h2 => QV.grow ⟨_, _, _, _, _, _, _, rfl, _, _, _, (SN1.out.below hb), (SD1.out.below hb), hl1, e1⟩ h2)
    refine po rfl (fun lq aq wq hk hr K hK => ?_) ?_
    · obtain ⟨v2, E2, r2⟩ := hk.dp hr 2 8 (by kernel_rfl)
      have r2 : QV wq v2 r := r2
      exact yc hK (by go_simp) (made_v wq r2) (fun u w1 hu w2 h2 => (hu).grow h2)
    exact AllOps.nil
  intro V x1 hG hV hap
  have r1 : RV x1 (V 1) q := hV 1 (by decide)
  have r3 : RV x1 (V 3) r := hV 3 (by decide)
  clear hV hap
  simp only [List.take_succ_cons, List.take_zero, List.drop_succ_cons, List.drop_zero, putAll, Act.put, List.setIfInBounds_toArray, List.set_cons_zero, List.set_cons_succ]
  have hb := grows_of hG
  obtain ⟨nm2, Am2, km2, cm2, Bm2, jm2, dm2, em2, sm2, tm2, hdm2⟩ := r1
  simp only [em2]
  clear em2
  obtain ⟨nm3, Am3, km3, cm3, Bm3, jm3, dm3, em3, sm3, tm3, hdm3⟩ := r3
  simp only [em3]
  clear em3
  clear hG
  replace D0 := D0.out.below hb
  refine wpList_of_skip rfl (op_store3 2 7 _ rfl rfl D0) ?_
  replace D1 := Lib.hid (put3_far (x' := .bool nm2) (y' := .slice Am2 km2 cm2) (z' := .slice Bm2 jm2 dm2) (D1.out.below hb) (show w.heap.size + 1 ≠ w.heap.size by omega))
  replace SN1 := Lib.hid ((SN1.out.below hb).put3 D0 (.bool nm2) (.slice Am2 km2 cm2) (.slice Bm2 jm2 dm2))
  replace SD1 := Lib.hid ((SD1.out.below hb).put3 D0 (.bool nm2) (.slice Am2 km2 cm2) (.slice Bm2 jm2 dm2))
  replace DR := Lib.hid (put3_far (x' := .bool nm2) (y' := .slice Am2 km2 cm2) (z' := .slice Bm2 jm2 dm2) (DR.out.below hb) (show w.heap.size + 1 + 1 ≠ w.heap.size by omega))
  replace sm3 := sm3.put3 D0 (.bool nm2) (.slice Am2 km2 cm2) (.slice Bm2 jm2 dm2)
  replace tm3 := tm3.put3 D0 (.bool nm2) (.slice Am2 km2 cm2) (.slice Bm2 jm2 dm2)
  replace SN0 := Lib.hid (sm2.put3 D0 (.bool nm2) (.slice Am2 km2 cm2) (.slice Bm2 jm2 dm2))
  replace SD0 := Lib.hid (tm2.put3 D0 (.bool nm2) (.slice Am2 km2 cm2) (.slice Bm2 jm2 dm2))
  replace HB := Lib.hid (put3_below (x' := .bool nm2) (y' := .slice Am2 km2 cm2) (z' := .slice Bm2 jm2 dm2) (HB.out.trans (Below.mono hb HB.out.size)) (show w.heap.size ≤ w.heap.size by omega))
  replace D0 := Lib.hid (put3_own (x' := .bool nm2) (y' := .slice Am2 km2 cm2) (z' := .slice Bm2 jm2 dm2) D0)
  clear hb sm2 tm2
  generalize put3 x1 w.heap.size (.bool nm2) (.slice Am2 km2 cm2) (.slice Bm2 jm2 dm2) = y4 at *
  have hb := Below.refl (y4).heap.size (y4)
  replace D1 := D1.out.below hb
  refine wpList_of_skip rfl (op_store3 3 9 _ rfl rfl D1) ?_
  replace D0 := Lib.hid (put3_far (x' := .bool nm3) (y' := .slice Am3 km3 cm3) (z' := .slice Bm3 jm3 dm3) (D0.out.below hb) (show w.heap.size ≠ w.heap.size + 1 by omega))
  replace SN0 := Lib.hid ((SN0.out.below hb).put3 D1 (.bool nm3) (.slice Am3 km3 cm3) (.slice Bm3 jm3 dm3))
  replace SD0 := Lib.hid ((SD0.out.below hb).put3 D1 (.bool nm3) (.slice Am3 km3 cm3) (.slice Bm3 jm3 dm3))
  replace DR := Lib.hid (put3_far (x' := .bool nm3) (y' := .slice Am3 km3 cm3) (z' := .slice Bm3 jm3 dm3) (DR.out.below hb) (show w.heap.size + 1 + 1 ≠ w.heap.size + 1 by omega))
  replace SN1 := Lib.hid (sm3.put3 D1 (.bool nm3) (.slice Am3 km3 cm3) (.slice Bm3 jm3 dm3))
  replace SD1 := Lib.hid (tm3.put3 D1 (.bool nm3) (.slice Am3 km3 cm3) (.slice Bm3 jm3 dm3))
  replace HB := Lib.hid (put3_below (x' := .bool nm3) (y' := .slice Am3 km3 cm3) (z' := .slice Bm3 jm3 dm3) (HB.out.trans (Below.mono hb HB.out.size)) (show w.heap.size ≤ w.heap.size + 1 by omega))
  replace D1 := Lib.hid (put3_own (x' := .bool nm3) (y' := .slice Am3 km3 cm3) (z' := .slice Bm3 jm3 dm3) D1)
  clear hb sm3 tm3
  generalize put3 y4 (w.heap.size + 1) (.bool nm3) (.slice Am3 km3 cm3) (.slice Bm3 jm3 dm3) = y5 at *
  obtain ⟨hp1, hp2, _⟩ := hqs.parts hrs (by decide)
  have hsd : szz (r.den : Int) ≤ 1000 := by unfold szz; rw [Int.natAbs_natCast]; exact Nat.le_trans hrs.2 (by decide)
  have hse : szz (q.den : Int) ≤ 1000 := by unfold szz; rw [Int.natAbs_natCast]; exact Nat.le_trans hqs.2 (by decide)
  have hqd : (0 : Int) < (q.den : Int) := by have := q.den_pos; omega
  have hy : r.num * (q.den : Int) < 0 := Int.mul_neg_of_neg_of_pos hr0 hqd
  go_upto_region 2 with fail
  refine wp_region_going 17 [] ([fun vq _ => vq = .pointer (some ⟨w.heap.size, 0, none⟩),
      fun vq wq => ZV wq vq q.num,
      fun vq _ => vq = .pointer (some ⟨w.heap.size + 1, 2, none⟩),
      fun vq _ => vq = .slice Bm3 jm3 dm3,
      fun vq wq => ZV wq vq ((r.den : Int)),
      fun vq wq => RowV wq vq [q.num, (r.den : Int)],
      fun vq wq => ZV wq vq ((q.num * (r.den : Int))),
      fun vq _ => vq = .pointer (some ⟨w.heap.size + 1, 0, none⟩),
      fun vq wq => ZV wq vq r.num,
      fun vq _ => vq = .pointer (some ⟨w.heap.size, 2, none⟩),
      fun vq _ => vq = .slice Bm2 jm2 dm2,
      fun vq wq => ZV wq vq ((q.den : Int)),
      fun vq wq => RowV wq vq [r.num, (q.den : Int)],
      fun vq wq => ZV wq vq ((r.num * (q.den : Int))),
      fun vq wq => ∃ u0, vq = .tuple #[u0, .int .i64 0] ∧ RO bO wq u0 ((Rat.divInt (q.num * (r.den : Int)) (r.num * (q.den : Int)))),
      fun vq wq => RO bO wq vq ((Rat.divInt (q.num * (r.den : Int)) (r.num * (q.den : Int)))),
      fun vq _ => vq = .int .i64 0]) (by kernel_rfl) (by kernel_rfl) (by decide) (by kernel_rfl) (by kernel_rfl) ?_ ?_ ?_
  · intro j hj; cases hj
  · refine po rfl (fun lq aq wq hk hr K hK => ?_) ?_
    · have B2 : ev aq (.tmp 2) = .pointer (some ⟨w.heap.size, 0, none⟩) := hk.base 2 (by kernel_rfl) rfl
      exact vc hK (by go_simp) (fun w2 h2 => rfl)
    refine po rfl (fun lq aq wq hk hr K hK => ?_) ?_
    · have E0 : ev aq (.tmp 10) = .pointer (some ⟨w.heap.size, 0, none⟩) := hk.dc hr 0 (by kernel_rfl) fun _ _ h => h
      have hb := grows_of hk.ext
      exact vc hK (op_loadN 10 _ E0 (D0.out.below hb)) (fun w2 h2 => ⟨_, _, _, _, rfl, (SN0.out.below hb).below h2⟩)
    refine po rfl (fun lq aq wq hk hr K hK => ?_) ?_
    · have B3 : ev aq (.tmp 3) = .pointer (some ⟨w.heap.size + 1, 0, none⟩) := hk.base 3 (by kernel_rfl) rfl
      exact vc hK (by go_simp) (fun w2 h2 => rfl)
    refine po rfl (fun lq aq wq hk hr K hK => ?_) ?_
    · have E2 : ev aq (.tmp 12) = .pointer (some ⟨w.heap.size + 1, 2, none⟩) := hk.dc hr 2 (by kernel_rfl) fun _ _ h => h
      have hb := grows_of hk.ext
      have c2 := (D1.out.below hb).c2
      exact vc hK (by go_simp) (fun w2 h2 => rfl)
    refine po rfl (fun lq aq wq hk hr K hK => ?_) ?_
    · have E3 : ev aq (.tmp 13) = .slice Bm3 jm3 dm3 := hk.dc hr 3 (by kernel_rfl) fun _ _ h => h
      exact yc hK (by go_simp) (of_v wq false (SD1.out.below (grows_of hk.ext)).lv (sg_false _) hsd) (fun u w1 hu w2 h2 => (hu).grow h2)
    refine po rfl (fun lq aq wq hk hr K hK => ?_) ?_
    · obtain ⟨v1, E1, r1⟩ := hk.dp hr 1 11 (by kernel_rfl)
      have r1 : ZV wq v1 q.num := r1
      obtain ⟨n1, A1, k1, c1, rfl, s1⟩ := r1
      obtain ⟨v4, E4, r4⟩ := hk.dp hr 4 14 (by kernel_rfl)
      have r4 : ZV wq v4 ((r.den : Int)) := r4
      obtain ⟨n4, A4, k4, c4, rfl, s4⟩ := r4
      exact wp_of_value (op_row2 11 14 E1 E4) (hK.out _ _ ((Grows.refl _).alloc _) (fun w2 h2 => (RowV.two s1.whole s4.whole).grow h2) (fun h => absurd h (by decide)))
    refine po rfl (fun lq aq wq hk hr K hK => ?_) ?_
    · obtain ⟨v5, E5, r5⟩ := hk.dp hr 5 15 (by kernel_rfl)
      have r5 : RowV wq v5 [q.num, (r.den : Int)] := r5
      exact yc hK (by go_simp) (mul2_v wq r5 SN0.out.short hp1) (fun u w1 hu w2 h2 => (hu).grow h2)
    refine po rfl (fun lq aq wq hk hr K hK => ?_) ?_
    · have B3 : ev aq (.tmp 3) = .pointer (some ⟨w.heap.size + 1, 0, none⟩) := hk.base 3 (by kernel_rfl) rfl
      exact vc hK (by go_simp) (fun w2 h2 => rfl)
    refine po rfl (fun lq aq wq hk hr K hK => ?_) ?_
    · have E7 : ev aq (.tmp 17) = .pointer (some ⟨w.heap.size + 1, 0, none⟩) := hk.dc hr 7 (by kernel_rfl) fun _ _ h => h
      have hb := grows_of hk.ext
      exact vc hK (op_loadN 17 _ E7 (D1.out.below hb)) (fun w2 h2 => ⟨_, _, _, _, rfl, (SN1.out.below hb).below h2⟩)
    refine po rfl (fun lq aq wq hk hr K hK => ?_) ?_
    · have B2 : ev aq (.tmp 2) = .pointer (some ⟨w.heap.size, 0, none⟩) := hk.base 2 (by kernel_rfl) rfl
      exact vc hK (by go_simp) (fun w2 h2 => rfl)
    refine po rfl (fun lq aq wq hk hr K hK => ?_) ?_
    · have E9 : ev aq (.tmp 19) = .pointer (some ⟨w.heap.size, 2, none⟩) := hk.dc hr 9 (by kernel_rfl) fun _ _ h => h
      have hb := grows_of hk.ext
      have c2 := (D0.out.below hb).c2
      exact vc hK (by go_simp) (fun w2 h2 => rfl)
    refine po rfl (fun lq aq wq hk hr K hK => ?_) ?_
    · have E10 : ev aq (.tmp 20) = .slice Bm2 jm2 dm2 := hk.dc hr 10 (by kernel_rfl) fun _ _ h => h
      exact yc hK (by go_simp) (of_v wq false (SD0.out.below (grows_of hk.ext)).lv (sg_false _) hse) (fun u w1 hu w2 h2 => (hu).grow h2)
    refine po rfl (fun lq aq wq hk hr K hK => ?_) ?_
    · obtain ⟨v8, E8, r8⟩ := hk.dp hr 8 18 (by kernel_rfl)
      have r8 : ZV wq v8 r.num := r8
      obtain ⟨n8, A8, k8, c8, rfl, s8⟩ := r8
      obtain ⟨v11, E11, r11⟩ := hk.dp hr 11 21 (by kernel_rfl)
      have r11 : ZV wq v11 ((q.den : Int)) := r11
      obtain ⟨n11, A11, k11, c11, rfl, s11⟩ := r11
      exact wp_of_value (op_row2 18 21 E8 E11) (hK.out _ _ ((Grows.refl _).alloc _) (fun w2 h2 => (RowV.two s8.whole s11.whole).grow h2) (fun h => absurd h (by decide)))
    refine po rfl (fun lq aq wq hk hr K hK => ?_) ?_
    · obtain ⟨v12, E12, r12⟩ := hk.dp hr 12 22 (by kernel_rfl)
      have r12 : RowV wq v12 [r.num, (q.den : Int)] := r12
      exact yc hK (by go_simp) (mul2_v wq r12 SN1.out.short hp2) (fun u w1 hu w2 h2 => (hu).grow h2)
    refine po rfl (fun lq aq wq hk hr K hK => ?_) ?_
    · obtain ⟨v6, E6, r6⟩ := hk.dp hr 6 16 (by kernel_rfl)
      have r6 : ZV wq v6 ((q.num * (r.den : Int))) := r6
      obtain ⟨v13, E13, r13⟩ := hk.dp hr 13 23 (by kernel_rfl)
      have r13 : ZV wq v13 ((r.num * (q.den : Int))) := r13
      exact yc hK (by go_simp) (qofn_o wq (low hB HB.out (grows_of hk.ext)) (r6).wv (r13).wv hy) (fun u w1 hu w2 h2 => (let ⟨u0, e0, h0⟩ := hu; ⟨u0, e0, (h0).grow h2⟩))
    refine po rfl (fun lq aq wq hk hr K hK => ?_) ?_
    · obtain ⟨v14, E14, r14⟩ := hk.dp hr 14 24 (by kernel_rfl)
      have r14 : ∃ u0, v14 = .tuple #[u0, .int .i64 0] ∧ RO bO wq u0 ((Rat.divInt (q.num * (r.den : Int)) (r.num * (q.den : Int)))) := r14
      obtain ⟨u0, rfl, h0⟩ := r14
      exact vc hK (by go_simp) (fun w2 h2 => (h0).grow h2)
    refine po rfl (fun lq aq wq hk hr K hK => ?_) ?_
    · obtain ⟨v14, E14, r14⟩ := hk.dp hr 14 24 (by kernel_rfl)
      have r14 : ∃ u0, v14 = .tuple #[u0, .int .i64 0] ∧ RO bO wq u0 ((Rat.divInt (q.num * (r.den : Int)) (r.num * (q.den : Int)))) := r14
      obtain ⟨u0, rfl, h0⟩ := r14
      exact vc hK (by go_simp) (fun w2 h2 => rfl)
    exact AllOps.nil
  intro V x6 hG hV hap
  have r5 : RowV x6 (V 5) [q.num, (r.den : Int)] := hV 5 (by decide)
  have r6 : ZV x6 (V 6) ((q.num * (r.den : Int))) := hV 6 (by decide)
  have r15 : RO bO x6 (V 15) ((Rat.divInt (q.num * (r.den : Int)) (r.num * (q.den : Int)))) := hV 15 (by decide)
  have r16 : (V 16) = .int .i64 0 := hV 16 (by decide)
  clear hV hap
  simp only [List.take_succ_cons, List.take_zero, List.drop_succ_cons, List.drop_zero, putAll, Act.put, List.setIfInBounds_toArray, List.set_cons_zero, List.set_cons_succ]
  have hb := grows_of hG
  obtain ⟨nR, AR, kR, cR, BR, jR, dR, y9, eR, ey, hQ, HQ, c0, c1, c2⟩ := ret3o r15 (DR.out.below hb) (HB.out.trans (Below.mono hb HB.out.size)) (by omega)
  simp only [eR, r16]
  refine wpList_of_skip rfl (op_store3 4 25 _ rfl rfl (DR.out.below hb)) ?_
  rw [ey]
  clear eR ey hb hG HB DR r16
  go_wp2_with fail
  refine bodyPost_ret (v := .tuple #[.agg #[.bool nR, .slice AR kR cR, .slice BR jR dR], .int .i64 0]) (by simp [results, Tryz.results13, go_sem, c0, c1, c2]) rfl ⟨_, rfl, ⟨_, rfl, (RO.to hQ (div_parts q r))⟩, HQ⟩
theorem qdiv_o (w : World) {bO : Nat} (hB : bO ≤ w.heap.size) {u v : Value} {q r : Rat} (h0 : QV w u q) (h1 : QV w v r) (hqs : Qsz q 300) (hrs : Qsz r 300) : Calls Tryz.prog 13 #[u, v] w fun e w' => ∃ y, e = .returned y ∧ (∃ x k p, y = .tuple #[x, .int .i64 k] ∧ RO bO w' x p) ∧ Grows w w' := by
  rcases Int.lt_trichotomy r.num 0 with h | h | h
  · exact (qdivn_o w hB h0 h1 hqs hrs h).mono fun _ _ ⟨y, e, ⟨x, e2, hx⟩, g⟩ => ⟨y, e, ⟨x, _, _, e2, hx⟩, g⟩
  · exact (qdiv0_o w hB h0 h1 hqs hrs h).mono fun _ _ ⟨y, e, ⟨x, e2, hx⟩, g⟩ => ⟨y, e, ⟨x, _, _, e2, hx⟩, g⟩
  · exact (qdivp_o w hB h0 h1 hqs hrs h).mono fun _ _ ⟨y, e, ⟨x, e2, hx⟩, g⟩ => ⟨y, e, ⟨x, _, _, e2, hx⟩, g⟩
end Go.Proofs.YtbippecchpaleaaGreatDoor
