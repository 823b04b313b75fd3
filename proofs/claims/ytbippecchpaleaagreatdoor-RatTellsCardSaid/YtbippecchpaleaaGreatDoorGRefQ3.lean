import Derived.Test.YtbippecchpaleaaGreatDoorGRatS
import Derived.Test.YtbippecchpaleaaGreatDoorGRefQ2
/- litmusref03.Right: what it returns. -/
namespace Go.Proofs.YtbippecchpaleaaGreatDoor
open Go.RowKit Go.Num Go.Kp
attribute [local go_sem] Oper.semAt_some u64_mask ev_const ev_func ev_global
set_option maxHeartbeats 16000000 in
set_option maxRecDepth 100000 in
theorem rright_v (w : World) {u : Value} {n : Bool} {l m : List Nat} {t : Bool} (h0 : QL w u n l m) (ht : lright n l m = t) : Calls Tryz.prog 19 #[u] w fun e w' => ∃ r, e = .returned r ∧ r = .bool t ∧ Grows w w' := by
  obtain ⟨A0, c0, B0, d0, rfl, s0, t0, hl0, hm0⟩ := h0
  have hk0 : szz (sg n (val l)) ≤ 1000 := by unfold szz; rw [sg_natAbs]; exact Nat.le_trans (sz_num s0) hl0
  go_enter Tryz.func19, Tryz.ntmps19
  go_upto_region 1 with fail
  obtain ⟨x0, ex0, HB, D0⟩ := st_3 w 26 (.bool n) (.slice A0 l.length c0) (.slice B0 m.length d0)
  rw [ex0]
  clear ex0
  replace HB := Lib.hid HB
  replace D0 := Lib.hid D0
  have SN0 := Lib.hid (s0.below HB.out)
  clear s0
  have SD0 := Lib.hid (t0.below HB.out)
  clear t0
  refine wp_region_going 4 [] ([fun vq wq => QL wq vq n l m,
      fun vq wq => QL wq vq n l m,
      fun vq wq => RV wq vq ((lrat n l m)),
      fun vq _ => vq = .bool t]) (by kernel_rfl) (by kernel_rfl) (by decide) (by kernel_rfl) (by kernel_rfl) ?_ ?_ ?_
  · intro j hj; cases hj
  · refine po rfl (fun lq aq wq hk hr K hK => ?_) ?_
    · have B1 : ev aq (.tmp 1) = .pointer (some ⟨w.heap.size, 0, none⟩) := hk.base 1 (by kernel_rfl) rfl
      have hb := grows_of hk.ext
      exact vc hK (op_load3 1 _ B1 (D0.out.below hb)) (fun w2 h2 => QL.grow ⟨_, _, _, _, rfl, (SN0.out.below hb), (SD0.out.below hb), hl0, hm0⟩ h2)
    refine po rfl (fun lq aq wq hk hr K hK => ?_) ?_
    · have B1 : ev aq (.tmp 1) = .pointer (some ⟨w.heap.size, 0, none⟩) := hk.base 1 (by kernel_rfl) rfl
      have hb := grows_of hk.ext
      exact vc hK (op_load3 1 _ B1 (D0.out.below hb)) (fun w2 h2 => QL.grow ⟨_, _, _, _, rfl, (SN0.out.below hb), (SD0.out.below hb), hl0, hm0⟩ h2)
    refine po rfl (fun lq aq wq hk hr K hK => ?_) ?_
    · obtain ⟨v1, E1, r1⟩ := hk.dp hr 1 4 (by kernel_rfl)
      have r1 : QL wq v1 n l m := r1
      exact yc hK (by go_simp) (rmadeQ_v wq (r1).qv) (fun u w1 hu w2 h2 => (hu).grow h2)
    refine po rfl (fun lq aq wq hk hr K hK => ?_) ?_
    · obtain ⟨v0, E0, r0⟩ := hk.dp hr 0 3 (by kernel_rfl)
      have r0 : QL wq v0 n l m := r0
      obtain ⟨v2, E2, r2⟩ := hk.dp hr 2 5 (by kernel_rfl)
      have r2 : RV wq v2 ((lrat n l m)) := r2
      exact yc hK (by go_simp) (rsameL_v wq r0 (r2).ql ht) (fun u w1 hu w2 h2 => hu)
    exact AllOps.nil
  intro V x1 hG hV hap
  have r0 : QL x1 (V 0) n l m := hV 0 (by decide)
  have r3 : (V 3) = .bool t := hV 3 (by decide)
  clear hV hap
  simp only [List.take_succ_cons, List.take_zero, List.drop_succ_cons, List.drop_zero, putAll, Act.put, List.setIfInBounds_toArray, List.set_cons_zero, List.set_cons_succ]
  have hb := grows_of hG
  replace D0 := Lib.hid (D0.out.below hb)
  replace SN0 := Lib.hid (SN0.out.below hb)
  replace SD0 := Lib.hid (SD0.out.below hb)
  replace HB := Lib.hid (HB.out.trans (Below.mono hb HB.out.size))
  clear hb hG
  rw [r3]
  clear r3

  go_wp2_with fail
  go_ret
  exact ⟨_, rfl, rfl, HB.out⟩
end Go.Proofs.YtbippecchpaleaaGreatDoor
/- litmusref03.Neg, Add, Sub, Mul, Div: what each returns. -/
namespace Go.Num
open Go Go.RowKit Go.Kp
theorem QL.qp {w : World} {v : Value} {n : Bool} {l m : List Nat} (h : QL w v n l m) : QP w v (sg n (val l)) (val m) := by
  obtain ⟨A, c, B, d, e, h1, h2, h3, h4⟩ := h
  exact ⟨n, A, _, c, B, _, d, m, e, ⟨l, _, h1, h3, rfl⟩, h2, h4⟩
theorem RV.qp {w : World} {v : Value} {q : Rat} (h : RV w v q) : QP w v q.num q.den := by
  obtain ⟨n, A, k, c, B, j, d, e, h1, h2, h3⟩ := h
  exact ⟨n, A, k, c, B, j, d, _, e, h1.whole, h2, h3⟩
/-- How long the parts are. -/
def Psz (z : Int) (a k : Nat) : Prop := szz z ≤ k ∧ sz a ≤ k
theorem neg_mk (z : Int) (a : Nat) : Rat.divInt (-z) ((dn a : Nat) : Int) = -mkRat z (dn a) := by
  rw [Rat.neg_mkRat]; rfl
theorem cast_dn (a b : Nat) : ((dn a : Nat) : Int) * ((dn b : Nat) : Int) = ((dn a * dn b : Nat) : Int) := (Int.natCast_mul _ _).symm
theorem add_mk (z y : Int) (a b : Nat) : Rat.divInt (z * ((dn b : Nat) : Int) + y * ((dn a : Nat) : Int)) (((dn a : Nat) : Int) * ((dn b : Nat) : Int)) = mkRat z (dn a) + mkRat y (dn b) := by
  rw [Rat.mkRat_add_mkRat _ _ (dn_ne a) (dn_ne b), cast_dn]; rfl
theorem mul_mk (z y : Int) (a b : Nat) : Rat.divInt (z * y) (((dn a : Nat) : Int) * ((dn b : Nat) : Int)) = mkRat z (dn a) * mkRat y (dn b) := by
  rw [Rat.mkRat_mul_mkRat, cast_dn]; rfl
theorem div_mk (z y : Int) (a b : Nat) : Rat.divInt (z * ((dn b : Nat) : Int)) (((dn a : Nat) : Int) * y) = mkRat z (dn a) / mkRat y (dn b) := by
  rw [Rat.div_def, show mkRat y (dn b) = Rat.divInt y ((dn b : Nat) : Int) from rfl, Rat.inv_divInt, show mkRat z (dn a) = Rat.divInt z ((dn a : Nat) : Int) from rfl, Rat.divInt_mul_divInt]
theorem sub_mk (q r : Rat) : q + -r = q - r := (Rat.sub_eq_add_neg q r).symm
theorem mk_own (q : Rat) : mkRat q.num (dn q.den) = q := by rw [dn_of_pos q.den_pos, Rat.mkRat_self]
theorem Psz.mk {z : Int} {a k : Nat} (h : Psz z a k) (hk : 1 ≤ k) : Qsz (mkRat z (dn a)) k := mkRat_sz (dn_ne a) h.1 (by have := dn_sz h.2 hk; unfold szz at this; rwa [Int.natAbs_natCast] at this)
end Go.Num
namespace Go.Proofs.YtbippecchpaleaaGreatDoor
open Go.RowKit Go.Num Go.Kp
attribute [local go_sem] Oper.semAt_some u64_mask ev_const ev_func ev_global
set_option maxHeartbeats 4000000 in
set_option maxRecDepth 100000 in
theorem rnegP_v (w : World) {u : Value} {z : Int} {a : Nat} (h0 : QP w u z a) : Calls Tryz.prog 21 #[u] w fun e w' => ∃ r, e = .returned r ∧ RV w' r (-mkRat z (dn a)) ∧ Grows w w' := by
  obtain ⟨n0, A0, k0, c0, B0, j0, d0, l0, rfl, s0, t0, hl0⟩ := h0
  have hk0 : szz z ≤ 1000 := s0.size
  go_enter Tryz.func21, Tryz.ntmps21
  go_upto_region 1 with fail
  obtain ⟨x0, ex0, HB, D0, DR⟩ := st_33 w 26 (.bool n0) (.slice A0 k0 c0) (.slice B0 j0 d0) 26 (.bool false) (.slice none 0 0) (.slice none 0 0)
  rw [ex0]
  clear ex0
  replace HB := Lib.hid HB
  replace D0 := Lib.hid D0
  replace DR := Lib.hid DR
  have SN0 := Lib.hid (s0.below HB.out)
  clear s0
  have SD0 := Lib.hid (t0.below HB.out)
  clear t0
  have hNa : ((dn a : Nat) : Int) ≠ 0 := by have := dn_pos a; omega
  refine wp_region_going 6 [] ([fun vq _ => vq = .pointer (some ⟨w.heap.size, 0, none⟩),
      fun vq wq => WV wq vq z,
      fun vq wq => ZV wq vq ((-z)),
      fun vq wq => QP wq vq z a,
      fun vq wq => WV wq vq (((dn a : Nat) : Int)),
      fun vq wq => RV wq vq ((Rat.divInt (-z) ((dn a : Nat) : Int)))]) (by kernel_rfl) (by kernel_rfl) (by decide) (by kernel_rfl) (by kernel_rfl) ?_ ?_ ?_
  · intro j hj; cases hj
  · refine po rfl (fun lq aq wq hk hr K hK => ?_) ?_
    · have B1 : ev aq (.tmp 1) = .pointer (some ⟨w.heap.size, 0, none⟩) := hk.base 1 (by kernel_rfl) rfl
      exact vc hK (by go_simp) (fun w2 h2 => rfl)
    refine po rfl (fun lq aq wq hk hr K hK => ?_) ?_
    · have E0 : ev aq (.tmp 3) = .pointer (some ⟨w.heap.size, 0, none⟩) := hk.dc hr 0 (by kernel_rfl) fun _ _ h => h
      have hb := grows_of hk.ext
      exact vc hK (op_loadN 3 _ E0 (D0.out.below hb)) (fun w2 h2 => ⟨_, _, _, _, rfl, (SN0.out.below hb).below h2⟩)
    refine po rfl (fun lq aq wq hk hr K hK => ?_) ?_
    · obtain ⟨v1, E1, r1⟩ := hk.dp hr 1 4 (by kernel_rfl)
      have r1 : WV wq v1 z := r1
      exact yc hK (by go_simp) (less_v wq r1) (fun u w1 hu w2 h2 => (hu).grow h2)
    refine po rfl (fun lq aq wq hk hr K hK => ?_) ?_
    · have B1 : ev aq (.tmp 1) = .pointer (some ⟨w.heap.size, 0, none⟩) := hk.base 1 (by kernel_rfl) rfl
      have hb := grows_of hk.ext
      exact vc hK (op_load3 1 _ B1 (D0.out.below hb)) (fun w2 h2 => QP.grow ⟨_, _, _, _, _, _, _, _, rfl, (SN0.out.below hb), (SD0.out.below hb), hl0⟩ h2)
    refine po rfl (fun lq aq wq hk hr K hK => ?_) ?_
    · obtain ⟨v3, E3, r3⟩ := hk.dp hr 3 6 (by kernel_rfl)
      have r3 : QP wq v3 z a := r3
      exact yc hK (by go_simp) (down_v wq r3) (fun u w1 hu w2 h2 => (hu).grow h2)
    refine po rfl (fun lq aq wq hk hr K hK => ?_) ?_
    · obtain ⟨v2, E2, r2⟩ := hk.dp hr 2 5 (by kernel_rfl)
      have r2 : ZV wq v2 ((-z)) := r2
      obtain ⟨v4, E4, r4⟩ := hk.dp hr 4 7 (by kernel_rfl)
      have r4 : WV wq v4 (((dn a : Nat) : Int)) := r4
      exact yc hK (by go_simp) (rof_v wq (r2).wv r4 hNa) (fun u w1 hu w2 h2 => (hu).grow h2)
    exact AllOps.nil
  intro V x1 hG hV hap
  have r2 : ZV x1 (V 2) ((-z)) := hV 2 (by decide)
  have r5 : RV x1 (V 5) ((Rat.divInt (-z) ((dn a : Nat) : Int))) := hV 5 (by decide)
  clear hV hap
  simp only [List.take_succ_cons, List.take_zero, List.drop_succ_cons, List.drop_zero, putAll, Act.put, List.setIfInBounds_toArray, List.set_cons_zero, List.set_cons_succ]
  have hb := grows_of hG
  obtain ⟨nR, AR, kR, cR, BR, jR, dR, y9, eR, ey, hQ, HQ, c0, c1, c2⟩ := ret3 r5 (DR.out.below hb) (HB.out.trans (Below.mono hb HB.out.size)) (by omega)
  simp only [eR]
  refine wpList_of_skip rfl (op_store3 2 8 _ rfl rfl (DR.out.below hb)) ?_
  rw [ey]
  clear eR ey hb hG HB DR
  go_wp2_with fail
  refine bodyPost_ret (v := .agg #[.bool nR, .slice AR kR cR, .slice BR jR dR]) (by simp [results, Tryz.results21, go_sem, c0, c1, c2]) rfl ⟨_, rfl, (RV.to hQ (neg_mk z a)), HQ⟩
set_option maxHeartbeats 16000000 in
set_option maxRecDepth 100000 in
theorem raddP_v (w : World) {u v : Value} {z y : Int} {a b : Nat} (h0 : QP w u z a) (h1 : QP w v y b) (hpa : Psz z a 300) (hpb : Psz y b 300) : Calls Tryz.prog 23 #[u, v] w fun e w' => ∃ r, e = .returned r ∧ RV w' r (mkRat z (dn a) + mkRat y (dn b)) ∧ Grows w w' := by
  obtain ⟨n0, A0, k0, c0, B0, j0, d0, l0, rfl, s0, t0, hl0⟩ := h0
  have hk0 : szz z ≤ 1000 := s0.size
  obtain ⟨n1, A1, k1, c1, B1, j1, d1, l1, rfl, s1, t1, hl1⟩ := h1
  have hk1 : szz y ≤ 1000 := s1.size
  go_enter Tryz.func23, Tryz.ntmps23
  go_upto_region 1 with fail
  obtain ⟨x0, ex0, HB, D0, D1, DR⟩ := st_333 w 26 (.bool n0) (.slice A0 k0 c0) (.slice B0 j0 d0) 26 (.bool n1) (.slice A1 k1 c1) (.slice B1 j1 d1) 26 (.bool false) (.slice none 0 0) (.slice none 0 0)
  rw [ex0]
  clear ex0
  replace HB := Lib.hid HB
  replace D0 := Lib.hid D0
  replace D1 := Lib.hid D1
  replace DR := Lib.hid DR
  have SN0 := Lib.hid (s0.below HB.out)
  clear s0
  have SD0 := Lib.hid (t0.below HB.out)
  clear t0
  have SN1 := Lib.hid (s1.below HB.out)
  clear s1
  have SD1 := Lib.hid (t1.below HB.out)
  clear t1
  have hDa := dn_sz hpa.2 (by decide)
  have hDb := dn_sz hpb.2 (by decide)
  have hzb : szz (z * ((dn b : Nat) : Int)) ≤ 1000 := Nat.le_trans (szz_mul hpa.1 hDb) (by decide)
  have hya : szz (y * ((dn a : Nat) : Int)) ≤ 1000 := Nat.le_trans (szz_mul hpb.1 hDa) (by decide)
  have hay : szz (((dn a : Nat) : Int) * y) ≤ 1000 := Nat.le_trans (szz_mul hDa hpb.1) (by decide)
  have hab : szz (((dn a : Nat) : Int) * ((dn b : Nat) : Int)) ≤ 1000 := Nat.le_trans (szz_mul hDa hDb) (by decide)
  have hzy : szz (z * y) ≤ 1000 := Nat.le_trans (szz_mul hpa.1 hpb.1) (by decide)
  have hpl : szz (z * ((dn b : Nat) : Int) + y * ((dn a : Nat) : Int)) ≤ 1000 := Nat.le_trans (szz_add (szz_mul hpa.1 hDb) (szz_mul hpb.1 hDa)) (by decide)
  have hNa : ((dn a : Nat) : Int) ≠ 0 := by have := dn_pos a; omega
  have hNb : ((dn b : Nat) : Int) ≠ 0 := by have := dn_pos b; omega
  have hNab := Int.mul_ne_zero hNa hNb
  refine wp_region_going 17 [] ([fun vq _ => vq = .pointer (some ⟨w.heap.size, 0, none⟩),
      fun vq wq => WV wq vq z,
      fun vq wq => QP wq vq y b,
      fun vq wq => WV wq vq (((dn b : Nat) : Int)),
      fun vq wq => ZV wq vq ((z * ((dn b : Nat) : Int))),
      fun vq _ => vq = .pointer (some ⟨w.heap.size + 1, 0, none⟩),
      fun vq wq => WV wq vq y,
      fun vq wq => QP wq vq z a,
      fun vq wq => WV wq vq (((dn a : Nat) : Int)),
      fun vq wq => ZV wq vq ((y * ((dn a : Nat) : Int))),
      fun vq wq => ZV wq vq (((z * ((dn b : Nat) : Int)) + (y * ((dn a : Nat) : Int)))),
      fun vq wq => QP wq vq z a,
      fun vq wq => WV wq vq (((dn a : Nat) : Int)),
      fun vq wq => QP wq vq y b,
      fun vq wq => WV wq vq (((dn b : Nat) : Int)),
      fun vq wq => ZV wq vq ((((dn a : Nat) : Int) * ((dn b : Nat) : Int))),
      fun vq wq => RV wq vq ((Rat.divInt ((z * ((dn b : Nat) : Int)) + (y * ((dn a : Nat) : Int))) (((dn a : Nat) : Int) * ((dn b : Nat) : Int))))]) (by kernel_rfl) (by kernel_rfl) (by decide) (by kernel_rfl) (by kernel_rfl) ?_ ?_ ?_
  · intro j hj; cases hj
  · refine po rfl (fun lq aq wq hk hr K hK => ?_) ?_
    · have B2 : ev aq (.tmp 2) = .pointer (some ⟨w.heap.size, 0, none⟩) := hk.base 2 (by kernel_rfl) rfl
      exact vc hK (by go_simp) (fun w2 h2 => rfl)
    refine po rfl (fun lq aq wq hk hr K hK => ?_) ?_
    · have E0 : ev aq (.tmp 5) = .pointer (some ⟨w.heap.size, 0, none⟩) := hk.dc hr 0 (by kernel_rfl) fun _ _ h => h
      have hb := grows_of hk.ext
      exact vc hK (op_loadN 5 _ E0 (D0.out.below hb)) (fun w2 h2 => ⟨_, _, _, _, rfl, (SN0.out.below hb).below h2⟩)
    refine po rfl (fun lq aq wq hk hr K hK => ?_) ?_
    · have B3 : ev aq (.tmp 3) = .pointer (some ⟨w.heap.size + 1, 0, none⟩) := hk.base 3 (by kernel_rfl) rfl
      have hb := grows_of hk.ext
      exact vc hK (op_load3 3 _ B3 (D1.out.below hb)) (fun w2 h2 => QP.grow ⟨_, _, _, _, _, _, _, _, rfl, (SN1.out.below hb), (SD1.out.below hb), hl1⟩ h2)
    refine po rfl (fun lq aq wq hk hr K hK => ?_) ?_
    · obtain ⟨v2, E2, r2⟩ := hk.dp hr 2 7 (by kernel_rfl)
      have r2 : QP wq v2 y b := r2
      exact yc hK (by go_simp) (down_v wq r2) (fun u w1 hu w2 h2 => (hu).grow h2)
    refine po rfl (fun lq aq wq hk hr K hK => ?_) ?_
    · obtain ⟨v1, E1, r1⟩ := hk.dp hr 1 6 (by kernel_rfl)
      have r1 : WV wq v1 z := r1
      obtain ⟨v3, E3, r3⟩ := hk.dp hr 3 8 (by kernel_rfl)
      have r3 : WV wq v3 (((dn b : Nat) : Int)) := r3
      exact yc hK (by go_simp) (times_v wq r1 r3 hzb) (fun u w1 hu w2 h2 => (hu).grow h2)
    refine po rfl (fun lq aq wq hk hr K hK => ?_) ?_
    · have B3 : ev aq (.tmp 3) = .pointer (some ⟨w.heap.size + 1, 0, none⟩) := hk.base 3 (by kernel_rfl) rfl
      exact vc hK (by go_simp) (fun w2 h2 => rfl)
    refine po rfl (fun lq aq wq hk hr K hK => ?_) ?_
    · have E5 : ev aq (.tmp 10) = .pointer (some ⟨w.heap.size + 1, 0, none⟩) := hk.dc hr 5 (by kernel_rfl) fun _ _ h => h
      have hb := grows_of hk.ext
      exact vc hK (op_loadN 10 _ E5 (D1.out.below hb)) (fun w2 h2 => ⟨_, _, _, _, rfl, (SN1.out.below hb).below h2⟩)
    refine po rfl (fun lq aq wq hk hr K hK => ?_) ?_
    · have B2 : ev aq (.tmp 2) = .pointer (some ⟨w.heap.size, 0, none⟩) := hk.base 2 (by kernel_rfl) rfl
      have hb := grows_of hk.ext
      exact vc hK (op_load3 2 _ B2 (D0.out.below hb)) (fun w2 h2 => QP.grow ⟨_, _, _, _, _, _, _, _, rfl, (SN0.out.below hb), (SD0.out.below hb), hl0⟩ h2)
    refine po rfl (fun lq aq wq hk hr K hK => ?_) ?_
    · obtain ⟨v7, E7, r7⟩ := hk.dp hr 7 12 (by kernel_rfl)
      have r7 : QP wq v7 z a := r7
      exact yc hK (by go_simp) (down_v wq r7) (fun u w1 hu w2 h2 => (hu).grow h2)
    refine po rfl (fun lq aq wq hk hr K hK => ?_) ?_
    · obtain ⟨v6, E6, r6⟩ := hk.dp hr 6 11 (by kernel_rfl)
      have r6 : WV wq v6 y := r6
      obtain ⟨v8, E8, r8⟩ := hk.dp hr 8 13 (by kernel_rfl)
      have r8 : WV wq v8 (((dn a : Nat) : Int)) := r8
      exact yc hK (by go_simp) (times_v wq r6 r8 hya) (fun u w1 hu w2 h2 => (hu).grow h2)
    refine po rfl (fun lq aq wq hk hr K hK => ?_) ?_
    · obtain ⟨v4, E4, r4⟩ := hk.dp hr 4 9 (by kernel_rfl)
      have r4 : ZV wq v4 ((z * ((dn b : Nat) : Int))) := r4
      obtain ⟨v9, E9, r9⟩ := hk.dp hr 9 14 (by kernel_rfl)
      have r9 : ZV wq v9 ((y * ((dn a : Nat) : Int))) := r9
      exact yc hK (by go_simp) (plus_v wq (r4).wv (r9).wv hpl) (fun u w1 hu w2 h2 => (hu).grow h2)
    refine po rfl (fun lq aq wq hk hr K hK => ?_) ?_
    · have B2 : ev aq (.tmp 2) = .pointer (some ⟨w.heap.size, 0, none⟩) := hk.base 2 (by kernel_rfl) rfl
      have hb := grows_of hk.ext
      exact vc hK (op_load3 2 _ B2 (D0.out.below hb)) (fun w2 h2 => QP.grow ⟨_, _, _, _, _, _, _, _, rfl, (SN0.out.below hb), (SD0.out.below hb), hl0⟩ h2)
    refine po rfl (fun lq aq wq hk hr K hK => ?_) ?_
    · obtain ⟨v11, E11, r11⟩ := hk.dp hr 11 16 (by kernel_rfl)
      have r11 : QP wq v11 z a := r11
      exact yc hK (by go_simp) (down_v wq r11) (fun u w1 hu w2 h2 => (hu).grow h2)
    refine po rfl (fun lq aq wq hk hr K hK => ?_) ?_
    · have B3 : ev aq (.tmp 3) = .pointer (some ⟨w.heap.size + 1, 0, none⟩) := hk.base 3 (by kernel_rfl) rfl
      have hb := grows_of hk.ext
      exact vc hK (op_load3 3 _ B3 (D1.out.below hb)) (fun w2 h2 => QP.grow ⟨_, _, _, _, _, _, _, _, rfl, (SN1.out.below hb), (SD1.out.below hb), hl1⟩ h2)
    refine po rfl (fun lq aq wq hk hr K hK => ?_) ?_
    · obtain ⟨v13, E13, r13⟩ := hk.dp hr 13 18 (by kernel_rfl)
      have r13 : QP wq v13 y b := r13
      exact yc hK (by go_simp) (down_v wq r13) (fun u w1 hu w2 h2 => (hu).grow h2)
    refine po rfl (fun lq aq wq hk hr K hK => ?_) ?_
    · obtain ⟨v12, E12, r12⟩ := hk.dp hr 12 17 (by kernel_rfl)
      have r12 : WV wq v12 (((dn a : Nat) : Int)) := r12
      obtain ⟨v14, E14, r14⟩ := hk.dp hr 14 19 (by kernel_rfl)
      have r14 : WV wq v14 (((dn b : Nat) : Int)) := r14
      exact yc hK (by go_simp) (times_v wq r12 r14 hab) (fun u w1 hu w2 h2 => (hu).grow h2)
    refine po rfl (fun lq aq wq hk hr K hK => ?_) ?_
    · obtain ⟨v10, E10, r10⟩ := hk.dp hr 10 15 (by kernel_rfl)
      have r10 : ZV wq v10 (((z * ((dn b : Nat) : Int)) + (y * ((dn a : Nat) : Int)))) := r10
      obtain ⟨v15, E15, r15⟩ := hk.dp hr 15 20 (by kernel_rfl)
      have r15 : ZV wq v15 ((((dn a : Nat) : Int) * ((dn b : Nat) : Int))) := r15
      exact yc hK (by go_simp) (rof_v wq (r10).wv (r15).wv hNab) (fun u w1 hu w2 h2 => (hu).grow h2)
    exact AllOps.nil
  intro V x1 hG hV hap
  have r11 : QP x1 (V 11) z a := hV 11 (by decide)
  have r16 : RV x1 (V 16) ((Rat.divInt ((z * ((dn b : Nat) : Int)) + (y * ((dn a : Nat) : Int))) (((dn a : Nat) : Int) * ((dn b : Nat) : Int)))) := hV 16 (by decide)
  clear hV hap
  simp only [List.take_succ_cons, List.take_zero, List.drop_succ_cons, List.drop_zero, putAll, Act.put, List.setIfInBounds_toArray, List.set_cons_zero, List.set_cons_succ]
  have hb := grows_of hG
  obtain ⟨nR, AR, kR, cR, BR, jR, dR, y9, eR, ey, hQ, HQ, c0, c1, c2⟩ := ret3 r16 (DR.out.below hb) (HB.out.trans (Below.mono hb HB.out.size)) (by omega)
  simp only [eR]
  refine wpList_of_skip rfl (op_store3 4 21 _ rfl rfl (DR.out.below hb)) ?_
  rw [ey]
  clear eR ey hb hG HB DR
  go_wp2_with fail
  refine bodyPost_ret (v := .agg #[.bool nR, .slice AR kR cR, .slice BR jR dR]) (by simp [results, Tryz.results23, go_sem, c0, c1, c2]) rfl ⟨_, rfl, (RV.to hQ (add_mk z y a b)), HQ⟩
set_option maxHeartbeats 16000000 in
set_option maxRecDepth 100000 in
theorem rmulP_v (w : World) {u v : Value} {z y : Int} {a b : Nat} (h0 : QP w u z a) (h1 : QP w v y b) (hpa : Psz z a 300) (hpb : Psz y b 300) : Calls Tryz.prog 27 #[u, v] w fun e w' => ∃ r, e = .returned r ∧ RV w' r (mkRat z (dn a) * mkRat y (dn b)) ∧ Grows w w' := by
  obtain ⟨n0, A0, k0, c0, B0, j0, d0, l0, rfl, s0, t0, hl0⟩ := h0
  have hk0 : szz z ≤ 1000 := s0.size
  obtain ⟨n1, A1, k1, c1, B1, j1, d1, l1, rfl, s1, t1, hl1⟩ := h1
  have hk1 : szz y ≤ 1000 := s1.size
  go_enter Tryz.func27, Tryz.ntmps27
  go_upto_region 1 with fail
  obtain ⟨x0, ex0, HB, D0, D1, DR⟩ := st_333 w 26 (.bool n0) (.slice A0 k0 c0) (.slice B0 j0 d0) 26 (.bool n1) (.slice A1 k1 c1) (.slice B1 j1 d1) 26 (.bool false) (.slice none 0 0) (.slice none 0 0)
  rw [ex0]
  clear ex0
  replace HB := Lib.hid HB
  replace D0 := Lib.hid D0
  replace D1 := Lib.hid D1
  replace DR := Lib.hid DR
  have SN0 := Lib.hid (s0.below HB.out)
  clear s0
  have SD0 := Lib.hid (t0.below HB.out)
  clear t0
  have SN1 := Lib.hid (s1.below HB.out)
  clear s1
  have SD1 := Lib.hid (t1.below HB.out)
  clear t1
  have hDa := dn_sz hpa.2 (by decide)
  have hDb := dn_sz hpb.2 (by decide)
  have hzb : szz (z * ((dn b : Nat) : Int)) ≤ 1000 := Nat.le_trans (szz_mul hpa.1 hDb) (by decide)
  have hya : szz (y * ((dn a : Nat) : Int)) ≤ 1000 := Nat.le_trans (szz_mul hpb.1 hDa) (by decide)
  have hay : szz (((dn a : Nat) : Int) * y) ≤ 1000 := Nat.le_trans (szz_mul hDa hpb.1) (by decide)
  have hab : szz (((dn a : Nat) : Int) * ((dn b : Nat) : Int)) ≤ 1000 := Nat.le_trans (szz_mul hDa hDb) (by decide)
  have hzy : szz (z * y) ≤ 1000 := Nat.le_trans (szz_mul hpa.1 hpb.1) (by decide)
  have hpl : szz (z * ((dn b : Nat) : Int) + y * ((dn a : Nat) : Int)) ≤ 1000 := Nat.le_trans (szz_add (szz_mul hpa.1 hDb) (szz_mul hpb.1 hDa)) (by decide)
  have hNa : ((dn a : Nat) : Int) ≠ 0 := by have := dn_pos a; omega
  have hNb : ((dn b : Nat) : Int) ≠ 0 := by have := dn_pos b; omega
  have hNab := Int.mul_ne_zero hNa hNb
  refine wp_region_going 11 [] ([fun vq _ => vq = .pointer (some ⟨w.heap.size, 0, none⟩),
      fun vq wq => WV wq vq z,
      fun vq _ => vq = .pointer (some ⟨w.heap.size + 1, 0, none⟩),
      fun vq wq => WV wq vq y,
      fun vq wq => ZV wq vq ((z * y)),
      fun vq wq => QP wq vq z a,
      fun vq wq => WV wq vq (((dn a : Nat) : Int)),
      fun vq wq => QP wq vq y b,
      fun vq wq => WV wq vq (((dn b : Nat) : Int)),
      fun vq wq => ZV wq vq ((((dn a : Nat) : Int) * ((dn b : Nat) : Int))),
      fun vq wq => RV wq vq ((Rat.divInt (z * y) (((dn a : Nat) : Int) * ((dn b : Nat) : Int))))]) (by kernel_rfl) (by kernel_rfl) (by decide) (by kernel_rfl) (by kernel_rfl) ?_ ?_ ?_
  · intro j hj; cases hj
  · refine po rfl (fun lq aq wq hk hr K hK => ?_) ?_
    · have B2 : ev aq (.tmp 2) = .pointer (some ⟨w.heap.size, 0, none⟩) := hk.base 2 (by kernel_rfl) rfl
      exact vc hK (by go_simp) (fun w2 h2 => rfl)
    refine po rfl (fun lq aq wq hk hr K hK => ?_) ?_
    · have E0 : ev aq (.tmp 5) = .pointer (some ⟨w.heap.size, 0, none⟩) := hk.dc hr 0 (by kernel_rfl) fun _ _ h => h
      have hb := grows_of hk.ext
      exact vc hK (op_loadN 5 _ E0 (D0.out.below hb)) (fun w2 h2 => ⟨_, _, _, _, rfl, (SN0.out.below hb).below h2⟩)
    refine po rfl (fun lq aq wq hk hr K hK => ?_) ?_
    · have B3 : ev aq (.tmp 3) = .pointer (some ⟨w.heap.size + 1, 0, none⟩) := hk.base 3 (by kernel_rfl) rfl
      exact vc hK (by go_simp) (fun w2 h2 => rfl)
    refine po rfl (fun lq aq wq hk hr K hK => ?_) ?_
    · have E2 : ev aq (.tmp 7) = .pointer (some ⟨w.heap.size + 1, 0, none⟩) := hk.dc hr 2 (by kernel_rfl) fun _ _ h => h
      have hb := grows_of hk.ext
      exact vc hK (op_loadN 7 _ E2 (D1.out.below hb)) (fun w2 h2 => ⟨_, _, _, _, rfl, (SN1.out.below hb).below h2⟩)
    refine po rfl (fun lq aq wq hk hr K hK => ?_) ?_
    · obtain ⟨v1, E1, r1⟩ := hk.dp hr 1 6 (by kernel_rfl)
      have r1 : WV wq v1 z := r1
      obtain ⟨v3, E3, r3⟩ := hk.dp hr 3 8 (by kernel_rfl)
      have r3 : WV wq v3 y := r3
      exact yc hK (by go_simp) (times_v wq r1 r3 hzy) (fun u w1 hu w2 h2 => (hu).grow h2)
    refine po rfl (fun lq aq wq hk hr K hK => ?_) ?_
    · have B2 : ev aq (.tmp 2) = .pointer (some ⟨w.heap.size, 0, none⟩) := hk.base 2 (by kernel_rfl) rfl
      have hb := grows_of hk.ext
      exact vc hK (op_load3 2 _ B2 (D0.out.below hb)) (fun w2 h2 => QP.grow ⟨_, _, _, _, _, _, _, _, rfl, (SN0.out.below hb), (SD0.out.below hb), hl0⟩ h2)
    refine po rfl (fun lq aq wq hk hr K hK => ?_) ?_
    · obtain ⟨v5, E5, r5⟩ := hk.dp hr 5 10 (by kernel_rfl)
      have r5 : QP wq v5 z a := r5
      exact yc hK (by go_simp) (down_v wq r5) (fun u w1 hu w2 h2 => (hu).grow h2)
    refine po rfl (fun lq aq wq hk hr K hK => ?_) ?_
    · have B3 : ev aq (.tmp 3) = .pointer (some ⟨w.heap.size + 1, 0, none⟩) := hk.base 3 (by kernel_rfl) rfl
      have hb := grows_of hk.ext
      exact vc hK (op_load3 3 _ B3 (D1.out.below hb)) (fun w2 h2 => QP.grow ⟨_, _, _, _, _, _, _, _, rfl, (SN1.out.below hb), (SD1.out.below hb), hl1⟩ h2)
    refine po rfl (fun lq aq wq hk hr K hK => ?_) ?_
    · obtain ⟨v7, E7, r7⟩ := hk.dp hr 7 12 (by kernel_rfl)
      have r7 : QP wq v7 y b := r7
      exact yc hK (by go_simp) (down_v wq r7) (fun u w1 hu w2 h2 => (hu).grow h2)
    refine po rfl (fun lq aq wq hk hr K hK => ?_) ?_
    · obtain ⟨v6, E6, r6⟩ := hk.dp hr 6 11 (by kernel_rfl)
      have r6 : WV wq v6 (((dn a : Nat) : Int)) := r6
      obtain ⟨v8, E8, r8⟩ := hk.dp hr 8 13 (by kernel_rfl)
      have r8 : WV wq v8 (((dn b : Nat) : Int)) := r8
      exact yc hK (by go_simp) (times_v wq r6 r8 hab) (fun u w1 hu w2 h2 => (hu).grow h2)
    refine po rfl (fun lq aq wq hk hr K hK => ?_) ?_
    · obtain ⟨v4, E4, r4⟩ := hk.dp hr 4 9 (by kernel_rfl)
      have r4 : ZV wq v4 ((z * y)) := r4
      obtain ⟨v9, E9, r9⟩ := hk.dp hr 9 14 (by kernel_rfl)
      have r9 : ZV wq v9 ((((dn a : Nat) : Int) * ((dn b : Nat) : Int))) := r9
      exact yc hK (by go_simp) (rof_v wq (r4).wv (r9).wv hNab) (fun u w1 hu w2 h2 => (hu).grow h2)
    exact AllOps.nil
  intro V x1 hG hV hap
  have r5 : QP x1 (V 5) z a := hV 5 (by decide)
  have r10 : RV x1 (V 10) ((Rat.divInt (z * y) (((dn a : Nat) : Int) * ((dn b : Nat) : Int)))) := hV 10 (by decide)
  clear hV hap
  simp only [List.take_succ_cons, List.take_zero, List.drop_succ_cons, List.drop_zero, putAll, Act.put, List.setIfInBounds_toArray, List.set_cons_zero, List.set_cons_succ]
  have hb := grows_of hG
  obtain ⟨nR, AR, kR, cR, BR, jR, dR, y9, eR, ey, hQ, HQ, c0, c1, c2⟩ := ret3 r10 (DR.out.below hb) (HB.out.trans (Below.mono hb HB.out.size)) (by omega)
  simp only [eR]
  refine wpList_of_skip rfl (op_store3 4 15 _ rfl rfl (DR.out.below hb)) ?_
  rw [ey]
  clear eR ey hb hG HB DR
  go_wp2_with fail
  refine bodyPost_ret (v := .agg #[.bool nR, .slice AR kR cR, .slice BR jR dR]) (by simp [results, Tryz.results27, go_sem, c0, c1, c2]) rfl ⟨_, rfl, (RV.to hQ (mul_mk z y a b)), HQ⟩
set_option maxHeartbeats 16000000 in
set_option maxRecDepth 100000 in
theorem rdivP_v (w : World) {u v : Value} {z y : Int} {a b : Nat} (h0 : QP w u z a) (h1 : QP w v y b) (hpa : Psz z a 300) (hpb : Psz y b 300) (hy0 : y ≠ 0) : Calls Tryz.prog 17 #[u, v] w fun e w' => ∃ r, e = .returned r ∧ RV w' r (mkRat z (dn a) / mkRat y (dn b)) ∧ Grows w w' := by
  obtain ⟨n0, A0, k0, c0, B0, j0, d0, l0, rfl, s0, t0, hl0⟩ := h0
  have hk0 : szz z ≤ 1000 := s0.size
  obtain ⟨n1, A1, k1, c1, B1, j1, d1, l1, rfl, s1, t1, hl1⟩ := h1
  have hk1 : szz y ≤ 1000 := s1.size
  go_enter Tryz.func17, Tryz.ntmps17
  go_upto_region 1 with fail
  obtain ⟨x0, ex0, HB, D0, D1, DR⟩ := st_333 w 26 (.bool n0) (.slice A0 k0 c0) (.slice B0 j0 d0) 26 (.bool n1) (.slice A1 k1 c1) (.slice B1 j1 d1) 26 (.bool false) (.slice none 0 0) (.slice none 0 0)
  rw [ex0]
  clear ex0
  replace HB := Lib.hid HB
  replace D0 := Lib.hid D0
  replace D1 := Lib.hid D1
  replace DR := Lib.hid DR
  have SN0 := Lib.hid (s0.below HB.out)
  clear s0
  have SD0 := Lib.hid (t0.below HB.out)
  clear t0
  have SN1 := Lib.hid (s1.below HB.out)
  clear s1
  have SD1 := Lib.hid (t1.below HB.out)
  clear t1
  have hDa := dn_sz hpa.2 (by decide)
  have hDb := dn_sz hpb.2 (by decide)
  have hzb : szz (z * ((dn b : Nat) : Int)) ≤ 1000 := Nat.le_trans (szz_mul hpa.1 hDb) (by decide)
  have hya : szz (y * ((dn a : Nat) : Int)) ≤ 1000 := Nat.le_trans (szz_mul hpb.1 hDa) (by decide)
  have hay : szz (((dn a : Nat) : Int) * y) ≤ 1000 := Nat.le_trans (szz_mul hDa hpb.1) (by decide)
  have hab : szz (((dn a : Nat) : Int) * ((dn b : Nat) : Int)) ≤ 1000 := Nat.le_trans (szz_mul hDa hDb) (by decide)
  have hzy : szz (z * y) ≤ 1000 := Nat.le_trans (szz_mul hpa.1 hpb.1) (by decide)
  have hpl : szz (z * ((dn b : Nat) : Int) + y * ((dn a : Nat) : Int)) ≤ 1000 := Nat.le_trans (szz_add (szz_mul hpa.1 hDb) (szz_mul hpb.1 hDa)) (by decide)
  have hNa : ((dn a : Nat) : Int) ≠ 0 := by have := dn_pos a; omega
  have hNb : ((dn b : Nat) : Int) ≠ 0 := by have := dn_pos b; omega
  have hNab := Int.mul_ne_zero hNa hNb
  have hNay := Int.mul_ne_zero hNa hy0
  refine wp_region_going 11 [] ([fun vq _ => vq = .pointer (some ⟨w.heap.size, 0, none⟩),
      fun vq wq => WV wq vq z,
      fun vq wq => QP wq vq y b,
      fun vq wq => WV wq vq (((dn b : Nat) : Int)),
      fun vq wq => ZV wq vq ((z * ((dn b : Nat) : Int))),
      fun vq wq => QP wq vq z a,
      fun vq wq => WV wq vq (((dn a : Nat) : Int)),
      fun vq _ => vq = .pointer (some ⟨w.heap.size + 1, 0, none⟩),
      fun vq wq => WV wq vq y,
      fun vq wq => ZV wq vq ((((dn a : Nat) : Int) * y)),
      fun vq wq => RV wq vq ((Rat.divInt (z * ((dn b : Nat) : Int)) (((dn a : Nat) : Int) * y)))]) (by kernel_rfl) (by kernel_rfl) (by decide) (by kernel_rfl) (by kernel_rfl) ?_ ?_ ?_
  · intro j hj; cases hj
  · refine po rfl (fun lq aq wq hk hr K hK => ?_) ?_
    · have B2 : ev aq (.tmp 2) = .pointer (some ⟨w.heap.size, 0, none⟩) := hk.base 2 (by kernel_rfl) rfl
      exact vc hK (by go_simp) (fun w2 h2 => rfl)
    refine po rfl (fun lq aq wq hk hr K hK => ?_) ?_
    · have E0 : ev aq (.tmp 5) = .pointer (some ⟨w.heap.size, 0, none⟩) := hk.dc hr 0 (by kernel_rfl) fun _ _ h => h
      have hb := grows_of hk.ext
      exact vc hK (op_loadN 5 _ E0 (D0.out.below hb)) (fun w2 h2 => ⟨_, _, _, _, rfl, (SN0.out.below hb).below h2⟩)
    refine po rfl (fun lq aq wq hk hr K hK => ?_) ?_
    · have B3 : ev aq (.tmp 3) = .pointer (some ⟨w.heap.size + 1, 0, none⟩) := hk.base 3 (by kernel_rfl) rfl
      have hb := grows_of hk.ext
      exact vc hK (op_load3 3 _ B3 (D1.out.below hb)) (fun w2 h2 => QP.grow ⟨_, _, _, _, _, _, _, _, rfl, (SN1.out.below hb), (SD1.out.below hb), hl1⟩ h2)
    refine po rfl (fun lq aq wq hk hr K hK => ?_) ?_
    · obtain ⟨v2, E2, r2⟩ := hk.dp hr 2 7 (by kernel_rfl)
      have r2 : QP wq v2 y b := r2
      exact yc hK (by go_simp) (down_v wq r2) (fun u w1 hu w2 h2 => (hu).grow h2)
    refine po rfl (fun lq aq wq hk hr K hK => ?_) ?_
    · obtain ⟨v1, E1, r1⟩ := hk.dp hr 1 6 (by kernel_rfl)
      have r1 : WV wq v1 z := r1
      obtain ⟨v3, E3, r3⟩ := hk.dp hr 3 8 (by kernel_rfl)
      have r3 : WV wq v3 (((dn b : Nat) : Int)) := r3
      exact yc hK (by go_simp) (times_v wq r1 r3 hzb) (fun u w1 hu w2 h2 => (hu).grow h2)
    refine po rfl (fun lq aq wq hk hr K hK => ?_) ?_
    · have B2 : ev aq (.tmp 2) = .pointer (some ⟨w.heap.size, 0, none⟩) := hk.base 2 (by kernel_rfl) rfl
      have hb := grows_of hk.ext
      exact vc hK (op_load3 2 _ B2 (D0.out.below hb)) (fun w2 h2 => QP.grow ⟨_, _, _, _, _, _, _, _, rfl, (SN0.out.below hb), (SD0.out.below hb), hl0⟩ h2)
    refine po rfl (fun lq aq wq hk hr K hK => ?_) ?_
    · obtain ⟨v5, E5, r5⟩ := hk.dp hr 5 10 (by kernel_rfl)
      have r5 : QP wq v5 z a := r5
      exact yc hK (by go_simp) (down_v wq r5) (fun u w1 hu w2 h2 => (hu).grow h2)
    refine po rfl (fun lq aq wq hk hr K hK => ?_) ?_
    · have B3 : ev aq (.tmp 3) = .pointer (some ⟨w.heap.size + 1, 0, none⟩) := hk.base 3 (by kernel_rfl) rfl
      exact vc hK (by go_simp) (fun w2 h2 => rfl)
    refine po rfl (fun lq aq wq hk hr K hK => ?_) ?_
    · have E7 : ev aq (.tmp 12) = .pointer (some ⟨w.heap.size + 1, 0, none⟩) := hk.dc hr 7 (by kernel_rfl) fun _ _ h => h
      have hb := grows_of hk.ext
      exact vc hK (op_loadN 12 _ E7 (D1.out.below hb)) (fun w2 h2 => ⟨_, _, _, _, rfl, (SN1.out.below hb).below h2⟩)
    refine po rfl (fun lq aq wq hk hr K hK => ?_) ?_
    · obtain ⟨v6, E6, r6⟩ := hk.dp hr 6 11 (by kernel_rfl)
      have r6 : WV wq v6 (((dn a : Nat) : Int)) := r6
      obtain ⟨v8, E8, r8⟩ := hk.dp hr 8 13 (by kernel_rfl)
      have r8 : WV wq v8 y := r8
      exact yc hK (by go_simp) (times_v wq r6 r8 hay) (fun u w1 hu w2 h2 => (hu).grow h2)
    refine po rfl (fun lq aq wq hk hr K hK => ?_) ?_
    · obtain ⟨v4, E4, r4⟩ := hk.dp hr 4 9 (by kernel_rfl)
      have r4 : ZV wq v4 ((z * ((dn b : Nat) : Int))) := r4
      obtain ⟨v9, E9, r9⟩ := hk.dp hr 9 14 (by kernel_rfl)
      have r9 : ZV wq v9 ((((dn a : Nat) : Int) * y)) := r9
      exact yc hK (by go_simp) (rof_v wq (r4).wv (r9).wv hNay) (fun u w1 hu w2 h2 => (hu).grow h2)
    exact AllOps.nil
  intro V x1 hG hV hap
  have r5 : QP x1 (V 5) z a := hV 5 (by decide)
  have r10 : RV x1 (V 10) ((Rat.divInt (z * ((dn b : Nat) : Int)) (((dn a : Nat) : Int) * y))) := hV 10 (by decide)
  clear hV hap
  simp only [List.take_succ_cons, List.take_zero, List.drop_succ_cons, List.drop_zero, putAll, Act.put, List.setIfInBounds_toArray, List.set_cons_zero, List.set_cons_succ]
  have hb := grows_of hG
  obtain ⟨nR, AR, kR, cR, BR, jR, dR, y9, eR, ey, hQ, HQ, c0, c1, c2⟩ := ret3 r10 (DR.out.below hb) (HB.out.trans (Below.mono hb HB.out.size)) (by omega)
  simp only [eR]
  refine wpList_of_skip rfl (op_store3 4 15 _ rfl rfl (DR.out.below hb)) ?_
  rw [ey]
  clear eR ey hb hG HB DR
  go_wp2_with fail
  refine bodyPost_ret (v := .agg #[.bool nR, .slice AR kR cR, .slice BR jR dR]) (by simp [results, Tryz.results17, go_sem, c0, c1, c2]) rfl ⟨_, rfl, (RV.to hQ (div_mk z y a b)), HQ⟩
set_option maxHeartbeats 16000000 in
set_option maxRecDepth 100000 in
theorem rsubP_v (w : World) {u v : Value} {z y : Int} {a b : Nat} (h0 : QP w u z a) (h1 : QP w v y b) (hpa : Psz z a 300) (hpb : Psz y b 300) : Calls Tryz.prog 25 #[u, v] w fun e w' => ∃ r, e = .returned r ∧ RV w' r (mkRat z (dn a) - mkRat y (dn b)) ∧ Grows w w' := by
  obtain ⟨n0, A0, k0, c0, B0, j0, d0, l0, rfl, s0, t0, hl0⟩ := h0
  have hk0 : szz z ≤ 1000 := s0.size
  obtain ⟨n1, A1, k1, c1, B1, j1, d1, l1, rfl, s1, t1, hl1⟩ := h1
  have hk1 : szz y ≤ 1000 := s1.size
  go_enter Tryz.func25, Tryz.ntmps25
  go_upto_region 1 with fail
  obtain ⟨x0, ex0, HB, D0, D1, DR⟩ := st_333 w 26 (.bool n0) (.slice A0 k0 c0) (.slice B0 j0 d0) 26 (.bool n1) (.slice A1 k1 c1) (.slice B1 j1 d1) 26 (.bool false) (.slice none 0 0) (.slice none 0 0)
  rw [ex0]
  clear ex0
  replace HB := Lib.hid HB
  replace D0 := Lib.hid D0
  replace D1 := Lib.hid D1
  replace DR := Lib.hid DR
  have SN0 := Lib.hid (s0.below HB.out)
  clear s0
  have SD0 := Lib.hid (t0.below HB.out)
  clear t0
  have SN1 := Lib.hid (s1.below HB.out)
  clear s1
  have SD1 := Lib.hid (t1.below HB.out)
  clear t1
  have hq := (hpb.mk (by decide)).neg
  refine wp_region_going 4 [] ([fun vq wq => QP wq vq z a,
      fun vq wq => QP wq vq y b,
      fun vq wq => RV wq vq ((-mkRat y (dn b))),
      fun vq wq => RV wq vq ((mkRat z (dn a) + mkRat (-mkRat y (dn b)).num (dn (-mkRat y (dn b)).den)))]) (by kernel_rfl) (by kernel_rfl) (by decide) (by kernel_rfl) (by kernel_rfl) ?_ ?_ ?_
  · intro j hj; cases hj
  · refine po rfl (fun lq aq wq hk hr K hK => ?_) ?_
    · have B2 : ev aq (.tmp 2) = .pointer (some ⟨w.heap.size, 0, none⟩) := hk.base 2 (by kernel_rfl) rfl
      have hb := grows_of hk.ext
      exact vc hK (op_load3 2 _ B2 (D0.out.below hb)) (fun w2 h2 => QP.grow ⟨_, _, _, _, _, _, _, _, rfl, (SN0.out.below hb), (SD0.out.below hb), hl0⟩ h2)
    refine po rfl (fun lq aq wq hk hr K hK => ?_) ?_
    · have B3 : ev aq (.tmp 3) = .pointer (some ⟨w.heap.size + 1, 0, none⟩) := hk.base 3 (by kernel_rfl) rfl
      have hb := grows_of hk.ext
      exact vc hK (op_load3 3 _ B3 (D1.out.below hb)) (fun w2 h2 => QP.grow ⟨_, _, _, _, _, _, _, _, rfl, (SN1.out.below hb), (SD1.out.below hb), hl1⟩ h2)
    refine po rfl (fun lq aq wq hk hr K hK => ?_) ?_
    · obtain ⟨v1, E1, r1⟩ := hk.dp hr 1 6 (by kernel_rfl)
      have r1 : QP wq v1 y b := r1
      exact yc hK (by go_simp) (rnegP_v wq r1) (fun u w1 hu w2 h2 => (hu).grow h2)
    refine po rfl (fun lq aq wq hk hr K hK => ?_) ?_
    · obtain ⟨v0, E0, r0⟩ := hk.dp hr 0 5 (by kernel_rfl)
      have r0 : QP wq v0 z a := r0
      obtain ⟨v2, E2, r2⟩ := hk.dp hr 2 7 (by kernel_rfl)
      have r2 : RV wq v2 ((-mkRat y (dn b))) := r2
      exact yc hK (by go_simp) (raddP_v wq r0 (r2).qp hpa hq) (fun u w1 hu w2 h2 => (hu).grow h2)
    exact AllOps.nil
  intro V x1 hG hV hap
  have r3 : RV x1 (V 3) ((mkRat z (dn a) + mkRat (-mkRat y (dn b)).num (dn (-mkRat y (dn b)).den))) := hV 3 (by decide)
  clear hV hap
  simp only [List.take_succ_cons, List.take_zero, List.drop_succ_cons, List.drop_zero, putAll, Act.put, List.setIfInBounds_toArray, List.set_cons_zero, List.set_cons_succ]
  have hb := grows_of hG
  obtain ⟨nR, AR, kR, cR, BR, jR, dR, y9, eR, ey, hQ, HQ, c0, c1, c2⟩ := ret3 r3 (DR.out.below hb) (HB.out.trans (Below.mono hb HB.out.size)) (by omega)
  simp only [eR]
  refine wpList_of_skip rfl (op_store3 4 8 _ rfl rfl (DR.out.below hb)) ?_
  rw [ey]
  clear eR ey hb hG HB DR
  go_wp2_with fail
  refine bodyPost_ret (v := .agg #[.bool nR, .slice AR kR cR, .slice BR jR dR]) (by simp [results, Tryz.results25, go_sem, c0, c1, c2]) rfl ⟨_, rfl, (RV.to hQ (by rw [mk_own, sub_mk])), HQ⟩
end Go.Proofs.YtbippecchpaleaaGreatDoor
/- litmusref03.Zero, Sign, Cmp: what each returns. -/
namespace Go.Num
theorem qs_mk (z : Int) (a : Nat) : qs (mkRat z (dn a)) = Int.sign z := mkRat_sign z (dn_pos a)
end Go.Num
namespace Go.Proofs.YtbippecchpaleaaGreatDoor
open Go.RowKit Go.Num Go.Kp
attribute [local go_sem] Oper.semAt_some u64_mask ev_const ev_func ev_global
theorem rtrimk_v (w : World) {u : Value} {l : List Nat} {a k : Nat} (h : LV w u l a) (hl : l.length ≤ 1000) (hk : (limbs a).length = k) : Calls Tryz.prog 51 #[u] w fun e w' => ∃ r, e = .returned r ∧ (∃ A c, r = .slice A k c) ∧ Grows w w' := by
  refine (rtrim_v w h hl).mono ?_
  rintro e w1 ⟨r, rfl, ⟨A, c, rfl, _⟩, g⟩
  exact ⟨_, rfl, ⟨A, c, by rw [hk]⟩, g⟩
set_option maxHeartbeats 4000000 in
set_option maxRecDepth 100000 in
theorem rzero_v (w : World) {u : Value} {z : Int} {a : Nat} {t : Bool} (h0 : QP w u z a) (ht : decide (z = 0) = t) : Calls Tryz.prog 14 #[u] w fun e w' => ∃ r, e = .returned r ∧ r = .bool t ∧ Grows w w' := by
  obtain ⟨n0, A0, k0, c0, B0, j0, d0, l0, rfl, s0, t0, hl0⟩ := h0
  have hk0 : szz z ≤ 1000 := s0.size
  go_enter Tryz.func14, Tryz.ntmps14
  go_upto_region 1 with fail
  obtain ⟨x0, ex0, HB, D0⟩ := st_3 w 26 (.bool n0) (.slice A0 k0 c0) (.slice B0 j0 d0)
  rw [ex0]
  clear ex0
  replace HB := Lib.hid HB
  replace D0 := Lib.hid D0
  have SN0 := Lib.hid (s0.below HB.out)
  clear s0
  have SD0 := Lib.hid (t0.below HB.out)
  clear t0
  obtain ⟨lN0, aN0, qN0, hlN0, eN0⟩ := SN0.out
  have QN0 := Lib.hid qN0
  clear qN0
  have hza : sz aN0 ≤ 1000 := by have h := hk0; rw [eN0] at h; unfold szz at h; rwa [sg_natAbs] at h
  have hzt : decide (aN0 = 0) = t := by
    rw [← ht]
    by_cases h : aN0 = 0
    · rw [decide_eq_true h, eN0, h, sg_zero]; rfl
    · rw [decide_eq_false h]
      symm
      refine decide_eq_false fun e => h ?_
      rw [eN0] at e
      rw [← sg_natAbs n0 aN0, e]; rfl
  have hls : (limbs aN0).length ≤ 1000 := hza
  have hlt : (limbs aN0).length = 0 ↔ aN0 = 0 := by rw [List.length_eq_zero_iff, limbs_nil_iff]
  clear ht
  rcases Decidable.em (aN0 = 0) with ha | ha
  · skip
    obtain ⟨kl, hkl⟩ : ∃ kl, (limbs aN0).length = kl := ⟨_, rfl⟩
    rw [hkl] at hlt hls
    replace hkl := Lib.hid hkl
    obtain rfl : kl = 0 := hlt.2 ha
    have htt : true = t := by rw [← hzt, ha]; rfl
    replace htt := Lib.hid htt
    clear hzt hlt ha
    refine wp_region_calm 6 [] ([fun vq _ => vq = .pointer (some ⟨w.heap.size, 0, none⟩),
        fun vq _ => vq = .pointer (some ⟨w.heap.size, 1, none⟩),
        fun vq _ => vq = .slice A0 k0 c0,
        fun vq wq => ∃ A c, vq = .slice A 0 c,
        fun vq _ => vq = .int .i64 0,
        fun vq _ => vq = .bool true]) (by kernel_rfl) (by decide) ?_ ?_ ?_
    · intro j hj; cases hj
    · refine po rfl (fun lq aq wq hk hr K hK => ?_) ?_
      · have B1 : ev aq (.tmp 1) = .pointer (some ⟨w.heap.size, 0, none⟩) := hk.base 1 (by kernel_rfl) rfl
        exact vc hK (by go_simp) (fun w2 h2 => rfl)
      refine po rfl (fun lq aq wq hk hr K hK => ?_) ?_
      · have E0 : ev aq (.tmp 3) = .pointer (some ⟨w.heap.size, 0, none⟩) := hk.dc hr 0 (by kernel_rfl) fun _ _ h => h
        exact vc hK (by go_simp) (fun w2 h2 => rfl)
      refine po rfl (fun lq aq wq hk hr K hK => ?_) ?_
      · have E1 : ev aq (.tmp 4) = .pointer (some ⟨w.heap.size, 1, none⟩) := hk.dc hr 1 (by kernel_rfl) fun _ _ h => h
        have hb : Below _ _ _ := hk.ext
        have c1 := (D0.out.below hb).c1
        exact vc hK (by go_simp) (fun w2 h2 => rfl)
      refine po rfl (fun lq aq wq hk hr K hK => ?_) ?_
      · have E2 : ev aq (.tmp 5) = .slice A0 k0 c0 := hk.dc hr 2 (by kernel_rfl) fun _ _ h => h
        exact yc hK (by go_simp) (rtrimk_v wq (QN0.out.below hk.ext).lv hlN0 hkl.out) (fun u w1 hu w2 h2 => hu)
      refine po rfl (fun lq aq wq hk hr K hK => ?_) ?_
      · obtain ⟨v3, E3, r3⟩ := hk.dp hr 3 6 (by kernel_rfl)
        have r3 : ∃ A c, v3 = .slice A 0 c := r3
        obtain ⟨A9, c9, rfl⟩ := r3
        exact vc hK (by go_simp) (fun w2 h2 => rfl)
      refine po rfl (fun lq aq wq hk hr K hK => ?_) ?_
      · have E4 : ev aq (.tmp 7) = .int .i64 0 := hk.dc hr 4 (by kernel_rfl) fun _ _ h => h
        exact vc hK (by go_simp) (fun w2 h2 => rfl)
      exact AllOps.nil
    intro V x1 hG hV hap
    have r2 : (V 2) = .slice A0 k0 c0 := hV 2 (by decide)
    have r5 : (V 5) = .bool true := hV 5 (by decide)
    clear hV hap
    simp only [List.take_succ_cons, List.take_zero, List.drop_succ_cons, List.drop_zero, putAll, Act.put, List.setIfInBounds_toArray, List.set_cons_zero, List.set_cons_succ]
    have hb := (show Below _ _ _ from hG)
    replace D0 := Lib.hid (D0.out.below hb)
    replace SN0 := Lib.hid (SN0.out.below hb)
    replace SD0 := Lib.hid (SD0.out.below hb)
    replace QN0 := Lib.hid (QN0.out.below hb)
    replace HB := Lib.hid (HB.out.trans (Below.mono hb HB.out.size))
    clear hb hG
    rw [r5]
    clear r5

    go_wp2_with fail
    go_ret
    exact ⟨_, rfl, congrArg Value.bool htt.out, HB.out⟩
  · skip
    obtain ⟨kl, hkl⟩ : ∃ kl, (limbs aN0).length = kl := ⟨_, rfl⟩
    rw [hkl] at hlt hls
    replace hkl := Lib.hid hkl
    obtain ⟨j, rfl⟩ : ∃ j, kl = j + 1 := ⟨kl - 1, by omega⟩
    have htt : false = t := by rw [← hzt, decide_eq_false ha]
    replace htt := Lib.hid htt
    clear hzt hlt ha
    refine wp_region_calm 6 [] ([fun vq _ => vq = .pointer (some ⟨w.heap.size, 0, none⟩),
        fun vq _ => vq = .pointer (some ⟨w.heap.size, 1, none⟩),
        fun vq _ => vq = .slice A0 k0 c0,
        fun vq wq => ∃ A c, vq = .slice A (j + 1) c,
        fun vq _ => vq = .int .i64 (j + 1),
        fun vq _ => vq = .bool false]) (by kernel_rfl) (by decide) ?_ ?_ ?_
    · intro j hj; cases hj
    · refine po rfl (fun lq aq wq hk hr K hK => ?_) ?_
      · have B1 : ev aq (.tmp 1) = .pointer (some ⟨w.heap.size, 0, none⟩) := hk.base 1 (by kernel_rfl) rfl
        exact vc hK (by go_simp) (fun w2 h2 => rfl)
      refine po rfl (fun lq aq wq hk hr K hK => ?_) ?_
      · have E0 : ev aq (.tmp 3) = .pointer (some ⟨w.heap.size, 0, none⟩) := hk.dc hr 0 (by kernel_rfl) fun _ _ h => h
        exact vc hK (by go_simp) (fun w2 h2 => rfl)
      refine po rfl (fun lq aq wq hk hr K hK => ?_) ?_
      · have E1 : ev aq (.tmp 4) = .pointer (some ⟨w.heap.size, 1, none⟩) := hk.dc hr 1 (by kernel_rfl) fun _ _ h => h
        have hb : Below _ _ _ := hk.ext
        have c1 := (D0.out.below hb).c1
        exact vc hK (by go_simp) (fun w2 h2 => rfl)
      refine po rfl (fun lq aq wq hk hr K hK => ?_) ?_
      · have E2 : ev aq (.tmp 5) = .slice A0 k0 c0 := hk.dc hr 2 (by kernel_rfl) fun _ _ h => h
        exact yc hK (by go_simp) (rtrimk_v wq (QN0.out.below hk.ext).lv hlN0 hkl.out) (fun u w1 hu w2 h2 => hu)
      refine po rfl (fun lq aq wq hk hr K hK => ?_) ?_
      · obtain ⟨v3, E3, r3⟩ := hk.dp hr 3 6 (by kernel_rfl)
        have r3 : ∃ A c, v3 = .slice A (j + 1) c := r3
        obtain ⟨A9, c9, rfl⟩ := r3
        exact vc hK (by go_simp) (fun w2 h2 => rfl)
      refine po rfl (fun lq aq wq hk hr K hK => ?_) ?_
      · have E4 : ev aq (.tmp 7) = .int .i64 (j + 1) := hk.dc hr 4 (by kernel_rfl) fun _ _ h => h
        exact vc hK (by go_simp; omega) (fun w2 h2 => rfl)
      exact AllOps.nil
    intro V x1 hG hV hap
    have r2 : (V 2) = .slice A0 k0 c0 := hV 2 (by decide)
    have r5 : (V 5) = .bool false := hV 5 (by decide)
    clear hV hap
    simp only [List.take_succ_cons, List.take_zero, List.drop_succ_cons, List.drop_zero, putAll, Act.put, List.setIfInBounds_toArray, List.set_cons_zero, List.set_cons_succ]
    have hb := (show Below _ _ _ from hG)
    replace D0 := Lib.hid (D0.out.below hb)
    replace SN0 := Lib.hid (SN0.out.below hb)
    replace SD0 := Lib.hid (SD0.out.below hb)
    replace QN0 := Lib.hid (QN0.out.below hb)
    replace HB := Lib.hid (HB.out.trans (Below.mono hb HB.out.size))
    clear hb hG
    rw [r5]
    clear r5

    go_wp2_with fail
    go_ret
    exact ⟨_, rfl, congrArg Value.bool htt.out, HB.out⟩
set_option maxHeartbeats 4000000 in
set_option maxRecDepth 100000 in
theorem rsign_v (w : World) {u : Value} {z : Int} {a : Nat} {k : Int} (h0 : QP w u z a) (hkc : Int.sign z = k) : Calls Tryz.prog 31 #[u] w fun e w' => ∃ r, e = .returned r ∧ r = .int .i64 k ∧ Grows w w' := by
  obtain ⟨n0, A0, k0, c0, B0, j0, d0, l0, rfl, s0, t0, hl0⟩ := h0
  have hk0 : szz z ≤ 1000 := s0.size
  go_enter Tryz.func31, Tryz.ntmps31
  go_upto_region 1 with fail
  obtain ⟨x0, ex0, HB, D0⟩ := st_3 w 26 (.bool n0) (.slice A0 k0 c0) (.slice B0 j0 d0)
  rw [ex0]
  clear ex0
  replace HB := Lib.hid HB
  replace D0 := Lib.hid D0
  have SN0 := Lib.hid (s0.below HB.out)
  clear s0
  have SD0 := Lib.hid (t0.below HB.out)
  clear t0
  rcases Decidable.em (z = 0) with hz | hz
  · skip
    have hk9 : 0 = k := by rw [← hkc, hz]; rfl
    replace hk9 := Lib.hid hk9
    refine wp_region_calm 2 [] ([fun vq wq => QP wq vq z a,
        fun vq _ => vq = .bool true]) (by kernel_rfl) (by decide) ?_ ?_ ?_
    · intro j hj; cases hj
    · refine po rfl (fun lq aq wq hk hr K hK => ?_) ?_
      · have B1 : ev aq (.tmp 1) = .pointer (some ⟨w.heap.size, 0, none⟩) := hk.base 1 (by kernel_rfl) rfl
        have hb : Below _ _ _ := hk.ext
        exact vc hK (op_load3 1 _ B1 (D0.out.below hb)) (fun w2 h2 => QP.grow ⟨_, _, _, _, _, _, _, _, rfl, (SN0.out.below hb), (SD0.out.below hb), hl0⟩ h2)
      refine po rfl (fun lq aq wq hk hr K hK => ?_) ?_
      · obtain ⟨v0, E0, r0⟩ := hk.dp hr 0 3 (by kernel_rfl)
        have r0 : QP wq v0 z a := r0
        exact yc hK (by go_simp) (rzero_v wq r0 (decide_eq_true hz)) (fun u w1 hu w2 h2 => hu)
      exact AllOps.nil
    intro V x1 hG hV hap
    have r1 : (V 1) = .bool true := hV 1 (by decide)
    clear hV hap
    simp only [List.take_succ_cons, List.take_nil, List.drop_succ_cons, List.drop_nil, putAll, Act.put, List.setIfInBounds_toArray, List.set_cons_zero, List.set_cons_succ]
    have hb := (show Below _ _ _ from hG)
    replace D0 := Lib.hid (D0.out.below hb)
    replace SN0 := Lib.hid (SN0.out.below hb)
    replace SD0 := Lib.hid (SD0.out.below hb)
    replace HB := Lib.hid (HB.out.trans (Below.mono hb HB.out.size))
    clear hb hG
    rw [r1]
    clear r1

    go_wp2_with fail
    go_ret
    exact ⟨_, rfl, congrArg (Value.int .i64) hk9.out, HB.out⟩
  · skip
    refine wp_region_calm 2 [] ([fun vq wq => QP wq vq z a,
        fun vq _ => vq = .bool false]) (by kernel_rfl) (by decide) ?_ ?_ ?_
    · intro j hj; cases hj
    · refine po rfl (fun lq aq wq hk hr K hK => ?_) ?_
      · have B1 : ev aq (.tmp 1) = .pointer (some ⟨w.heap.size, 0, none⟩) := hk.base 1 (by kernel_rfl) rfl
        have hb : Below _ _ _ := hk.ext
        exact vc hK (op_load3 1 _ B1 (D0.out.below hb)) (fun w2 h2 => QP.grow ⟨_, _, _, _, _, _, _, _, rfl, (SN0.out.below hb), (SD0.out.below hb), hl0⟩ h2)
      refine po rfl (fun lq aq wq hk hr K hK => ?_) ?_
      · obtain ⟨v0, E0, r0⟩ := hk.dp hr 0 3 (by kernel_rfl)
        have r0 : QP wq v0 z a := r0
        exact yc hK (by go_simp) (rzero_v wq r0 (decide_eq_false hz)) (fun u w1 hu w2 h2 => hu)
      exact AllOps.nil
    intro V x1 hG hV hap
    have r1 : (V 1) = .bool false := hV 1 (by decide)
    clear hV hap
    simp only [List.take_succ_cons, List.take_nil, List.drop_succ_cons, List.drop_nil, putAll, Act.put, List.setIfInBounds_toArray, List.set_cons_zero, List.set_cons_succ]
    have hb := (show Below _ _ _ from hG)
    replace D0 := Lib.hid (D0.out.below hb)
    replace SN0 := Lib.hid (SN0.out.below hb)
    replace SD0 := Lib.hid (SD0.out.below hb)
    replace HB := Lib.hid (HB.out.trans (Below.mono hb HB.out.size))
    clear hb hG
    rw [r1]
    clear r1
    have hn9 : n0 = decide (z < 0) := by
      obtain ⟨l9, a9, _, _, e9⟩ := SN0.out
      have h9 := sg_lt n0 a9
      rw [← e9] at h9
      rw [h9]
      have : 0 < a9 := by
        rcases Nat.eq_zero_or_pos a9 with h | h
        · rw [h, sg_zero] at e9; exact absurd e9 hz
        · exact h
      rw [decide_eq_true this, Bool.and_true]
    rcases Int.lt_or_lt_of_ne hz with hs | hs
    · skip
      obtain rfl : n0 = true := by rw [hn9]; exact decide_eq_true hs
      have hk9 : -1 = k := by rw [← hkc, Int.sign_eq_neg_one_of_neg hs]
      replace hk9 := Lib.hid hk9
      clear hn9
      go_upto_region 3 with fail
      refine wp_region_calm 3 [] ([fun vq _ => vq = .pointer (some ⟨w.heap.size, 0, none⟩),
          fun vq _ => vq = .pointer (some ⟨w.heap.size, 0, none⟩),
          fun vq _ => vq = .bool true]) (by kernel_rfl) (by decide) ?_ ?_ ?_
      · intro j hj; cases hj
      · refine po rfl (fun lq aq wq hk hr K hK => ?_) ?_
        · have B1 : ev aq (.tmp 1) = .pointer (some ⟨w.heap.size, 0, none⟩) := hk.base 1 (by kernel_rfl) rfl
          exact vc hK (by go_simp) (fun w2 h2 => rfl)
        refine po rfl (fun lq aq wq hk hr K hK => ?_) ?_
        · have E0 : ev aq (.tmp 5) = .pointer (some ⟨w.heap.size, 0, none⟩) := hk.dc hr 0 (by kernel_rfl) fun _ _ h => h
          exact vc hK (by go_simp) (fun w2 h2 => rfl)
        refine po rfl (fun lq aq wq hk hr K hK => ?_) ?_
        · have E1 : ev aq (.tmp 6) = .pointer (some ⟨w.heap.size, 0, none⟩) := hk.dc hr 1 (by kernel_rfl) fun _ _ h => h
          have hb : Below _ _ _ := hk.ext
          have c0 := (D0.out.below hb).c0
          exact vc hK (by go_simp) (fun w2 h2 => rfl)
        exact AllOps.nil
      intro V x2 hG hV hap
      have r2 : (V 2) = .bool true := hV 2 (by decide)
      clear hV hap
      simp only [List.take_succ_cons, List.take_nil, List.drop_succ_cons, List.drop_nil, putAll, Act.put, List.setIfInBounds_toArray, List.set_cons_zero, List.set_cons_succ]
      have hb := (show Below _ _ _ from hG)
      replace D0 := Lib.hid (D0.out.below hb)
      replace SN0 := Lib.hid (SN0.out.below hb)
      replace SD0 := Lib.hid (SD0.out.below hb)
      replace HB := Lib.hid (HB.out.trans (Below.mono hb HB.out.size))
      clear hb hG
      rw [r2]
      clear r2

      go_wp2_with fail
      go_ret
      exact ⟨_, rfl, congrArg (Value.int .i64) hk9.out, HB.out⟩
    · skip
      obtain rfl : n0 = false := by rw [hn9]; exact decide_eq_false (by omega)
      have hk9 : 1 = k := by rw [← hkc, Int.sign_eq_one_of_pos hs]
      replace hk9 := Lib.hid hk9
      clear hn9
      go_upto_region 3 with fail
      refine wp_region_calm 3 [] ([fun vq _ => vq = .pointer (some ⟨w.heap.size, 0, none⟩),
          fun vq _ => vq = .pointer (some ⟨w.heap.size, 0, none⟩),
          fun vq _ => vq = .bool false]) (by kernel_rfl) (by decide) ?_ ?_ ?_
      · intro j hj; cases hj
      · refine po rfl (fun lq aq wq hk hr K hK => ?_) ?_
        · have B1 : ev aq (.tmp 1) = .pointer (some ⟨w.heap.size, 0, none⟩) := hk.base 1 (by kernel_rfl) rfl
          exact vc hK (by go_simp) (fun w2 h2 => rfl)
        refine po rfl (fun lq aq wq hk hr K hK => ?_) ?_
        · have E0 : ev aq (.tmp 5) = .pointer (some ⟨w.heap.size, 0, none⟩) := hk.dc hr 0 (by kernel_rfl) fun _ _ h => h
          exact vc hK (by go_simp) (fun w2 h2 => rfl)
        refine po rfl (fun lq aq wq hk hr K hK => ?_) ?_
        · have E1 : ev aq (.tmp 6) = .pointer (some ⟨w.heap.size, 0, none⟩) := hk.dc hr 1 (by kernel_rfl) fun _ _ h => h
          have hb : Below _ _ _ := hk.ext
          have c0 := (D0.out.below hb).c0
          exact vc hK (by go_simp) (fun w2 h2 => rfl)
        exact AllOps.nil
      intro V x2 hG hV hap
      have r2 : (V 2) = .bool false := hV 2 (by decide)
      clear hV hap
      simp only [List.take_succ_cons, List.take_nil, List.drop_succ_cons, List.drop_nil, putAll, Act.put, List.setIfInBounds_toArray, List.set_cons_zero, List.set_cons_succ]
      have hb := (show Below _ _ _ from hG)
      replace D0 := Lib.hid (D0.out.below hb)
      replace SN0 := Lib.hid (SN0.out.below hb)
      replace SD0 := Lib.hid (SD0.out.below hb)
      replace HB := Lib.hid (HB.out.trans (Below.mono hb HB.out.size))
      clear hb hG
      rw [r2]
      clear r2

      go_wp2_with fail
      go_ret
      exact ⟨_, rfl, congrArg (Value.int .i64) hk9.out, HB.out⟩
set_option maxHeartbeats 4000000 in
set_option maxRecDepth 100000 in
theorem rcmpP_v (w : World) {u v : Value} {z y : Int} {a b : Nat} {k : Int} (h0 : QP w u z a) (h1 : QP w v y b) (hpa : Psz z a 300) (hpb : Psz y b 300) (hkc : qs (mkRat z (dn a) - mkRat y (dn b)) = k) : Calls Tryz.prog 29 #[u, v] w fun e w' => ∃ r, e = .returned r ∧ r = .int .i64 k ∧ Grows w w' := by
  obtain ⟨n0, A0, k0, c0, B0, j0, d0, l0, rfl, s0, t0, hl0⟩ := h0
  have hk0 : szz z ≤ 1000 := s0.size
  obtain ⟨n1, A1, k1, c1, B1, j1, d1, l1, rfl, s1, t1, hl1⟩ := h1
  have hk1 : szz y ≤ 1000 := s1.size
  go_enter Tryz.func29, Tryz.ntmps29
  go_upto_region 1 with fail
  obtain ⟨x0, ex0, HB, D0, D1⟩ := st_33 w 26 (.bool n0) (.slice A0 k0 c0) (.slice B0 j0 d0) 26 (.bool n1) (.slice A1 k1 c1) (.slice B1 j1 d1)
  rw [ex0]
  clear ex0
  replace HB := Lib.hid HB
  replace D0 := Lib.hid D0
  replace D1 := Lib.hid D1
  have SN0 := Lib.hid (s0.below HB.out)
  clear s0
  have SD0 := Lib.hid (t0.below HB.out)
  clear t0
  have SN1 := Lib.hid (s1.below HB.out)
  clear s1
  have SD1 := Lib.hid (t1.below HB.out)
  clear t1
  refine wp_region_calm 4 [] ([fun vq wq => QP wq vq z a,
      fun vq wq => QP wq vq y b,
      fun vq wq => RV wq vq ((mkRat z (dn a) - mkRat y (dn b))),
      fun vq _ => vq = .int .i64 k]) (by kernel_rfl) (by decide) ?_ ?_ ?_
  · intro j hj; cases hj
  · refine po rfl (fun lq aq wq hk hr K hK => ?_) ?_
    · have B2 : ev aq (.tmp 2) = .pointer (some ⟨w.heap.size, 0, none⟩) := hk.base 2 (by kernel_rfl) rfl
      have hb : Below _ _ _ := hk.ext
      exact vc hK (op_load3 2 _ B2 (D0.out.below hb)) (fun w2 h2 => QP.grow ⟨_, _, _, _, _, _, _, _, rfl, (SN0.out.below hb), (SD0.out.below hb), hl0⟩ h2)
    refine po rfl (fun lq aq wq hk hr K hK => ?_) ?_
    · have B3 : ev aq (.tmp 3) = .pointer (some ⟨w.heap.size + 1, 0, none⟩) := hk.base 3 (by kernel_rfl) rfl
      have hb : Below _ _ _ := hk.ext
      exact vc hK (op_load3 3 _ B3 (D1.out.below hb)) (fun w2 h2 => QP.grow ⟨_, _, _, _, _, _, _, _, rfl, (SN1.out.below hb), (SD1.out.below hb), hl1⟩ h2)
    refine po rfl (fun lq aq wq hk hr K hK => ?_) ?_
    · obtain ⟨v0, E0, r0⟩ := hk.dp hr 0 5 (by kernel_rfl)
      have r0 : QP wq v0 z a := r0
      obtain ⟨v1, E1, r1⟩ := hk.dp hr 1 6 (by kernel_rfl)
      have r1 : QP wq v1 y b := r1
      exact yc hK (by go_simp) (rsubP_v wq r0 r1 hpa hpb) (fun u w1 hu w2 h2 => (hu).grow h2)
    refine po rfl (fun lq aq wq hk hr K hK => ?_) ?_
    · obtain ⟨v2, E2, r2⟩ := hk.dp hr 2 7 (by kernel_rfl)
      have r2 : RV wq v2 ((mkRat z (dn a) - mkRat y (dn b))) := r2
      exact yc hK (by go_simp) (rsign_v wq (r2).qp hkc) (fun u w1 hu w2 h2 => hu)
    exact AllOps.nil
  intro V x1 hG hV hap
  have r3 : (V 3) = .int .i64 k := hV 3 (by decide)
  clear hV hap
  simp only [List.take_succ_cons, List.take_zero, List.drop_succ_cons, List.drop_zero, putAll, Act.put, List.setIfInBounds_toArray, List.set_cons_zero, List.set_cons_succ]
  have hb := (show Below _ _ _ from hG)
  replace D0 := Lib.hid (D0.out.below hb)
  replace SN0 := Lib.hid (SN0.out.below hb)
  replace SD0 := Lib.hid (SD0.out.below hb)
  replace D1 := Lib.hid (D1.out.below hb)
  replace SN1 := Lib.hid (SN1.out.below hb)
  replace SD1 := Lib.hid (SD1.out.below hb)
  replace HB := Lib.hid (HB.out.trans (Below.mono hb HB.out.size))
  clear hb hG
  rw [r3]
  clear r3

  go_wp2_with fail
  go_ret
  exact ⟨_, rfl, rfl, HB.out⟩
end Go.Proofs.YtbippecchpaleaaGreatDoor
