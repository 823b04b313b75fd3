import Derived.Test.YtbippecchpaleaaGreatDoorRatOA
import Derived.Test.YtbippecchpaleaaGreatDoorKept3
/- litmuslaw03.RatShares returns true. -/
namespace Go.Proofs.YtbippecchpaleaaGreatDoor
open Go.RowKit Go.Num Go.Kp
attribute [local go_sem] Oper.semAt_some u64_mask ev_const ev_func ev_global
set_option maxHeartbeats 16000000 in
set_option maxRecDepth 100000 in
theorem ratShares_any (w : World) (nP0 : Bool) (mP0 pP0 : Value) (lP0 rP0 : List Nat) (nP1 : Bool) (mP1 pP1 : Value) (lP1 rP1 : List Nat) (hlen : HasLen w) (hP0 : Arg encU w mP0 lP0) (kP0 : Arg encU w pP0 rP0) (hL0 : Lim lP0) (hM0 : Lim rP0) (hN0 : lP0.length ≤ 9223372036854775807) (hO0 : rP0.length ≤ 9223372036854775807) (hP1 : Arg encU w mP1 lP1) (kP1 : Arg encU w pP1 rP1) (hL1 : Lim lP1) (hM1 : Lim rP1) (hN1 : lP1.length ≤ 9223372036854775807) (hO1 : rP1.length ≤ 9223372036854775807) : Calls Tryz.prog 7 #[.agg #[.bool nP0, mP0, pP0], .agg #[.bool nP1, mP1, pP1]] w fun e w' => e = .returned (.bool true) ∧ Below w.heap.size w w' := by
  obtain ⟨fP0, hf0⟩ : ∃ f, lP0.take 4 = f := ⟨_, rfl⟩
  obtain ⟨gP0, hg0⟩ : ∃ g, rP0.take 4 = g := ⟨_, rfl⟩
  obtain ⟨a, hq0⟩ : ∃ q, lrat nP0 fP0 gP0 = q := ⟨_, rfl⟩
  have hs0 : Qsz a 4 := hq0 ▸ few_qsz nP0 4 hf0 hg0 hL0 hM0 (by decide)
  have hlim0 := Lib.hid hL0
  have hlimd0 := Lib.hid hM0
  have hlen0 := Lib.hid hN0
  have hlend0 := Lib.hid hO0
  obtain ⟨AP0, cP0, eP0, -, -⟩ := hP0.open_
  subst eP0
  obtain ⟨BP0, dP0, eP0, -, -⟩ := kP0.open_
  subst eP0
  clear hL0 hM0 hN0 hO0
  obtain ⟨fP1, hf1⟩ : ∃ f, lP1.take 4 = f := ⟨_, rfl⟩
  obtain ⟨gP1, hg1⟩ : ∃ g, rP1.take 4 = g := ⟨_, rfl⟩
  obtain ⟨b, hq1⟩ : ∃ q, lrat nP1 fP1 gP1 = q := ⟨_, rfl⟩
  have hs1 : Qsz b 4 := hq1 ▸ few_qsz nP1 4 hf1 hg1 hL1 hM1 (by decide)
  have hlim1 := Lib.hid hL1
  have hlimd1 := Lib.hid hM1
  have hlen1 := Lib.hid hN1
  have hlend1 := Lib.hid hO1
  obtain ⟨AP1, cP1, eP1, -, -⟩ := hP1.open_
  subst eP1
  obtain ⟨BP1, dP1, eP1, -, -⟩ := kP1.open_
  subst eP1
  clear hL1 hM1 hN1 hO1
  go_enter Tryz.func7, Tryz.ntmps7
  go_upto_region 1 with fail
  have HB := Below.refl w.heap.size w
  have z0 : w.heap.size = w.heap.size := rfl
  have D0 := Box3.new w 26 (.bool nP0) (.slice AP0 lP0.length cP0) (.slice BP0 rP0.length dP0)
  rw [z0] at D0
  replace HB := HB.alloc (by rw [z0]; omega) (.cells #[.bool nP0, .slice AP0 lP0.length cP0, .slice BP0 rP0.length dP0] 26)
  have z1 : (w.alloc (.cells #[.bool nP0, .slice AP0 lP0.length cP0, .slice BP0 rP0.length dP0] 26)).heap.size = w.heap.size + 1 := by rw [World.size_alloc, z0]
  generalize w.alloc (.cells #[.bool nP0, .slice AP0 lP0.length cP0, .slice BP0 rP0.length dP0] 26) = u0 at *
  have D1 := Box3.new u0 26 (.bool nP1) (.slice AP1 lP1.length cP1) (.slice BP1 rP1.length dP1)
  rw [z1] at D1
  replace D0 := D0.alloc (.cells #[.bool nP1, .slice AP1 lP1.length cP1, .slice BP1 rP1.length dP1] 26)
  replace HB := HB.alloc (by rw [z1]; omega) (.cells #[.bool nP1, .slice AP1 lP1.length cP1, .slice BP1 rP1.length dP1] 26)
  have z2 : (u0.alloc (.cells #[.bool nP1, .slice AP1 lP1.length cP1, .slice BP1 rP1.length dP1] 26)).heap.size = w.heap.size + 1 + 1 := by rw [World.size_alloc, z1]
  generalize u0.alloc (.cells #[.bool nP1, .slice AP1 lP1.length cP1, .slice BP1 rP1.length dP1] 26) = u1 at *
  clear z0 z1 z2
  replace HB := Lib.hid HB
  replace D0 := Lib.hid D0
  have SN0 := Lib.hid (hP0.below HB.out)
  have SD0 := Lib.hid (kP0.below HB.out)
  clear hP0 kP0
  replace D1 := Lib.hid D1
  have SN1 := Lib.hid (hP1.below HB.out)
  have SD1 := Lib.hid (kP1.below HB.out)
  clear hP1 kP1
  have HL := Lib.hid hlen
  clear hlen
  refine wp_region_calm 2 [] ([fun vq _ => vq = .bool true,
      fun vq _ => vq = .bool false]) (by kernel_rfl) (by decide) ?_ ?_ ?_
  · intro j hj; cases hj
  · refine po rfl (fun lq aq wq hk hr K hK => ?_) ?_
    · exact yc hK (by go_simp) (qworks_v wq (HL.out.below (HB.out.trans (Below.mono hk.ext HB.out.size)))) (fun u w1 hu w2 h2 => hu)
    refine po rfl (fun lq aq wq hk hr K hK => ?_) ?_
    · have E0 : ev aq (.tmp 13) = .bool true := hk.dc hr 0 (by kernel_rfl) fun _ _ h => h
      exact vc hK (by go_simp) (fun w2 h2 => rfl)
    exact AllOps.nil
  intro V x1 hG hV hap
  have r1 : (V 1) = .bool false := hV 1 (by decide)
  clear hV hap
  simp only [List.take_succ_cons, List.take_nil, List.drop_succ_cons, List.drop_nil, putAll, Act.put, List.setIfInBounds_toArray, List.set_cons_zero, List.set_cons_succ]
  have hb := (show Below _ _ _ from hG)
  replace D0 := Lib.hid (D0.out.below hb)
  replace SN0 := Lib.hid (SN0.out.below hb)
  replace SD0 := Lib.hid (SD0.out.below hb)
  replace D1 := Lib.hid (D1.out.below hb)
  replace SN1 := Lib.hid (SN1.out.below hb)
  replace SD1 := Lib.hid (SD1.out.below hb)
  replace HB := Lib.hid (HB.out.trans (Below.mono hb HB.out.size))
  clear hb hG
  rw [r1]
  clear r1
  go_upto_region 3 with fail
  refine wp_region_going 4 [] ([fun vq _ => vq = .agg #[.bool nP0, .slice AP0 lP0.length cP0, .slice BP0 rP0.length dP0],
      fun vq wq => QL wq vq nP0 fP0 gP0,
      fun vq _ => vq = .agg #[.bool nP1, .slice AP1 lP1.length cP1, .slice BP1 rP1.length dP1],
      fun vq wq => QL wq vq nP1 fP1 gP1]) (by kernel_rfl) (by kernel_rfl) (by decide) (by kernel_rfl) (by kernel_rfl) ?_ ?_ ?_
  · intro j hj; cases hj
  · refine po rfl (fun lq aq wq hk hr K hK => ?_) ?_
    · have B2 : ev aq (.tmp 2) = .pointer (some ⟨w.heap.size, 0, none⟩) := hk.base 2 (by kernel_rfl) rfl
      have hb := grows_of hk.ext
      exact vc hK (op_load3 2 _ B2 (D0.out.below hb)) (fun w2 h2 => rfl)
    refine po rfl (fun lq aq wq hk hr K hK => ?_) ?_
    · have E0 : ev aq (.tmp 15) = .agg #[.bool nP0, .slice AP0 lP0.length cP0, .slice BP0 rP0.length dP0] := hk.dc hr 0 (by kernel_rfl) fun _ _ h => h
      exact yc hK (by go_simp) (few3_v wq 4 (i := 4) rfl (SN0.out.below (grows_of hk.ext)) (SD0.out.below (grows_of hk.ext)) hlim0.out hlen0.out hlimd0.out hlend0.out (by decide) hf0 hg0) (fun u w1 hu w2 h2 => (hu).grow h2)
    refine po rfl (fun lq aq wq hk hr K hK => ?_) ?_
    · have B3 : ev aq (.tmp 3) = .pointer (some ⟨w.heap.size + 1, 0, none⟩) := hk.base 3 (by kernel_rfl) rfl
      have hb := grows_of hk.ext
      exact vc hK (op_load3 3 _ B3 (D1.out.below hb)) (fun w2 h2 => rfl)
    refine po rfl (fun lq aq wq hk hr K hK => ?_) ?_
    · have E2 : ev aq (.tmp 17) = .agg #[.bool nP1, .slice AP1 lP1.length cP1, .slice BP1 rP1.length dP1] := hk.dc hr 2 (by kernel_rfl) fun _ _ h => h
      exact yc hK (by go_simp) (few3_v wq 4 (i := 4) rfl (SN1.out.below (grows_of hk.ext)) (SD1.out.below (grows_of hk.ext)) hlim1.out hlen1.out hlimd1.out hlend1.out (by decide) hf1 hg1) (fun u w1 hu w2 h2 => (hu).grow h2)
    exact AllOps.nil
  intro V x2 hG hV hap
  have r1 : QL x2 (V 1) nP0 fP0 gP0 := hV 1 (by decide)
  have r3 : QL x2 (V 3) nP1 fP1 gP1 := hV 3 (by decide)
  clear hV hap
  simp only [List.take_succ_cons, List.take_zero, List.drop_succ_cons, List.drop_zero, putAll, Act.put, List.setIfInBounds_toArray, List.set_cons_zero, List.set_cons_succ]
  have hb := grows_of hG
  obtain ⟨Am3, cm3, Bm3, dm3, em3, sm3, tm3, hlm3, hmm3⟩ := r1
  simp only [em3]
  clear em3
  obtain ⟨Am4, cm4, Bm4, dm4, em4, sm4, tm4, hlm4, hmm4⟩ := r3
  simp only [em4]
  clear em4
  clear hG
  replace D0 := D0.out.below hb
  refine wpList_of_skip rfl (op_store3 2 16 _ rfl rfl D0) ?_
  replace D1 := Lib.hid (put3_far (x' := .bool nP0) (y' := .slice Am3 fP0.length cm3) (z' := .slice Bm3 gP0.length dm3) (D1.out.below hb) (show w.heap.size + 1 ≠ w.heap.size by omega))
  replace SN1 := Lib.hid ((SN1.out.below hb).put3 D0 (.bool nP0) (.slice Am3 fP0.length cm3) (.slice Bm3 gP0.length dm3))
  replace SD1 := Lib.hid ((SD1.out.below hb).put3 D0 (.bool nP0) (.slice Am3 fP0.length cm3) (.slice Bm3 gP0.length dm3))
  replace sm4 := sm4.put3 D0 (.bool nP0) (.slice Am3 fP0.length cm3) (.slice Bm3 gP0.length dm3)
  replace tm4 := tm4.put3 D0 (.bool nP0) (.slice Am3 fP0.length cm3) (.slice Bm3 gP0.length dm3)
  replace SN0 := Lib.hid (sm3.put3 D0 (.bool nP0) (.slice Am3 fP0.length cm3) (.slice Bm3 gP0.length dm3))
  replace SD0 := Lib.hid (tm3.put3 D0 (.bool nP0) (.slice Am3 fP0.length cm3) (.slice Bm3 gP0.length dm3))
  replace HB := Lib.hid (put3_below (x' := .bool nP0) (y' := .slice Am3 fP0.length cm3) (z' := .slice Bm3 gP0.length dm3) (HB.out.trans (Below.mono hb HB.out.size)) (show w.heap.size ≤ w.heap.size by omega))
  replace D0 := Lib.hid (put3_own (x' := .bool nP0) (y' := .slice Am3 fP0.length cm3) (z' := .slice Bm3 gP0.length dm3) D0)
  clear hb sm3 tm3
  generalize put3 x2 w.heap.size (.bool nP0) (.slice Am3 fP0.length cm3) (.slice Bm3 gP0.length dm3) = y5 at *
  have hkm3 : szz (sg nP0 (val fP0)) ≤ 1000 := by unfold szz; rw [sg_natAbs]; exact Nat.le_trans (sz_num SN0.out) hlm3
  have hb := Below.refl (y5).heap.size (y5)
  replace D1 := D1.out.below hb
  refine wpList_of_skip rfl (op_store3 3 18 _ rfl rfl D1) ?_
  replace D0 := Lib.hid (put3_far (x' := .bool nP1) (y' := .slice Am4 fP1.length cm4) (z' := .slice Bm4 gP1.length dm4) (D0.out.below hb) (show w.heap.size ≠ w.heap.size + 1 by omega))
  replace SN0 := Lib.hid ((SN0.out.below hb).put3 D1 (.bool nP1) (.slice Am4 fP1.length cm4) (.slice Bm4 gP1.length dm4))
  replace SD0 := Lib.hid ((SD0.out.below hb).put3 D1 (.bool nP1) (.slice Am4 fP1.length cm4) (.slice Bm4 gP1.length dm4))
  replace SN1 := Lib.hid (sm4.put3 D1 (.bool nP1) (.slice Am4 fP1.length cm4) (.slice Bm4 gP1.length dm4))
  replace SD1 := Lib.hid (tm4.put3 D1 (.bool nP1) (.slice Am4 fP1.length cm4) (.slice Bm4 gP1.length dm4))
  replace HB := Lib.hid (put3_below (x' := .bool nP1) (y' := .slice Am4 fP1.length cm4) (z' := .slice Bm4 gP1.length dm4) (HB.out.trans (Below.mono hb HB.out.size)) (show w.heap.size ≤ w.heap.size + 1 by omega))
  replace D1 := Lib.hid (put3_own (x' := .bool nP1) (y' := .slice Am4 fP1.length cm4) (z' := .slice Bm4 gP1.length dm4) D1)
  clear hb sm4 tm4
  generalize put3 y5 (w.heap.size + 1) (.bool nP1) (.slice Am4 fP1.length cm4) (.slice Bm4 gP1.length dm4) = y6 at *
  have hkm4 : szz (sg nP1 (val fP1)) ≤ 1000 := by unfold szz; rw [sg_natAbs]; exact Nat.le_trans (sz_num SN1.out) hlm4
  go_upto_region 4 with fail
  have lw0 := D0.out.lt
  have lw1 := D1.out.lt
  refine wp_region_going 6 [4, 5] ([fun vq wq => QL wq vq nP0 fP0 gP0,
      fun vq wq => QL wq vq nP0 fP0 gP0,
      fun vq wq => QL wq vq nP1 fP1 gP1,
      fun vq wq => QL wq vq nP1 fP1 gP1,
      fun vq wq => ∃ bq, vq = .pointer (some ⟨bq, 0, none⟩) ∧ BoxN wq bq 26 #[.bool false, .slice none 0 0, .slice none 0 0] ∧ (y6).heap.size ≤ bq,
      fun vq wq => ∃ bq, vq = .pointer (some ⟨bq, 0, none⟩) ∧ BoxN wq bq 26 #[.bool false, .slice none 0 0, .slice none 0 0] ∧ (y6).heap.size ≤ bq]) (by kernel_rfl) (by kernel_rfl) (by decide) (by kernel_rfl) (by kernel_rfl) ?_ ?_ ?_
  · intro j hj v w h
    simp only [List.mem_cons, List.not_mem_nil, or_false] at hj
    rcases hj with rfl | rfl
    all_goals (obtain ⟨b, rfl, hB, _⟩ := h; exact hB.lt)
  · refine po rfl (fun lq aq wq hk hr K hK => ?_) ?_
    · have B2 : ev aq (.tmp 2) = .pointer (some ⟨w.heap.size, 0, none⟩) := hk.base 2 (by kernel_rfl) rfl
      have hb := grows_of hk.ext
      exact vc hK (op_load3 2 _ B2 (D0.out.below hb)) (fun w2 h2 => QL.grow ⟨_, _, _, _, rfl, (SN0.out.below hb), (SD0.out.below hb), hlm3, hmm3⟩ h2)
    refine po rfl (fun lq aq wq hk hr K hK => ?_) ?_
    · obtain ⟨v0, E0, r0⟩ := hk.dp hr 0 19 (by kernel_rfl)
      have r0 : QL wq v0 nP0 fP0 gP0 := r0
      exact yc hK (by go_simp) (copied_v wq r0) (fun u w1 hu w2 h2 => (hu).grow h2)
    refine po rfl (fun lq aq wq hk hr K hK => ?_) ?_
    · have B3 : ev aq (.tmp 3) = .pointer (some ⟨w.heap.size + 1, 0, none⟩) := hk.base 3 (by kernel_rfl) rfl
      have hb := grows_of hk.ext
      exact vc hK (op_load3 3 _ B3 (D1.out.below hb)) (fun w2 h2 => QL.grow ⟨_, _, _, _, rfl, (SN1.out.below hb), (SD1.out.below hb), hlm4, hmm4⟩ h2)
    refine po rfl (fun lq aq wq hk hr K hK => ?_) ?_
    · obtain ⟨v2, E2, r2⟩ := hk.dp hr 2 21 (by kernel_rfl)
      have r2 : QL wq v2 nP1 fP1 gP1 := r2
      exact yc hK (by go_simp) (copied_v wq r2) (fun u w1 hu w2 h2 => (hu).grow h2)
    refine po rfl (fun lq aq wq hk hr K hK => ?_) ?_
    · exact wp_of_value (by go_simp) (hK.out _ _ ((Grows.refl _).alloc _) (fun w2 h2 => ⟨_, rfl, (BoxN.new wq 26 _).below h2, (grows_of hk.ext).size⟩) (fun _ => Nat.le_refl _))
    refine po rfl (fun lq aq wq hk hr K hK => ?_) ?_
    · exact wp_of_value (by go_simp) (hK.out _ _ ((Grows.refl _).alloc _) (fun w2 h2 => ⟨_, rfl, (BoxN.new wq 26 _).below h2, (grows_of hk.ext).size⟩) (fun _ => Nat.le_refl _))
    exact AllOps.nil
  intro V x7 hG hV hap
  have r1 : QL x7 (V 1) nP0 fP0 gP0 := hV 1 (by decide)
  have r3 : QL x7 (V 3) nP1 fP1 gP1 := hV 3 (by decide)
  have r4 : ∃ bq, (V 4) = .pointer (some ⟨bq, 0, none⟩) ∧ BoxN x7 bq 26 #[.bool false, .slice none 0 0, .slice none 0 0] ∧ (y6).heap.size ≤ bq := hV 4 (by decide)
  have r5 : ∃ bq, (V 5) = .pointer (some ⟨bq, 0, none⟩) ∧ BoxN x7 bq 26 #[.bool false, .slice none 0 0, .slice none 0 0] ∧ (y6).heap.size ≤ bq := hV 5 (by decide)
  clear hV
  simp only [List.take_succ_cons, List.take_zero, List.drop_succ_cons, List.drop_zero, putAll, Act.put, List.setIfInBounds_toArray, List.set_cons_zero, List.set_cons_succ]
  have hb := grows_of hG
  obtain ⟨bx, ex, Dx, gx⟩ := r4
  obtain ⟨Ax, cx, Bx, dx, ex9, sx, tx, hlx, hmx⟩ := r1
  obtain ⟨bz, ey, Dy, gy⟩ := r5
  obtain ⟨Ay, cy, By, dy, ey9, sy, ty, hly, hmy⟩ := r3
  have nnxy := hap 4 5 (by decide) (by decide) (by decide) (by decide) (by decide) rfl rfl
  rw [ex, ey] at nnxy
  replace nnxy : bx ≠ bz := nnxy
  simp only [ex, ex9, ey, ey9]
  clear hap hG ex ex9 ey ey9
  replace Dx : Box3 _ bx 26 (.bool false) (.slice none 0 0) (.slice none 0 0) := Dx
  replace Dy : Box3 _ bz 26 (.bool false) (.slice none 0 0) (.slice none 0 0) := Dy
  refine wpList_of_skip rfl (op_store3 5 20 _ rfl rfl Dx) ?_
  have hB1 := put3_below (x' := .bool nP0) (y' := .slice Ax fP0.length cx) (z' := .slice Bx gP0.length dx) hb gx
  replace sx := sx.put3 Dx (.bool nP0) (.slice Ax fP0.length cx) (.slice Bx gP0.length dx)
  replace tx := tx.put3 Dx (.bool nP0) (.slice Ax fP0.length cx) (.slice Bx gP0.length dx)
  replace sy := sy.put3 Dx (.bool nP0) (.slice Ax fP0.length cx) (.slice Bx gP0.length dx)
  replace ty := ty.put3 Dx (.bool nP0) (.slice Ax fP0.length cx) (.slice Bx gP0.length dx)
  replace Dy := put3_far (x' := .bool nP0) (y' := .slice Ax fP0.length cx) (z' := .slice Bx gP0.length dx) Dy (Ne.symm nnxy)
  replace Dx := put3_own (x' := .bool nP0) (y' := .slice Ax fP0.length cx) (z' := .slice Bx gP0.length dx) Dx
  refine wpList_of_skip rfl (op_store3 6 22 _ rfl rfl Dy) ?_
  have hB2 := put3_below (x' := .bool nP1) (y' := .slice Ay fP1.length cy) (z' := .slice By gP1.length dy) hB1 gy
  replace sx := sx.put3 Dy (.bool nP1) (.slice Ay fP1.length cy) (.slice By gP1.length dy)
  replace tx := tx.put3 Dy (.bool nP1) (.slice Ay fP1.length cy) (.slice By gP1.length dy)
  replace sy := sy.put3 Dy (.bool nP1) (.slice Ay fP1.length cy) (.slice By gP1.length dy)
  replace ty := ty.put3 Dy (.bool nP1) (.slice Ay fP1.length cy) (.slice By gP1.length dy)
  replace Dx := put3_far (x' := .bool nP1) (y' := .slice Ay fP1.length cy) (z' := .slice By gP1.length dy) Dx nnxy
  replace Dy := put3_own (x' := .bool nP1) (y' := .slice Ay fP1.length cy) (z' := .slice By gP1.length dy) Dy
  clear hb hB1
  generalize put3 (put3 x7 bx (.bool nP0) (.slice Ax fP0.length cx) (.slice Bx gP0.length dx)) bz (.bool nP1) (.slice Ay fP1.length cy) (.slice By gP1.length dy) = y8 at *
  replace D0 := Lib.hid (D0.out.below hB2)
  replace SN0 := Lib.hid (SN0.out.below hB2)
  replace SD0 := Lib.hid (SD0.out.below hB2)
  replace D1 := Lib.hid (D1.out.below hB2)
  replace SN1 := Lib.hid (SN1.out.below hB2)
  replace SD1 := Lib.hid (SD1.out.below hB2)
  replace HB := Lib.hid (HB.out.trans (Below.mono hB2 HB.out.size))
  clear hB2 gx gy nnxy
  clear lw0
  clear lw1
  have hkx : szz (sg nP0 (val fP0)) ≤ 1000 := by unfold szz; rw [sg_natAbs]; exact Nat.le_trans (sz_num sx) hlx
  replace Dx := Lib.hid Dx
  have SNx := Lib.hid sx
  have SDx := Lib.hid tx
  clear sx tx
  have hky : szz (sg nP1 (val fP1)) ≤ 1000 := by unfold szz; rw [sg_natAbs]; exact Nat.le_trans (sz_num sy) hly
  replace Dy := Lib.hid Dy
  have SNy := Lib.hid sy
  have SDy := Lib.hid ty
  clear sy ty
  have D09 := D0
  have SN09 := SN0
  have SD09 := SD0
  have D19 := D1
  have SN19 := SN1
  have SD19 := SD1
  have Dx9 := Dx
  have SNx9 := SNx
  have SDx9 := SDx
  have Dy9 := Dy
  have SNy9 := SNy
  have SDy9 := SDy
  have HB9 := HB
  clear HL
  replace HB := Lib.hid (Below.refl y8.heap.size y8)
  clear D0 SN0 SD0
  clear D1 SN1 SD1
  go_upto_region 5 with fail
  refine wp_region_calm 7 [6] ([fun vq wq => QL wq vq nP0 fP0 gP0,
      fun vq wq => QL wq vq nP1 fP1 gP1,
      fun vq wq => ∃ u0 u1, vq = .tuple #[u0, u1] ∧ OA y8.heap.size wq u0 ∧ ∃ j : Int, u1 = .int .i64 j,
      fun vq wq => ∃ u0 u1, vq = .tuple #[u0, u1] ∧ OA y8.heap.size wq u0 ∧ ∃ j : Int, u1 = .int .i64 j,
      fun vq wq => OA y8.heap.size wq vq,
      fun vq wq => ∃ j : Int, vq = .int .i64 j,
      fun vq wq => ∃ bq, vq = .pointer (some ⟨bq, 0, none⟩) ∧ BoxN wq bq 26 #[.bool false, .slice none 0 0, .slice none 0 0] ∧ (y8).heap.size ≤ bq]) (by kernel_rfl) (by decide) ?_ ?_ ?_
  · intro j hj v w h
    simp only [List.mem_cons, List.not_mem_nil, or_false] at hj
    subst hj
    all_goals (obtain ⟨b, rfl, hB, _⟩ := h; exact hB.lt)
  · refine po rfl (fun lq aq wq hk hr K hK => ?_) ?_
    · have B5 : ev aq (.tmp 5) = .pointer (some ⟨bx, 0, none⟩) := hk.base 5 (by kernel_rfl) rfl
      have hb : Below _ _ _ := hk.ext
      exact vc hK (op_load3 5 _ B5 (Dx.out.below hb)) (fun w2 h2 => QL.grow ⟨_, _, _, _, rfl, (SNx.out.below hb), (SDx.out.below hb), hlx, hmx⟩ h2)
    refine po rfl (fun lq aq wq hk hr K hK => ?_) ?_
    · have B6 : ev aq (.tmp 6) = .pointer (some ⟨bz, 0, none⟩) := hk.base 6 (by kernel_rfl) rfl
      have hb : Below _ _ _ := hk.ext
      exact vc hK (op_load3 6 _ B6 (Dy.out.below hb)) (fun w2 h2 => QL.grow ⟨_, _, _, _, rfl, (SNy.out.below hb), (SDy.out.below hb), hly, hmy⟩ h2)
    refine po rfl (fun lq aq wq hk hr K hK => ?_) ?_
    · obtain ⟨v0, E0, r0⟩ := hk.dp hr 0 24 (by kernel_rfl)
      have r0 : QL wq v0 nP0 fP0 gP0 := r0
      obtain ⟨v1, E1, r1⟩ := hk.dp hr 1 25 (by kernel_rfl)
      have r1 : QL wq v1 nP1 fP1 gP1 := r1
      exact yc hK (by go_simp) (qdiv_oa wq (Nat.le_trans HB.out.size hk.ext.size) ((r0).qv.to hq0) ((r1).qv.to hq1) (hs0.mono (by decide)) (hs1.mono (by decide))) (fun u w1 hu w2 h2 => (let ⟨u0, u1, e0, h0, h1⟩ := hu; ⟨u0, u1, e0, OA.grow (h0) h2, h1⟩))
    refine po rfl (fun lq aq wq hk hr K hK => ?_) ?_
    · obtain ⟨v2, E2, r2⟩ := hk.dp hr 2 26 (by kernel_rfl)
      have r2 : ∃ u0 u1, v2 = .tuple #[u0, u1] ∧ OA y8.heap.size wq u0 ∧ ∃ j : Int, u1 = .int .i64 j := r2
      exact vc hK (by go_simp) (fun w2 h2 => (let ⟨u0, u1, e0, h0, h1⟩ := r2; ⟨u0, u1, e0, OA.grow (h0) h2, h1⟩))
    refine po rfl (fun lq aq wq hk hr K hK => ?_) ?_
    · obtain ⟨v3, E3, r3⟩ := hk.dp hr 3 23 (by kernel_rfl)
      have r3 : ∃ u0 u1, v3 = .tuple #[u0, u1] ∧ OA y8.heap.size wq u0 ∧ ∃ j : Int, u1 = .int .i64 j := r3
      obtain ⟨u0, u1, rfl, h0, h1⟩ := r3
      exact vc hK (by go_simp) (fun w2 h2 => OA.grow (h0) h2)
    refine po rfl (fun lq aq wq hk hr K hK => ?_) ?_
    · obtain ⟨v3, E3, r3⟩ := hk.dp hr 3 23 (by kernel_rfl)
      have r3 : ∃ u0 u1, v3 = .tuple #[u0, u1] ∧ OA y8.heap.size wq u0 ∧ ∃ j : Int, u1 = .int .i64 j := r3
      obtain ⟨u0, u1, rfl, h0, h1⟩ := r3
      exact vc hK (by go_simp) (fun w2 h2 => h1)
    refine po rfl (fun lq aq wq hk hr K hK => ?_) ?_
    · exact wp_of_value (by go_simp) (hK.out _ _ ((Grows.refl _).alloc _) (fun w2 h2 => ⟨_, rfl, (BoxN.new wq 26 _).below h2, hk.ext.size⟩) (fun _ => Nat.le_refl _))
    exact AllOps.nil
  intro V x9 hG hV hap
  have r4 : OA y8.heap.size x9 (V 4) := hV 4 (by decide)
  have r5 : ∃ j : Int, (V 5) = .int .i64 j := hV 5 (by decide)
  have r6 : ∃ bq, (V 6) = .pointer (some ⟨bq, 0, none⟩) ∧ BoxN x9 bq 26 #[.bool false, .slice none 0 0, .slice none 0 0] ∧ (y8).heap.size ≤ bq := hV 6 (by decide)
  clear hV
  simp only [List.take_succ_cons, List.take_zero, List.drop_succ_cons, List.drop_zero, putAll, Act.put, List.setIfInBounds_toArray, List.set_cons_zero, List.set_cons_succ]
  have hb := (show Below _ _ _ from hG)
  obtain ⟨bq, eq, Dq, gq⟩ := r6
  obtain ⟨nq, Aq, kq, cq, Bq, jq, dq, eq9, oq⟩ := r4
  obtain ⟨iq, r5⟩ := r5
  simp only [eq, eq9, r5]
  clear eq eq9 hap hG r5
  replace Dq : Box3 _ bq 26 (.bool false) (.slice none 0 0) (.slice none 0 0) := Dq
  refine wpList_of_skip rfl (op_store3 7 27 _ rfl rfl Dq) ?_
  have hB1 := put3_below (x' := .bool nq) (y' := .slice Aq kq cq) (z' := .slice Bq jq dq) hb gq
  have o9 : OA y8.heap.size _ (.agg #[.bool nq, .slice Aq kq cq, .slice Bq jq dq]) := ⟨_, _, _, _, _, _, _, rfl, oq.1.put3 Dq (.bool nq) (.slice Aq kq cq) (.slice Bq jq dq), oq.2.1.put3 Dq (.bool nq) (.slice Aq kq cq) (.slice Bq jq dq), trivial⟩
  replace Dq := put3_own (x' := .bool nq) (y' := .slice Aq kq cq) (z' := .slice Bq jq dq) Dq
  clear hb oq
  generalize put3 x9 bq (.bool nq) (.slice Aq kq cq) (.slice Bq jq dq) = y10 at *
  replace Dx := Lib.hid (Dx.out.below hB1)
  replace SNx := Lib.hid (SNx.out.below hB1)
  replace SDx := Lib.hid (SDx.out.below hB1)
  replace Dy := Lib.hid (Dy.out.below hB1)
  replace SNy := Lib.hid (SNy.out.below hB1)
  replace SDy := Lib.hid (SDy.out.below hB1)
  replace HB := Lib.hid (HB.out.trans (Below.mono hB1 HB.out.size))
  replace Dq := Lib.hid Dq
  have Oq := Lib.hid o9
  clear hB1 gq o9
  go_upto_region 6 with fail
  refine wp_region_going 17 [] ([fun vq wq => QL wq vq nP0 fP0 gP0,
      fun vq wq => OA y8.heap.size wq vq,
      fun vq wq => QL wq vq nP0 fP0 gP0,
      fun vq wq => QL wq vq nP1 fP1 gP1,
      fun vq wq => OA y8.heap.size wq vq,
      fun vq wq => QL wq vq nP0 fP0 gP0,
      fun vq wq => QL wq vq nP1 fP1 gP1,
      fun vq wq => OA y8.heap.size wq vq,
      fun vq wq => OA y8.heap.size wq vq,
      fun vq _ => vq = .pointer (some ⟨bx, 0, none⟩),
      fun vq wq => WV wq vq ((sg nP0 (val fP0))),
      fun vq wq => OA y8.heap.size wq vq,
      fun vq wq => QL wq vq nP0 fP0 gP0,
      fun vq wq => ZO y8.heap.size wq vq ((Rat.floor a)),
      fun vq wq => OA y8.heap.size wq vq,
      fun vq wq => SixV (OA y8.heap.size) wq vq,
      fun vq _ => vq = .int .i64 0]) (by kernel_rfl) (by kernel_rfl) (by decide) (by kernel_rfl) (by kernel_rfl) ?_ ?_ ?_
  · intro j hj; cases hj
  · refine po rfl (fun lq aq wq hk hr K hK => ?_) ?_
    · have B5 : ev aq (.tmp 5) = .pointer (some ⟨bx, 0, none⟩) := hk.base 5 (by kernel_rfl) rfl
      have hb := grows_of hk.ext
      exact vc hK (op_load3 5 _ B5 (Dx.out.below hb)) (fun w2 h2 => QL.grow ⟨_, _, _, _, rfl, (SNx.out.below hb), (SDx.out.below hb), hlx, hmx⟩ h2)
    refine po rfl (fun lq aq wq hk hr K hK => ?_) ?_
    · obtain ⟨v0, E0, r0⟩ := hk.dp hr 0 29 (by kernel_rfl)
      have r0 : QL wq v0 nP0 fP0 gP0 := r0
      exact yc hK (by go_simp) (Calls.oa (rneg_o wq (Nat.le_trans HB.out.size (grows_of hk.ext).size) ((r0).qv.to hq0))) (fun u w1 hu w2 h2 => OA.grow (hu) h2)
    refine po rfl (fun lq aq wq hk hr K hK => ?_) ?_
    · have B5 : ev aq (.tmp 5) = .pointer (some ⟨bx, 0, none⟩) := hk.base 5 (by kernel_rfl) rfl
      have hb := grows_of hk.ext
      exact vc hK (op_load3 5 _ B5 (Dx.out.below hb)) (fun w2 h2 => QL.grow ⟨_, _, _, _, rfl, (SNx.out.below hb), (SDx.out.below hb), hlx, hmx⟩ h2)
    refine po rfl (fun lq aq wq hk hr K hK => ?_) ?_
    · have B6 : ev aq (.tmp 6) = .pointer (some ⟨bz, 0, none⟩) := hk.base 6 (by kernel_rfl) rfl
      have hb := grows_of hk.ext
      exact vc hK (op_load3 6 _ B6 (Dy.out.below hb)) (fun w2 h2 => QL.grow ⟨_, _, _, _, rfl, (SNy.out.below hb), (SDy.out.below hb), hly, hmy⟩ h2)
    refine po rfl (fun lq aq wq hk hr K hK => ?_) ?_
    · obtain ⟨v2, E2, r2⟩ := hk.dp hr 2 31 (by kernel_rfl)
      have r2 : QL wq v2 nP0 fP0 gP0 := r2
      obtain ⟨v3, E3, r3⟩ := hk.dp hr 3 32 (by kernel_rfl)
      have r3 : QL wq v3 nP1 fP1 gP1 := r3
      exact yc hK (by go_simp) (Calls.oa (qadd_o wq (Nat.le_trans HB.out.size (grows_of hk.ext).size) ((r2).qv.to hq0) ((r3).qv.to hq1) (hs0.mono (by decide)) (hs1.mono (by decide)))) (fun u w1 hu w2 h2 => OA.grow (hu) h2)
    refine po rfl (fun lq aq wq hk hr K hK => ?_) ?_
    · have B5 : ev aq (.tmp 5) = .pointer (some ⟨bx, 0, none⟩) := hk.base 5 (by kernel_rfl) rfl
      have hb := grows_of hk.ext
      exact vc hK (op_load3 5 _ B5 (Dx.out.below hb)) (fun w2 h2 => QL.grow ⟨_, _, _, _, rfl, (SNx.out.below hb), (SDx.out.below hb), hlx, hmx⟩ h2)
    refine po rfl (fun lq aq wq hk hr K hK => ?_) ?_
    · have B6 : ev aq (.tmp 6) = .pointer (some ⟨bz, 0, none⟩) := hk.base 6 (by kernel_rfl) rfl
      have hb := grows_of hk.ext
      exact vc hK (op_load3 6 _ B6 (Dy.out.below hb)) (fun w2 h2 => QL.grow ⟨_, _, _, _, rfl, (SNy.out.below hb), (SDy.out.below hb), hly, hmy⟩ h2)
    refine po rfl (fun lq aq wq hk hr K hK => ?_) ?_
    · obtain ⟨v5, E5, r5⟩ := hk.dp hr 5 34 (by kernel_rfl)
      have r5 : QL wq v5 nP0 fP0 gP0 := r5
      obtain ⟨v6, E6, r6⟩ := hk.dp hr 6 35 (by kernel_rfl)
      have r6 : QL wq v6 nP1 fP1 gP1 := r6
      exact yc hK (by go_simp) (Calls.oa (qmul_o wq (Nat.le_trans HB.out.size (grows_of hk.ext).size) ((r5).qv.to hq0) ((r6).qv.to hq1) (hs0.mono (by decide)) (hs1.mono (by decide)))) (fun u w1 hu w2 h2 => OA.grow (hu) h2)
    refine po rfl (fun lq aq wq hk hr K hK => ?_) ?_
    · have B7 : ev aq (.tmp 7) = .pointer (some ⟨bq, 0, none⟩) := hk.base 7 (by kernel_rfl) rfl
      have hb := grows_of hk.ext
      exact vc hK (op_load3 7 _ B7 (Dq.out.below hb)) (fun w2 h2 => OA.grow (Oq.out.grow hb) h2)
    refine po rfl (fun lq aq wq hk hr K hK => ?_) ?_
    · have B5 : ev aq (.tmp 5) = .pointer (some ⟨bx, 0, none⟩) := hk.base 5 (by kernel_rfl) rfl
      exact vc hK (by go_simp) (fun w2 h2 => rfl)
    refine po rfl (fun lq aq wq hk hr K hK => ?_) ?_
    · have E9 : ev aq (.tmp 38) = .pointer (some ⟨bx, 0, none⟩) := hk.dc hr 9 (by kernel_rfl) fun _ _ h => h
      have hb := grows_of hk.ext
      exact vc hK (op_loadN 38 _ E9 (Dx.out.below hb)) (fun w2 h2 => ⟨_, _, _, _, rfl, ⟨_, _, (SNx.out.below hb).below h2, hlx, rfl⟩⟩)
    refine po rfl (fun lq aq wq hk hr K hK => ?_) ?_
    · obtain ⟨v10, E10, r10⟩ := hk.dp hr 10 39 (by kernel_rfl)
      have r10 : WV wq v10 ((sg nP0 (val fP0))) := r10
      exact yc hK (by go_simp) (Calls.oa (int_o wq (Nat.le_trans HB.out.size (grows_of hk.ext).size) r10)) (fun u w1 hu w2 h2 => OA.grow (hu) h2)
    refine po rfl (fun lq aq wq hk hr K hK => ?_) ?_
    · have B5 : ev aq (.tmp 5) = .pointer (some ⟨bx, 0, none⟩) := hk.base 5 (by kernel_rfl) rfl
      have hb := grows_of hk.ext
      exact vc hK (op_load3 5 _ B5 (Dx.out.below hb)) (fun w2 h2 => QL.grow ⟨_, _, _, _, rfl, (SNx.out.below hb), (SDx.out.below hb), hlx, hmx⟩ h2)
    refine po rfl (fun lq aq wq hk hr K hK => ?_) ?_
    · obtain ⟨v12, E12, r12⟩ := hk.dp hr 12 41 (by kernel_rfl)
      have r12 : QL wq v12 nP0 fP0 gP0 := r12
      exact yc hK (by go_simp) (qfloor_o wq (Nat.le_trans HB.out.size (grows_of hk.ext).size) ((r12).qv.to hq0) (hs0.mono (by decide)).floor) (fun u w1 hu w2 h2 => (hu).grow h2)
    refine po rfl (fun lq aq wq hk hr K hK => ?_) ?_
    · obtain ⟨v13, E13, r13⟩ := hk.dp hr 13 42 (by kernel_rfl)
      obtain ⟨n13, A13, k13, c13, rfl, _, o13⟩ := r13
      exact vc hK (op_ratM 42 E13) (fun w2 h2 => OA.grow ⟨_, _, _, _, _, _, _, rfl, o13, RowO.nil_ _ _ _ _, trivial⟩ h2)
    refine po rfl (fun lq aq wq hk hr K hK => ?_) ?_
    · obtain ⟨v1, E1, r1⟩ := hk.dp hr 1 30 (by kernel_rfl)
      have r1 : OA y8.heap.size wq v1 := r1
      obtain ⟨n1, A1, k1, c1, B1, j1, d1, rfl, s1, t1, hd1⟩ := r1
      obtain ⟨v4, E4, r4⟩ := hk.dp hr 4 33 (by kernel_rfl)
      have r4 : OA y8.heap.size wq v4 := r4
      obtain ⟨n4, A4, k4, c4, B4, j4, d4, rfl, s4, t4, hd4⟩ := r4
      obtain ⟨v7, E7, r7⟩ := hk.dp hr 7 36 (by kernel_rfl)
      have r7 : OA y8.heap.size wq v7 := r7
      obtain ⟨n7, A7, k7, c7, B7, j7, d7, rfl, s7, t7, hd7⟩ := r7
      obtain ⟨v8, E8, r8⟩ := hk.dp hr 8 37 (by kernel_rfl)
      have r8 : OA y8.heap.size wq v8 := r8
      obtain ⟨n8, A8, k8, c8, B8, j8, d8, rfl, s8, t8, hd8⟩ := r8
      obtain ⟨v11, E11, r11⟩ := hk.dp hr 11 40 (by kernel_rfl)
      have r11 : OA y8.heap.size wq v11 := r11
      obtain ⟨n11, A11, k11, c11, B11, j11, d11, rfl, s11, t11, hd11⟩ := r11
      obtain ⟨v14, E14, r14⟩ := hk.dp hr 14 43 (by kernel_rfl)
      have r14 : OA y8.heap.size wq v14 := r14
      obtain ⟨n14, A14, k14, c14, B14, j14, d14, rfl, s14, t14, hd14⟩ := r14
      exact vc hK (op_six 30 33 36 37 40 43 E1 E4 E7 E8 E11 E14) (fun w2 h2 => SixV.grow (fun _ _ _ h hb => OA.grow h hb) (SixV.of ⟨_, _, _, _, _, _, _, rfl, s1, t1, trivial⟩ ⟨_, _, _, _, _, _, _, rfl, s4, t4, trivial⟩ ⟨_, _, _, _, _, _, _, rfl, s7, t7, trivial⟩ ⟨_, _, _, _, _, _, _, rfl, s8, t8, trivial⟩ ⟨_, _, _, _, _, _, _, rfl, s11, t11, trivial⟩ ⟨_, _, _, _, _, _, _, rfl, s14, t14, trivial⟩) h2)
    refine po rfl (fun lq aq wq hk hr K hK => ?_) ?_
    · exact vc hK (by go_simp) (fun w2 h2 => rfl)
    exact AllOps.nil
  intro V x11 hG hV hap
  have r15 : SixV (OA y8.heap.size) x11 (V 15) := hV 15 (by decide)
  have r16 : (V 16) = .int .i64 0 := hV 16 (by decide)
  clear hV hap
  simp only [List.take_succ_cons, List.take_nil, List.drop_succ_cons, List.drop_nil, putAll, Act.put, List.setIfInBounds_toArray, List.set_cons_zero, List.set_cons_succ]
  have hb := grows_of hG
  replace Dx := Lib.hid (Dx.out.below hb)
  replace SNx := Lib.hid (SNx.out.below hb)
  replace SDx := Lib.hid (SDx.out.below hb)
  replace Dy := Lib.hid (Dy.out.below hb)
  replace SNy := Lib.hid (SNy.out.below hb)
  replace SDy := Lib.hid (SDy.out.below hb)
  replace HB := Lib.hid (HB.out.trans (Below.mono hb HB.out.size))
  replace Dq := Lib.hid (Dq.out.below hb)
  replace Oq := Lib.hid (Oq.out.grow hb)
  clear hb hG
  obtain ⟨L, e15, h15⟩ := r15
  rw [e15, r16]
  clear e15 r16
  have HI := Lib.hid (And.intro h15 HB.out)
  clear h15 HB Dq Oq Dx SNx SDx Dy SNy SDy
  go_wp2_with fail
  go_loopw [45] (fun iv wr => ∃ i : Nat, i ≤ 6 ∧ iv = .int .i64 i ∧ Hid ((∀ i, i < 6 → OA y8.heap.size wr (.agg #[.bool (L i).1, .slice (L i).2.1 (L i).2.2.1 (L i).2.2.2.1, .slice (L i).2.2.2.2.1 (L i).2.2.2.2.2.1 (L i).2.2.2.2.2.2])) ∧ Below y8.heap.size y8 wr)) (fun iv _ => 6 - (intOf iv).toNat)
  case atStart => exact ⟨0, Nat.zero_le _, rfl, HI⟩
  case round =>
    clear HI
    obtain ⟨i, hi, rfl, HI⟩ := hrel
    rcases Nat.lt_or_ge i 6 with hlt | hge
    · skip
      have H15 := Lib.hid HI.out.1
      have HB := Lib.hid (Below.refl wr.heap.size wr)
      have HY := Lib.hid HI.out.2
      clear HI
      go_upto_region 8 with fail
      refine wp_region_calm 2 [1] ([fun vq _ => vq = .agg #[.bool (L i).1, .slice (L i).2.1 (L i).2.2.1 (L i).2.2.2.1, .slice (L i).2.2.2.2.1 (L i).2.2.2.2.2.1 (L i).2.2.2.2.2.2],
          fun vq wq => ∃ bq, vq = .pointer (some ⟨bq, 0, none⟩) ∧ BoxN wq bq 26 #[.bool false, .slice none 0 0, .slice none 0 0] ∧ (wr).heap.size ≤ bq]) (by kernel_rfl) (by decide) ?_ ?_ ?_
      · intro j hj v w h
        simp only [List.mem_cons, List.not_mem_nil, or_false] at hj
        subst hj
        all_goals (obtain ⟨b, rfl, hB, _⟩ := h; exact hB.lt)
      · refine po rfl (fun lq aq wq hk hr K hK => ?_) ?_
        · have B44 : ev aq (.tmp 44) = .agg #[.bool (L 0).1, .slice (L 0).2.1 (L 0).2.2.1 (L 0).2.2.2.1, .slice (L 0).2.2.2.2.1 (L 0).2.2.2.2.2.1 (L 0).2.2.2.2.2.2, .bool (L 1).1, .slice (L 1).2.1 (L 1).2.2.1 (L 1).2.2.2.1, .slice (L 1).2.2.2.2.1 (L 1).2.2.2.2.2.1 (L 1).2.2.2.2.2.2, .bool (L 2).1, .slice (L 2).2.1 (L 2).2.2.1 (L 2).2.2.2.1, .slice (L 2).2.2.2.2.1 (L 2).2.2.2.2.2.1 (L 2).2.2.2.2.2.2, .bool (L 3).1, .slice (L 3).2.1 (L 3).2.2.1 (L 3).2.2.2.1, .slice (L 3).2.2.2.2.1 (L 3).2.2.2.2.2.1 (L 3).2.2.2.2.2.2, .bool (L 4).1, .slice (L 4).2.1 (L 4).2.2.1 (L 4).2.2.2.1, .slice (L 4).2.2.2.2.1 (L 4).2.2.2.2.2.1 (L 4).2.2.2.2.2.2, .bool (L 5).1, .slice (L 5).2.1 (L 5).2.2.1 (L 5).2.2.2.1, .slice (L 5).2.2.2.2.1 (L 5).2.2.2.2.2.1 (L 5).2.2.2.2.2.2] := hk.base 44 (by kernel_rfl) rfl
          have B45 : ev aq (.tmp 45) = .int .i64 i := hk.base 45 (by kernel_rfl) rfl
          exact vc hK (op_index6 44 45 i hlt B44 B45) (fun w2 h2 => rfl)
        refine po rfl (fun lq aq wq hk hr K hK => ?_) ?_
        · exact wp_of_value (by go_simp) (hK.out _ _ ((Grows.refl _).alloc _) (fun w2 h2 => ⟨_, rfl, (BoxN.new wq 26 _).below h2, hk.ext.size⟩) (fun _ => Nat.le_refl _))
        exact AllOps.nil
      intro V x12 hG hV hap
      have r0 : (V 0) = .agg #[.bool (L i).1, .slice (L i).2.1 (L i).2.2.1 (L i).2.2.2.1, .slice (L i).2.2.2.2.1 (L i).2.2.2.2.2.1 (L i).2.2.2.2.2.2] := hV 0 (by decide)
      have r1 : ∃ bq, (V 1) = .pointer (some ⟨bq, 0, none⟩) ∧ BoxN x12 bq 26 #[.bool false, .slice none 0 0, .slice none 0 0] ∧ (wr).heap.size ≤ bq := hV 1 (by decide)
      clear hV
      simp only [List.take_succ_cons, List.take_zero, List.drop_succ_cons, List.drop_zero, putAll, Act.put, List.setIfInBounds_toArray, List.set_cons_zero, List.set_cons_succ]
      have hb := (show Below _ _ _ from hG)
      obtain ⟨be, ee, De, ge⟩ := r1
      simp only [ee, r0]
      clear ee r0 hap hG
      obtain ⟨⟨ne, Ae, me, ce, Be, pe, de⟩, hLi⟩ : ∃ z, L i = z := ⟨_, rfl⟩
      rw [hLi]
      replace De : Box3 _ be 26 (.bool false) (.slice none 0 0) (.slice none 0 0) := De
      refine wpList_of_skip rfl (op_store3 10 47 _ rfl rfl De) ?_
      have hB1 := put3_below (x' := .bool ne) (y' := .slice Ae me ce) (z' := .slice Be pe de) hb ge
      replace De := put3_own (x' := .bool ne) (y' := .slice Ae me ce) (z' := .slice Be pe de) De
      have hAll : ((∀ i, i < 6 → OA y8.heap.size (put3 x12 be (.bool ne) (.slice Ae me ce) (.slice Be pe de)) (.agg #[.bool (L i).1, .slice (L i).2.1 (L i).2.2.1 (L i).2.2.2.1, .slice (L i).2.2.2.2.1 (L i).2.2.2.2.2.1 (L i).2.2.2.2.2.2])) ∧ Below y8.heap.size y8 (put3 x12 be (.bool ne) (.slice Ae me ce) (.slice Be pe de))) := ⟨fun j hj => (H15.out j hj).grow hB1, HY.out.trans (Below.mono hB1 HY.out.size)⟩
      have hge : y8.heap.size ≤ be := Nat.le_trans HY.out.size ge
      clear hb hB1 ge HB HY H15
      generalize put3 x12 be (.bool ne) (.slice Ae me ce) (.slice Be pe de) = ye at *
      have HI := Lib.hid (And.intro hAll De)
      have HLi := Lib.hid hLi
      clear hAll De hLi
      have hmb : me ≤ 9223372036854775807 ∧ pe ≤ 9223372036854775807 := by
        obtain ⟨n', A', m', c', B', p', d', e9, hO1, hO2, _⟩ := HI.out.1.1 i hlt
        rw [HLi.out] at e9
        injection e9 with e9
        simp only [Array.mk.injEq, List.cons.injEq, Value.bool.injEq, Value.slice.injEq, and_true] at e9
        obtain ⟨rfl, ⟨rfl, rfl, rfl⟩, rfl, rfl, rfl⟩ := e9
        obtain ⟨_, _, _, e1, h1, _⟩ := hO1
        obtain ⟨_, _, _, e2, h2, _⟩ := hO2
        cases e1
        cases e2
        exact ⟨h1, h2⟩
      obtain ⟨hm1, hm2⟩ := hmb
      have hcv := HI.out.2.c1
      go_wp2_with fail
      go_loopw [11] (fun kv wr => ∃ k : Nat, k ≤ me ∧ kv = .int .i64 k ∧ Hid (((∀ i, i < 6 → OA y8.heap.size wr (.agg #[.bool (L i).1, .slice (L i).2.1 (L i).2.2.1 (L i).2.2.2.1, .slice (L i).2.2.2.2.1 (L i).2.2.2.2.2.1 (L i).2.2.2.2.2.2])) ∧ Below y8.heap.size y8 wr) ∧ Box3 wr be 26 (.bool ne) (.slice Ae me ce) (.slice Be pe de))) (fun kv _ => me - (intOf kv).toNat)
      case atStart => exact ⟨0, Nat.zero_le _, rfl, HI⟩
      case round =>
        clear HI hcv
        obtain ⟨k, hkn, rfl, HI⟩ := hrel
        have hcv := HI.out.2.c1
        by_cases hk : k < me
        · obtain ⟨n', A', m', c', B', p', d', e9, hO1, hO2, _⟩ := HI.out.1.1 i hlt
          rw [HLi.out] at e9
          injection e9 with e9
          simp only [Array.mk.injEq, List.cons.injEq, Value.bool.injEq, Value.slice.injEq, and_true] at e9
          obtain ⟨rfl, ⟨rfl, rfl, rfl⟩, rfl, rfl, rfl⟩ := e9
          obtain ⟨A', n'', c', e, hm9, h0 | ⟨g, cur, eA, hg, hc, hx⟩⟩ := hO1
          · exfalso
            cases e
            omega
          · cases e
            subst eA
            obtain ⟨z, hz, hz2⟩ := hx k hk
            have hne := Box3.limbs HI.out.2 hc
            have hcz : wr.cell? ⟨g, k, none⟩ = some (.int .u32 (z : Int)) := by rw [cell_of_row _ _ _ _ _ _ hc]; exact hz
            have hfz : wr.frozen? ⟨g, k, none⟩ = false := by simp [World.frozen?, hc]
            obtain ⟨z', hz', hzl⟩ : ∃ z' : Nat, IntKind.u32.wrap ((z : Int) + 1) = (z' : Int) ∧ z' < 4294967296 := ⟨(z + 1) % 4294967296, by rw [IntKind.wrap_u32]; omega, Nat.mod_lt _ (by decide)⟩
            have HG := Lib.hid (And.intro hg hne)
            clear hc hx hz hg hne hO2
            go_wp2_with fail
            go_region
            all_goals (go_wp2_with fail; go_roundw)
            case rel => exact ⟨k + 1, by omega, by go_num, Lib.hid ⟨⟨fun j hj => (HI.out.1.1 j hj).set g k z' hzl, (HI.out.1.2.setCell (p := ⟨g, k, none⟩) HG.out.1 _).drew⟩, (HI.out.2.apart (Ne.symm HG.out.2) k _)⟩⟩
            case measure => simp [intOf]; omega
        · skip
          have hcv2 := HI.out.2.c2
          go_wp2_with fail
          go_loopw [12] (fun kv wr => ∃ k : Nat, k ≤ pe ∧ kv = .int .i64 k ∧ Hid (((∀ i, i < 6 → OA y8.heap.size wr (.agg #[.bool (L i).1, .slice (L i).2.1 (L i).2.2.1 (L i).2.2.2.1, .slice (L i).2.2.2.2.1 (L i).2.2.2.2.2.1 (L i).2.2.2.2.2.2])) ∧ Below y8.heap.size y8 wr) ∧ Box3 wr be 26 (.bool ne) (.slice Ae me ce) (.slice Be pe de))) (fun kv _ => pe - (intOf kv).toNat)
          case atStart => exact ⟨0, Nat.zero_le _, rfl, HI⟩
          case round =>
            clear HI hcv hcv2
            obtain ⟨k, hkn, rfl, HI⟩ := hrel
            have hcv := HI.out.2.c2
            by_cases hk : k < pe
            · obtain ⟨n', A', m', c', B', p', d', e9, hO1, hO2, _⟩ := HI.out.1.1 i hlt
              rw [HLi.out] at e9
              injection e9 with e9
              simp only [Array.mk.injEq, List.cons.injEq, Value.bool.injEq, Value.slice.injEq, and_true] at e9
              obtain ⟨rfl, ⟨rfl, rfl, rfl⟩, rfl, rfl, rfl⟩ := e9
              obtain ⟨A', n'', c', e, hm9, h0 | ⟨g, cur, eA, hg, hc, hx⟩⟩ := hO2
              · exfalso
                cases e
                omega
              · cases e
                subst eA
                obtain ⟨z, hz, hz2⟩ := hx k hk
                have hne := Box3.limbs HI.out.2 hc
                have hcz : wr.cell? ⟨g, k, none⟩ = some (.int .u32 (z : Int)) := by rw [cell_of_row _ _ _ _ _ _ hc]; exact hz
                have hfz : wr.frozen? ⟨g, k, none⟩ = false := by simp [World.frozen?, hc]
                obtain ⟨z', hz', hzl⟩ : ∃ z' : Nat, IntKind.u32.wrap ((z : Int) + 1) = (z' : Int) ∧ z' < 4294967296 := ⟨(z + 1) % 4294967296, by rw [IntKind.wrap_u32]; omega, Nat.mod_lt _ (by decide)⟩
                have HG := Lib.hid (And.intro hg hne)
                clear hc hx hz hg hne hO1
                go_wp2_with fail
                go_region
                all_goals (go_wp2_with fail; go_roundw)
                case rel => exact ⟨k + 1, by omega, by go_num, Lib.hid ⟨⟨fun j hj => (HI.out.1.1 j hj).set g k z' hzl, (HI.out.1.2.setCell (p := ⟨g, k, none⟩) HG.out.1 _).drew⟩, (HI.out.2.apart (Ne.symm HG.out.2) k _)⟩⟩
                case measure => simp [intOf]; omega
            · skip
              go_wp2_with fail
              go_roundw
              case rel =>
                first
                  | exact ⟨i + 1, by omega, (by first | rfl | simp | go_num), Lib.hid HI.out.1⟩
                  | ((repeat apply Exists.intro); refine ⟨?_, rfl⟩; exact ⟨i + 1, by omega, (by first | rfl | simp | go_num), Lib.hid HI.out.1⟩)
              case measure => simp [intOf]; omega
    · skip
      obtain rfl : i = 6 := by omega
      have hB := HI.out.2
      have HB := Lib.hid (HB9.out.trans (Below.mono hB HB9.out.size))
      have D0 := Lib.hid (D09.out.below hB)
      have SN0 := Lib.hid (SN09.out.below hB)
      have SD0 := Lib.hid (SD09.out.below hB)
      clear D09 SN09 SD09
      have D1 := Lib.hid (D19.out.below hB)
      have SN1 := Lib.hid (SN19.out.below hB)
      have SD1 := Lib.hid (SD19.out.below hB)
      clear D19 SN19 SD19
      have Dx := Lib.hid (Dx9.out.below hB)
      have SNx := Lib.hid (SNx9.out.below hB)
      have SDx := Lib.hid (SDx9.out.below hB)
      clear Dx9 SNx9 SDx9
      have Dy := Lib.hid (Dy9.out.below hB)
      have SNy := Lib.hid (SNy9.out.below hB)
      have SDy := Lib.hid (SDy9.out.below hB)
      clear Dy9 SNy9 SDy9
      clear HI hB HB9
      go_upto_region 18 with fail
      refine wp_region_calm 8 [] ([fun vq wq => QL wq vq nP0 fP0 gP0,
          fun vq wq => QL wq vq nP0 fP0 gP0,
          fun vq _ => vq = .bool true,
          fun vq _ => vq = .bool true,
          fun vq wq => QL wq vq nP1 fP1 gP1,
          fun vq wq => QL wq vq nP1 fP1 gP1,
          fun vq _ => vq = .bool true,
          fun vq _ => vq = .bool true]) (by kernel_rfl) (by decide) ?_ ?_ ?_
      · intro j hj; cases hj
      · refine po rfl (fun lq aq wq hk hr K hK => ?_) ?_
        · have B5 : ev aq (.tmp 5) = .pointer (some ⟨bx, 0, none⟩) := hk.base 5 (by kernel_rfl) rfl
          have hb : Below _ _ _ := hk.ext
          exact vc hK (op_load3 5 _ B5 (Dx.out.below hb)) (fun w2 h2 => QL.grow ⟨_, _, _, _, rfl, (SNx.out.below hb), (SDx.out.below hb), hlx, hmx⟩ h2)
        refine po rfl (fun lq aq wq hk hr K hK => ?_) ?_
        · have B2 : ev aq (.tmp 2) = .pointer (some ⟨w.heap.size, 0, none⟩) := hk.base 2 (by kernel_rfl) rfl
          have hb : Below _ _ _ := hk.ext
          exact vc hK (op_load3 2 _ B2 (D0.out.below hb)) (fun w2 h2 => QL.grow ⟨_, _, _, _, rfl, (SN0.out.below hb), (SD0.out.below hb), hlm3, hmm3⟩ h2)
        refine po rfl (fun lq aq wq hk hr K hK => ?_) ?_
        · obtain ⟨v0, E0, r0⟩ := hk.dp hr 0 86 (by kernel_rfl)
          have r0 : QL wq v0 nP0 fP0 gP0 := r0
          obtain ⟨v1, E1, r1⟩ := hk.dp hr 1 87 (by kernel_rfl)
          have r1 : QL wq v1 nP0 fP0 gP0 := r1
          exact yc hK (by go_simp) (lsameL_v wq r0 r1 (t := true) (lsame_self _ _ _)) (fun u w1 hu w2 h2 => hu)
        refine po rfl (fun lq aq wq hk hr K hK => ?_) ?_
        · have E2 : ev aq (.tmp 88) = .bool true := hk.dc hr 2 (by kernel_rfl) fun _ _ h => h
          exact vc hK (by go_simp) (fun w2 h2 => rfl)
        refine pl 3 89 true rfl (by kernel_rfl) (fun _ _ h => h) (fun lq aq wq hk hr K hK => ?_) ?_
        · have B6 : ev aq (.tmp 6) = .pointer (some ⟨bz, 0, none⟩) := hk.base 6 (by kernel_rfl) rfl
          have hb : Below _ _ _ := hk.ext
          exact vc hK (op_load3 6 _ B6 (Dy.out.below hb)) (fun w2 h2 => QL.grow ⟨_, _, _, _, rfl, (SNy.out.below hb), (SDy.out.below hb), hly, hmy⟩ h2)
        refine pl 3 89 true rfl (by kernel_rfl) (fun _ _ h => h) (fun lq aq wq hk hr K hK => ?_) ?_
        · have B3 : ev aq (.tmp 3) = .pointer (some ⟨w.heap.size + 1, 0, none⟩) := hk.base 3 (by kernel_rfl) rfl
          have hb : Below _ _ _ := hk.ext
          exact vc hK (op_load3 3 _ B3 (D1.out.below hb)) (fun w2 h2 => QL.grow ⟨_, _, _, _, rfl, (SN1.out.below hb), (SD1.out.below hb), hlm4, hmm4⟩ h2)
        refine pl 3 89 true rfl (by kernel_rfl) (fun _ _ h => h) (fun lq aq wq hk hr K hK => ?_) ?_
        · obtain ⟨v4, E4, r4⟩ := hk.dp hr 4 90 (by kernel_rfl)
          have r4 : QL wq v4 nP1 fP1 gP1 := r4
          obtain ⟨v5, E5, r5⟩ := hk.dp hr 5 91 (by kernel_rfl)
          have r5 : QL wq v5 nP1 fP1 gP1 := r5
          exact yc hK (by go_simp) (lsameL_v wq r4 r5 (t := true) (lsame_self _ _ _)) (fun u w1 hu w2 h2 => hu)
        refine po rfl (fun lq aq wq hk hr K hK => ?_) ?_
        · have E3 : ev aq (.tmp 89) = .bool true := hk.dc hr 3 (by kernel_rfl) fun _ _ h => h
          have E6 : ev aq (.tmp 92) = .bool true := hk.dc hr 6 (by kernel_rfl) fun _ _ h => h
          exact vc hK (by go_simp) (fun w2 h2 => rfl)
        exact AllOps.nil
      intro V x12 hG hV hap
      have r7 : (V 7) = .bool true := hV 7 (by decide)
      clear hV hap
      simp only [List.take_succ_cons, List.take_zero, List.drop_succ_cons, List.drop_zero, putAll, Act.put, List.setIfInBounds_toArray, List.set_cons_zero, List.set_cons_succ]
      have hb := (show Below _ _ _ from hG)
      replace D0 := Lib.hid (D0.out.below hb)
      replace SN0 := Lib.hid (SN0.out.below hb)
      replace SD0 := Lib.hid (SD0.out.below hb)
      replace D1 := Lib.hid (D1.out.below hb)
      replace SN1 := Lib.hid (SN1.out.below hb)
      replace SD1 := Lib.hid (SD1.out.below hb)
      replace Dx := Lib.hid (Dx.out.below hb)
      replace SNx := Lib.hid (SNx.out.below hb)
      replace SDx := Lib.hid (SDx.out.below hb)
      replace Dy := Lib.hid (Dy.out.below hb)
      replace SNy := Lib.hid (SNy.out.below hb)
      replace SDy := Lib.hid (SDy.out.below hb)
      replace HB := Lib.hid (HB.out.trans (Below.mono hb HB.out.size))
      clear hb hG
      rw [r7]
      clear r7
      go_wp2_with fail
      go_ret
      exact ⟨rfl, HB.out⟩
end Go.Proofs.YtbippecchpaleaaGreatDoor
