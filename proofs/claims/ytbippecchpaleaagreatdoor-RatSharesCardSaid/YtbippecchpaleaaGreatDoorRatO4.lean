import Derived.Test.YtbippecchpaleaaGreatDoorRatO2
import Derived.Test.YtbippecchpaleaaGreatDoorGRat3
/- rat.sum, Add: what each returns, in rows of its own. -/
namespace Go.Proofs.YtbippecchpaleaaGreatDoor
open Go.RowKit Go.Num Go.Kp
attribute [local go_sem] Oper.semAt_some u64_mask ev_const ev_func ev_global
set_option maxHeartbeats 4000000 in
set_option maxRecDepth 100000 in
theorem sum1_o (w : World) {bO : Nat} (hB : bO ≤ w.heap.size) {u v m : Value} {x y : Int} {l : List Nat} {a : Nat} (h0 : WV w u x) (h1 : WV w v y) (h2 : LV w m l a) (hl : l.length ≤ 1000) (hpos : 0 < a) (hs : szz (x + y) ≤ 1000) : Calls Tryz.prog 98 #[u, v, m] w fun e w' => ∃ r, e = .returned r ∧ RO bO w' r (mkRat (x + y) a) ∧ Grows w w' := by
  have hsa : sz a ≤ 1000 := Nat.le_trans h2.sz_le hl
  obtain ⟨A9, c9, rfl, q9⟩ := h2
  obtain ⟨n0, A0, k0, c0, rfl, s0⟩ := h0
  have hk0 : szz x ≤ 1000 := s0.size
  obtain ⟨n1, A1, k1, c1, rfl, s1⟩ := h1
  have hk1 : szz y ≤ 1000 := s1.size
  go_enter Tryz.func98, Tryz.ntmps98
  go_upto_region 1 with fail
  obtain ⟨x0, ex0, HB, D0, D1, DR⟩ := st_223 w 24 (.bool n0) (.slice A0 k0 c0) 24 (.bool n1) (.slice A1 k1 c1) 26 (.bool false) (.slice none 0 0) (.slice none 0 0)
  rw [ex0]
  clear ex0
  replace HB := Lib.hid HB
  replace D0 := Lib.hid D0
  replace D1 := Lib.hid D1
  replace DR := Lib.hid DR
  have SN0 := Lib.hid (s0.below HB.out)
  clear s0
  have SN1 := Lib.hid (s1.below HB.out)
  clear s1
  have Q9 := Lib.hid (q9.below HB.out)
  clear q9
  refine wp_region_calm 6 [] ([fun vq wq => WV wq vq x,
      fun vq wq => WV wq vq y,
      fun vq wq => RowV wq vq [x, y],
      fun vq wq => ZV wq vq ((x + y)),
      fun vq _ => vq = .slice A9 l.length c9,
      fun vq wq => RO bO wq vq ((mkRat ((x + y)) a))]) (by kernel_rfl) (by decide) ?_ ?_ ?_
  · intro j hj; cases hj
  · refine po rfl (fun lq aq wq hk hr K hK => ?_) ?_
    · have B3 : ev aq (.tmp 3) = .pointer (some ⟨w.heap.size, 0, none⟩) := hk.base 3 (by kernel_rfl) rfl
      have hb : Below _ _ _ := hk.ext
      exact vc hK (op_load 3 _ B3 (D0.out.below hb)) (fun w2 h2 => ⟨_, _, _, _, rfl, (SN0.out.below hb).below h2⟩)
    refine po rfl (fun lq aq wq hk hr K hK => ?_) ?_
    · have B4 : ev aq (.tmp 4) = .pointer (some ⟨w.heap.size + 1, 0, none⟩) := hk.base 4 (by kernel_rfl) rfl
      have hb : Below _ _ _ := hk.ext
      exact vc hK (op_load 4 _ B4 (D1.out.below hb)) (fun w2 h2 => ⟨_, _, _, _, rfl, (SN1.out.below hb).below h2⟩)
    refine po rfl (fun lq aq wq hk hr K hK => ?_) ?_
    · obtain ⟨v0, E0, r0⟩ := hk.dp hr 0 7 (by kernel_rfl)
      have r0 : WV wq v0 x := r0
      obtain ⟨n0, A0, k0, c0, rfl, s0⟩ := r0
      obtain ⟨v1, E1, r1⟩ := hk.dp hr 1 8 (by kernel_rfl)
      have r1 : WV wq v1 y := r1
      obtain ⟨n1, A1, k1, c1, rfl, s1⟩ := r1
      exact wp_of_value (op_row2 7 8 E0 E1) (hK.out _ _ ((Grows.refl _).alloc _) (fun w2 h2 => (RowV.two s0 s1).grow h2) (fun h => absurd h (by decide)))
    refine po rfl (fun lq aq wq hk hr K hK => ?_) ?_
    · obtain ⟨v2, E2, r2⟩ := hk.dp hr 2 9 (by kernel_rfl)
      have r2 : RowV wq v2 [x, y] := r2
      exact yc hK (by go_simp) (add2_v wq r2 hk0 hs) (fun u w1 hu w2 h2 => (hu).grow h2)
    refine po rfl (fun lq aq wq hk hr K hK => ?_) ?_
    · have B2 : ev aq (.tmp 2) = .slice A9 l.length c9 := hk.base 2 (by kernel_rfl) rfl
      exact vc hK (by go_simp) (fun w2 h2 => rfl)
    refine po rfl (fun lq aq wq hk hr K hK => ?_) ?_
    · obtain ⟨v3, E3, r3⟩ := hk.dp hr 3 10 (by kernel_rfl)
      have r3 : ZV wq v3 ((x + y)) := r3
      have E4 : ev aq (.tmp 11) = .slice A9 l.length c9 := hk.dc hr 4 (by kernel_rfl) fun _ _ h => h
      exact yc hK (by go_simp) (reduced_o wq (low hB HB.out hk.ext) (r3).wv (Q9.out.below hk.ext).lv hl hpos) (fun u w1 hu w2 h2 => (hu).grow h2)
    exact AllOps.nil
  intro V x1 hG hV hap
  have r5 : RO bO x1 (V 5) ((mkRat ((x + y)) a)) := hV 5 (by decide)
  clear hV hap
  simp only [List.take_succ_cons, List.take_zero, List.drop_succ_cons, List.drop_zero, putAll, Act.put, List.setIfInBounds_toArray, List.set_cons_zero, List.set_cons_succ]
  have hb := (show Below _ _ _ from hG)
  obtain ⟨nR, AR, kR, cR, BR, jR, dR, y9, eR, ey, hQ, HQ, c0, c1, c2⟩ := ret3o r5 (DR.out.below hb) (HB.out.trans (Below.mono hb HB.out.size)) (by omega)
  simp only [eR]
  refine wpList_of_skip rfl (op_store3 6 12 _ rfl rfl (DR.out.below hb)) ?_
  rw [ey]
  clear eR ey hb hG HB DR
  go_wp2_with fail
  refine bodyPost_ret (v := .agg #[.bool nR, .slice AR kR cR, .slice BR jR dR]) (by simp [results, Tryz.results98, go_sem, c0, c1, c2]) rfl ⟨_, rfl, hQ, HQ⟩
set_option maxHeartbeats 16000000 in
set_option maxRecDepth 100000 in
theorem qsum_o (w : World) {bO : Nat} (hB : bO ≤ w.heap.size) {u : Value} {q r : Rat} (h0 : RowQ w u [q, r]) (hqs : Qsz q 300) (hrs : Qsz r 300) : Calls Tryz.prog 63 #[u] w fun e w' => ∃ x, e = .returned x ∧ RO bO w' x (q + r) ∧ Grows w w' := by
  obtain ⟨AR, cR, rfl, hcR⟩ := h0
  go_enter Tryz.func63, Tryz.ntmps63
  go_upto_region 1 with fail
  obtain ⟨x0, ex0, HB, DR⟩ := st_3 w 26 (.bool false) (.slice none 0 0) (.slice none 0 0)
  rw [ex0]
  clear ex0
  replace HB := Lib.hid HB
  replace DR := Lib.hid DR
  have HC := Lib.hid hcR
  clear hcR
  have DS := DR
  clear DR
  have SNS := Lib.hid (Sound.nil_ x0 0).whole
  have SDS := Lib.hid (show Num x0 (.slice none 0 0) (limbs 0) 0 from (Sound.nil_ x0 0).num)
  refine wp_region_calm 2 [] ([fun vq wq => QV wq vq ((0 : Rat)),
      fun vq wq => RO bO wq vq ((0 : Rat))]) (by kernel_rfl) (by decide) ?_ ?_ ?_
  · intro j hj; cases hj
  · refine po rfl (fun lq aq wq hk hr K hK => ?_) ?_
    · have B2 : ev aq (.tmp 2) = .pointer (some ⟨w.heap.size, 0, none⟩) := hk.base 2 (by kernel_rfl) rfl
      have hb : Below _ _ _ := hk.ext
      exact vc hK (op_load3 2 _ B2 (DS.out.below hb)) (fun w2 h2 => QV.grow ⟨_, _, _, _, _, _, _, rfl, _, _, _, (SNS.out.below hb), (SDS.out.below hb), (show (limbs 0).length ≤ 1000 by rw [limbs_zero]; decide), (show (0 : Rat) = mkRat 0 (dn 0) from rfl)⟩ h2)
    refine po rfl (fun lq aq wq hk hr K hK => ?_) ?_
    · obtain ⟨v0, E0, r0⟩ := hk.dp hr 0 5 (by kernel_rfl)
      have r0 : QV wq v0 ((0 : Rat)) := r0
      exact yc hK (by go_simp) (made_o wq (low hB HB.out hk.ext) r0) (fun u w1 hu w2 h2 => (hu).grow h2)
    exact AllOps.nil
  intro V x1 hG hV hap
  have r1 : RO bO x1 (V 1) ((0 : Rat)) := hV 1 (by decide)
  clear hV hap
  simp only [List.take_succ_cons, List.take_zero, List.drop_succ_cons, List.drop_zero, putAll, Act.put, List.setIfInBounds_toArray, List.set_cons_zero, List.set_cons_succ]
  have hb := (show Below _ _ _ from hG)
  obtain ⟨nm2, Am2, km2, cm2, Bm2, jm2, dm2, em2, sm2, tm2, hdm2, onm2, odm2⟩ := r1
  simp only [em2]
  clear em2
  clear hG
  replace DS := DS.out.below hb
  refine wpList_of_skip rfl (op_store3 2 6 _ rfl rfl DS) ?_
  replace SNS := Lib.hid (sm2.put3 DS (.bool nm2) (.slice Am2 km2 cm2) (.slice Bm2 jm2 dm2))
  replace ONS := Lib.hid (onm2.put3 DS (.bool nm2) (.slice Am2 km2 cm2) (.slice Bm2 jm2 dm2))
  replace ODS := Lib.hid (odm2.put3 DS (.bool nm2) (.slice Am2 km2 cm2) (.slice Bm2 jm2 dm2))
  clear onm2 odm2
  replace SDS := Lib.hid (tm2.put3 DS (.bool nm2) (.slice Am2 km2 cm2) (.slice Bm2 jm2 dm2))
  replace HB := Lib.hid (put3_below (x' := .bool nm2) (y' := .slice Am2 km2 cm2) (z' := .slice Bm2 jm2 dm2) (HB.out.trans (Below.mono hb HB.out.size)) (show w.heap.size ≤ w.heap.size by omega))
  replace DS := Lib.hid (put3_own (x' := .bool nm2) (y' := .slice Am2 km2 cm2) (z' := .slice Bm2 jm2 dm2) DS)
  clear hb sm2 tm2
  generalize put3 x1 w.heap.size (.bool nm2) (.slice Am2 km2 cm2) (.slice Bm2 jm2 dm2) = y3 at *
  go_wp2_with fail
  go_loopw [9] (fun iv wr => ∃ (k : Nat) (n : Bool) (A : Option Addr) (i c : Nat) (B : Option Addr) (j d : Nat), k ≤ 2 ∧ iv = .int .i64 k ∧ Hid (Box3 wr w.heap.size 26 (.bool n) (.slice A i c) (.slice B j d) ∧ Sound wr n (.slice A i c) (if k = 0 then (0 : Rat) else if k = 1 then q else q + r).num ∧ Num wr (.slice B j d) (limbs (if k = 0 then (0 : Rat) else if k = 1 then q else q + r).den) (if k = 0 then (0 : Rat) else if k = 1 then q else q + r).den ∧ sz (if k = 0 then (0 : Rat) else if k = 1 then q else q + r).den ≤ 1000 ∧ Below w.heap.size w wr ∧ RowO bO wr (.slice A i c) ∧ RowO bO wr (.slice B j d))) (fun iv _ => 2 - (intOf iv).toNat)
  case atStart => exact ⟨0, nm2, Am2, km2, cm2, Bm2, jm2, dm2, Nat.zero_le _, rfl, Lib.hid ⟨DS.out, SNS.out, SDS.out, hdm2, HB.out, ONS.out, ODS.out⟩⟩
  case round =>
    clear DS SNS SDS HB ONS ODS
    obtain ⟨k, n, A, i, c, B, j, d, hk, rfl, HI⟩ := hrel
    obtain ⟨DS, SNS, SDS, hdS, HB, ONS, ODS⟩ := HI.out
    clear HI
    obtain ⟨F, hF⟩ : ∃ F, (if k = 0 then (0 : Rat) else if k = 1 then q else q + r) = F := ⟨_, rfl⟩
    rw [hF] at SNS SDS hdS
    replace hF := Lib.hid hF
    replace DS := Lib.hid DS
    replace SNS := Lib.hid SNS
    replace SDS := Lib.hid SDS
    replace ONS := Lib.hid ONS
    replace ODS := Lib.hid ODS
    replace HB := Lib.hid HB
    rcases Nat.lt_or_ge k 2 with hlt | hge
    · skip
      obtain ⟨x, hx⟩ := get_some (l := [q, r]) (k := k) (by simpa using hlt)
      obtain ⟨b, o, nx, Cx, kx, cx, Bx, ix, dx, rfl, h1, h2, h3, hq9⟩ := (HC.out.below HB.out).at_ hx
      obtain ⟨zx, lx, ax, tN, tD, hlx, ex⟩ := hq9
      have hzx : szz zx ≤ 1000 := tN.size
      have hsF : Qsz F 300 := by
        rw [← hF.out]
        have hk2 : k = 0 ∨ k = 1 := by omega
        rcases hk2 with rfl | rfl
        · exact Qsz.zero.mono (by decide)
        · exact hqs
      have hsx : Qsz x 300 := by
        have hk2 : k = 0 ∨ k = 1 := by omega
        rcases hk2 with rfl | rfl
        · obtain rfl : q = x := by simpa using hx
          exact hqs
        · obtain rfl : r = x := by simpa using hx
          exact hrs
      have hnext : (if k + 1 = 0 then (0 : Rat) else if k + 1 = 1 then q else q + r) = F + x := by
        rw [← hF.out]
        have hk2 : k = 0 ∨ k = 1 := by omega
        rcases hk2 with rfl | rfl
        · obtain rfl : q = x := by simpa using hx
          simp [Rat.zero_add]
        · obtain rfl : r = x := by simpa using hx
          simp
      obtain ⟨hp1, hp2, hp3⟩ := hsF.parts hsx (by decide)
      have hp4 : szz (F.num * (x.den : Int) + x.num * (F.den : Int)) ≤ 1000 := by
        have hd : ∀ {d k : Nat}, sz d ≤ k → szz (d : Int) ≤ k := fun {d k} h => by unfold szz; rw [Int.natAbs_natCast]; exact h
        exact Nat.le_trans (szz_add (szz_mul hsF.1 (hd hsx.2)) (szz_mul hsx.1 (hd hsF.2))) (by decide)
      have hbl : b < wr.heap.size := World.block_lt_of_cell? wr _ h1
      replace hnext := Lib.hid hnext
      replace tN := Lib.hid tN
      replace tD := Lib.hid tD
      clear hx hsF hsx
      go_upto_region 4 with fail
      refine wp_region_calm 3 [2] ([fun vq _ => vq = .pointer (some ⟨b, o + k * 3, none⟩),
          fun vq _ => vq = .agg #[.bool nx, .slice Cx kx cx, .slice Bx ix dx],
          fun vq wq => ∃ bq, vq = .pointer (some ⟨bq, 0, none⟩) ∧ BoxN wq bq 26 #[.bool false, .slice none 0 0, .slice none 0 0] ∧ (wr).heap.size ≤ bq]) (by kernel_rfl) (by decide) ?_ ?_ ?_
      · intro j hj v w h
        simp only [List.mem_cons, List.not_mem_nil, or_false] at hj
        subst hj
        all_goals (obtain ⟨b, rfl, hB, _⟩ := h; exact hB.lt)
      · refine po rfl (fun lq aq wq hk hr K hK => ?_) ?_
        · have B7 : ev aq (.tmp 7) = .slice (some ⟨b, o, none⟩) 2 cR := hk.base 7 (by kernel_rfl) rfl
          have B9 : ev aq (.tmp 9) = .int .i64 k := hk.base 9 (by kernel_rfl) rfl
          exact vc hK (by go_simp) (fun w2 h2 => rfl)
        refine po rfl (fun lq aq wq hk hr K hK => ?_) ?_
        · have E0 : ev aq (.tmp 11) = .pointer (some ⟨b, o + k * 3, none⟩) := hk.dc hr 0 (by kernel_rfl) fun _ _ h => h
          have hb : Below _ _ _ := hk.ext
          exact vc hK (op_load_three 11 _ _ E0 ((hb.cell (p := ⟨b, o + k * 3, none⟩) hbl).trans h1) ((hb.cell (p := ⟨b, o + k * 3 + 1, none⟩) hbl).trans h2) ((hb.cell (p := ⟨b, o + k * 3 + 2, none⟩) hbl).trans h3)) (fun w2 h2 => rfl)
        refine po rfl (fun lq aq wq hk hr K hK => ?_) ?_
        · exact wp_of_value (by go_simp) (hK.out _ _ ((Grows.refl _).alloc _) (fun w2 h2 => ⟨_, rfl, (BoxN.new wq 26 _).below h2, hk.ext.size⟩) (fun _ => Nat.le_refl _))
        exact AllOps.nil
      intro V x4 hG hV hap
      have r1 : (V 1) = .agg #[.bool nx, .slice Cx kx cx, .slice Bx ix dx] := hV 1 (by decide)
      have r2 : ∃ bq, (V 2) = .pointer (some ⟨bq, 0, none⟩) ∧ BoxN x4 bq 26 #[.bool false, .slice none 0 0, .slice none 0 0] ∧ (wr).heap.size ≤ bq := hV 2 (by decide)
      clear hV
      simp only [List.take_succ_cons, List.take_zero, List.drop_succ_cons, List.drop_zero, putAll, Act.put, List.setIfInBounds_toArray, List.set_cons_zero, List.set_cons_succ]
      have hb := (show Below _ _ _ from hG)
      obtain ⟨bX, eX, DX, gX⟩ := r2
      simp only [eX, r1]
      clear eX r1 hap h1 h2 h3
      refine wpList_of_skip rfl (op_store3 4 12 _ rfl rfl DX) ?_
      have lwS := DS.out.lt
      have hB1 := put3_below (x' := .bool nx) (y' := .slice Cx kx cx) (z' := .slice Bx ix dx) hb gX
      replace DX : Box3 _ bX 26 (.bool nx) (.slice Cx kx cx) (.slice Bx ix dx) := put3_own (x' := .bool nx) (y' := .slice Cx kx cx) (z' := .slice Bx ix dx) DX
      replace tN := Lib.hid (tN.out.below hB1)
      replace tD := Lib.hid (tD.out.below hB1)
      clear hb hG
      generalize put3 x4 bX (.bool nx) (.slice Cx kx cx) (.slice Bx ix dx) = y7 at *
      replace DS := Lib.hid (DS.out.below hB1)
      replace SNS := Lib.hid (SNS.out.below hB1)
      replace SDS := Lib.hid (SDS.out.below hB1)
      replace ONS := Lib.hid (ONS.out.below hB1)
      replace ODS := Lib.hid (ODS.out.below hB1)
      replace HB := Lib.hid (HB.out.trans (Below.mono hB1 HB.out.size))
      replace DX := Lib.hid DX
      have SNX := tN
      have SDX := tD
      clear tN tD hB1
      go_upto_region 5 with fail
      have hne : w.heap.size ≠ bX := by omega
      refine wp_region_calm 3 [] ([fun vq wq => RV wq vq F,
          fun vq wq => QV wq vq x,
          fun vq wq => RO bO wq vq ((F + x))]) (by kernel_rfl) (by decide) ?_ ?_ ?_
      · intro j hj; cases hj
      · refine po rfl (fun lq aq wq hk hr K hK => ?_) ?_
        · have B2 : ev aq (.tmp 2) = .pointer (some ⟨w.heap.size, 0, none⟩) := hk.base 2 (by kernel_rfl) rfl
          have hb : Below _ _ _ := hk.ext
          exact vc hK (op_load3 2 _ B2 (DS.out.below hb)) (fun w2 h2 => RV.grow ⟨_, _, _, _, _, _, _, rfl, (SNS.out.below hb), (SDS.out.below hb), hdS⟩ h2)
        refine po rfl (fun lq aq wq hk hr K hK => ?_) ?_
        · have B4 : ev aq (.tmp 4) = .pointer (some ⟨bX, 0, none⟩) := hk.base 4 (by kernel_rfl) rfl
          have hb : Below _ _ _ := hk.ext
          exact vc hK (op_load3 4 _ B4 (DX.out.below hb)) (fun w2 h2 => QV.grow ⟨_, _, _, _, _, _, _, rfl, _, _, _, (SNX.out.below hb), (SDX.out.below hb), hlx, ex⟩ h2)
        refine po rfl (fun lq aq wq hk hr K hK => ?_) ?_
        · obtain ⟨v0, E0, r0⟩ := hk.dp hr 0 13 (by kernel_rfl)
          have r0 : RV wq v0 F := r0
          obtain ⟨v1, E1, r1⟩ := hk.dp hr 1 14 (by kernel_rfl)
          have r1 : QV wq v1 x := r1
          exact yc hK (f := 67) (vs := #[v0, v1, .func (.func 98) #[] #[]]) (by go_simp) (two_o wq (bO := bO) (low hB HB.out hk.ext) (F + x) _ #[] (r0).qv r1 sum1_f hp1 hp2 hp3 (fun w1 u1 v1 m1 hg hu hv hm => by have h := sum1_o w1 (bO := bO) (Nat.le_trans (low hB HB.out hk.ext) hg.size) hu.wv hv.wv hm hp3 (Nat.mul_pos F.den_pos x.den_pos) hp4; rwa [add_parts] at h)) (fun u w1 hu w2 h2 => (hu).grow h2)
        exact AllOps.nil
      intro V x5 hG hV hap
      have r2 : RO bO x5 (V 2) ((F + x)) := hV 2 (by decide)
      clear hV hap
      simp only [List.take_succ_cons, List.take_zero, List.drop_succ_cons, List.drop_zero, putAll, Act.put, List.setIfInBounds_toArray, List.set_cons_zero, List.set_cons_succ]
      have hb := (show Below _ _ _ from hG)
      obtain ⟨nm6, Am6, km6, cm6, Bm6, jm6, dm6, em6, sm6, tm6, hdm6, onm6, odm6⟩ := r2
      simp only [em6]
      clear em6
      clear hG
      replace DS := DS.out.below hb
      refine wpList_of_skip rfl (op_store3 2 15 _ rfl rfl DS) ?_
      replace DX := Lib.hid (put3_far (x' := .bool nm6) (y' := .slice Am6 km6 cm6) (z' := .slice Bm6 jm6 dm6) (DX.out.below hb) (show bX ≠ w.heap.size by omega))
      replace SNX := Lib.hid ((SNX.out.below hb).put3 DS (.bool nm6) (.slice Am6 km6 cm6) (.slice Bm6 jm6 dm6))
      replace SDX := Lib.hid ((SDX.out.below hb).put3 DS (.bool nm6) (.slice Am6 km6 cm6) (.slice Bm6 jm6 dm6))
      replace ONS := Lib.hid ((ONS.out.below hb).put3 DS (.bool nm6) (.slice Am6 km6 cm6) (.slice Bm6 jm6 dm6))
      replace ODS := Lib.hid ((ODS.out.below hb).put3 DS (.bool nm6) (.slice Am6 km6 cm6) (.slice Bm6 jm6 dm6))
      replace SNS := Lib.hid (sm6.put3 DS (.bool nm6) (.slice Am6 km6 cm6) (.slice Bm6 jm6 dm6))
      replace ONS := Lib.hid (onm6.put3 DS (.bool nm6) (.slice Am6 km6 cm6) (.slice Bm6 jm6 dm6))
      replace ODS := Lib.hid (odm6.put3 DS (.bool nm6) (.slice Am6 km6 cm6) (.slice Bm6 jm6 dm6))
      clear onm6 odm6
      replace SDS := Lib.hid (tm6.put3 DS (.bool nm6) (.slice Am6 km6 cm6) (.slice Bm6 jm6 dm6))
      replace HB := Lib.hid (put3_below (x' := .bool nm6) (y' := .slice Am6 km6 cm6) (z' := .slice Bm6 jm6 dm6) (HB.out.trans (Below.mono hb HB.out.size)) (show w.heap.size ≤ w.heap.size by omega))
      replace DS := Lib.hid (put3_own (x' := .bool nm6) (y' := .slice Am6 km6 cm6) (z' := .slice Bm6 jm6 dm6) DS)
      clear hb sm6 tm6
      generalize put3 x5 w.heap.size (.bool nm6) (.slice Am6 km6 cm6) (.slice Bm6 jm6 dm6) = y7 at *
      go_wp2_with fail
      go_roundw
      case rel =>
        first
          | exact ⟨k + 1, _, _, _, _, _, _, _, by omega, (by first | rfl | simp), Lib.hid ⟨DS.out, hnext.out.symm ▸ SNS.out, hnext.out.symm ▸ SDS.out, hnext.out.symm ▸ hdm6, HB.out, ONS.out, ODS.out⟩⟩
          | ((repeat apply Exists.intro); refine ⟨?_, rfl⟩; exact ⟨k + 1, _, _, _, _, _, _, _, by omega, (by first | rfl | simp), Lib.hid ⟨DS.out, hnext.out.symm ▸ SNS.out, hnext.out.symm ▸ SDS.out, hnext.out.symm ▸ hdm6, HB.out, ONS.out, ODS.out⟩⟩)
      case measure => simp [intOf]; omega
    · skip
      obtain rfl : k = 2 := by omega
      have eF : F = q + r := by rw [← hF.out]; rfl
      subst eF
      have c0 := DS.out.c0
      have c1 := DS.out.c1
      have c2 := DS.out.c2
      have f0 := DS.out.f 0
      have f1 := DS.out.f 1
      have f2 := DS.out.f 2
      have g0 := (DS.out.set0 (.bool n)).c1
      have g1 := ((DS.out.set0 (.bool n)).set1 (.slice A i c)).c2
      have g3 := (DS.out.set0 (.bool n)).f 1
      have g4 := ((DS.out.set0 (.bool n)).set1 (.slice A i c)).f 2
      have Q0 := ((DS.out.set0 (.bool n)).set1 (.slice A i c)).set2 (.slice B j d)
      have k0 := Q0.c0
      have k1 := Q0.c1
      have k2 := Q0.c2
      go_wp2_with fail
      refine bodyPost_ret (v := .agg #[.bool n, .slice A i c, .slice B j d]) (by simp [results, Tryz.results63, go_sem, k0, k1, k2]) rfl ⟨_, rfl, ⟨_, _, _, _, _, _, _, rfl, ?_, ?_, hdS, ?_, ?_⟩, ?_⟩
      · exact SNS.out.put3 DS.out (.bool n) (.slice A i c) (.slice B j d)
      · exact SDS.out.put3 DS.out (.bool n) (.slice A i c) (.slice B j d)
      · exact ONS.out.put3 DS.out (.bool n) (.slice A i c) (.slice B j d)
      · exact ODS.out.put3 DS.out (.bool n) (.slice A i c) (.slice B j d)
      · exact put3_below HB.out (Nat.le_refl _)
set_option maxHeartbeats 4000000 in
set_option maxRecDepth 100000 in
theorem qadd_o (w : World) {bO : Nat} (hB : bO ≤ w.heap.size) {u v : Value} {q r : Rat} (h0 : QV w u q) (h1 : QV w v r) (hqs : Qsz q 300) (hrs : Qsz r 300) : Calls Tryz.prog 22 #[u, v] w fun e w' => ∃ x, e = .returned x ∧ RO bO w' x (q + r) ∧ Grows w w' := by
  obtain ⟨n0, A0, k0, c0, B0, j0, d0, rfl, z0, l0, a0, s0, t0, hl0, e0⟩ := h0
  have hk0 : szz z0 ≤ 1000 := s0.size
  obtain ⟨n1, A1, k1, c1, B1, j1, d1, rfl, z1, l1, a1, s1, t1, hl1, e1⟩ := h1
  have hk1 : szz z1 ≤ 1000 := s1.size
  go_enter Tryz.func22, Tryz.ntmps22
  go_upto_region 1 with fail
  obtain ⟨x0, ex0, HB, D0, D1, DR⟩ := st_333 w 26 (.bool n0) (.slice A0 k0 c0) (.slice B0 j0 d0) 26 (.bool n1) (.slice A1 k1 c1) (.slice B1 j1 d1) 26 (.bool false) (.slice none 0 0) (.slice none 0 0)
  rw [ex0]
  clear ex0
  replace HB := Lib.hid HB
  replace D0 := Lib.hid D0
  replace D1 := Lib.hid D1
  replace DR := Lib.hid DR
  have SN0 := Lib.hid (s0.below HB.out)
  clear s0
  have SD0 := Lib.hid (t0.below HB.out)
  clear t0
  have SN1 := Lib.hid (s1.below HB.out)
  clear s1
  have SD1 := Lib.hid (t1.below HB.out)
  clear t1
  refine wp_region_calm 4 [] ([fun vq wq => QV wq vq q,
      fun vq wq => QV wq vq r,
      fun vq wq => RowQ wq vq [q, r],
      fun vq wq => RO bO wq vq ((q + r))]) (by kernel_rfl) (by decide) ?_ ?_ ?_
  · intro j hj; cases hj
  · refine po rfl (fun lq aq wq hk hr K hK => ?_) ?_
    · have B2 : ev aq (.tmp 2) = .pointer (some ⟨w.heap.size, 0, none⟩) := hk.base 2 (by kernel_rfl) rfl
      have hb : Below _ _ _ := hk.ext
      exact vc hK (op_load3 2 _ B2 (D0.out.below hb)) (fun w2 h2 => QV.grow ⟨_, _, _, _, _, _, _, rfl, _, _, _, (SN0.out.below hb), (SD0.out.below hb), hl0, e0⟩ h2)
    refine po rfl (fun lq aq wq hk hr K hK => ?_) ?_
    · have B3 : ev aq (.tmp 3) = .pointer (some ⟨w.heap.size + 1, 0, none⟩) := hk.base 3 (by kernel_rfl) rfl
      have hb : Below _ _ _ := hk.ext
      exact vc hK (op_load3 3 _ B3 (D1.out.below hb)) (fun w2 h2 => QV.grow ⟨_, _, _, _, _, _, _, rfl, _, _, _, (SN1.out.below hb), (SD1.out.below hb), hl1, e1⟩ h2)
    refine po rfl (fun lq aq wq hk hr K hK => ?_) ?_
    · obtain ⟨v0, E0, r0⟩ := hk.dp hr 0 5 (by kernel_rfl)
      have r0 : QV wq v0 q := r0
      obtain ⟨n0, A0, k0, c0, B0, j0, d0, rfl, z0, l0, a0, s0⟩ := r0
      obtain ⟨v1, E1, r1⟩ := hk.dp hr 1 6 (by kernel_rfl)
      have r1 : QV wq v1 r := r1
      obtain ⟨n1, A1, k1, c1, B1, j1, d1, rfl, z1, l1, a1, s1⟩ := r1
      exact wp_of_value (op_rowQ2 5 6 E0 E1) (hK.out _ _ ((Grows.refl _).alloc _) (fun w2 h2 => (RowQ.two ⟨z0, l0, a0, s0⟩ ⟨z1, l1, a1, s1⟩).grow h2) (fun h => absurd h (by decide)))
    refine po rfl (fun lq aq wq hk hr K hK => ?_) ?_
    · obtain ⟨v2, E2, r2⟩ := hk.dp hr 2 7 (by kernel_rfl)
      have r2 : RowQ wq v2 [q, r] := r2
      exact yc hK (by go_simp) (qsum_o wq (low hB HB.out hk.ext) r2 hqs hrs) (fun u w1 hu w2 h2 => (hu).grow h2)
    exact AllOps.nil
  intro V x1 hG hV hap
  have r3 : RO bO x1 (V 3) ((q + r)) := hV 3 (by decide)
  clear hV hap
  simp only [List.take_succ_cons, List.take_zero, List.drop_succ_cons, List.drop_zero, putAll, Act.put, List.setIfInBounds_toArray, List.set_cons_zero, List.set_cons_succ]
  have hb := (show Below _ _ _ from hG)
  obtain ⟨nR, AR, kR, cR, BR, jR, dR, y9, eR, ey, hQ, HQ, c0, c1, c2⟩ := ret3o r3 (DR.out.below hb) (HB.out.trans (Below.mono hb HB.out.size)) (by omega)
  simp only [eR]
  refine wpList_of_skip rfl (op_store3 4 8 _ rfl rfl (DR.out.below hb)) ?_
  rw [ey]
  clear eR ey hb hG HB DR
  go_wp2_with fail
  refine bodyPost_ret (v := .agg #[.bool nR, .slice AR kR cR, .slice BR jR dR]) (by simp [results, Tryz.results22, go_sem, c0, c1, c2]) rfl ⟨_, rfl, hQ, HQ⟩
end Go.Proofs.YtbippecchpaleaaGreatDoor
