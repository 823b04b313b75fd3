import Derived.Test.YtbippecchpaleaaGreatDoorGRat1
/- rat.two and its closures; sum, Add, Sub: what each returns. -/
namespace Go.Proofs.YtbippecchpaleaaGreatDoor
open Go.RowKit Go.Num Go.Kp
attribute [local go_sem] Oper.semAt_some u64_mask ev_const ev_func ev_global
theorem two11_f : ∀ (vs : Array Value) (w1 : World), (callFunc 105 vs).run Tryz.prog w1 = .ok (.enter 105 vs) w1 := run_callFunc_go Tryz.func105 (by kernel_rfl) (by kernel_rfl)
theorem two1_f : ∀ (vs : Array Value) (w1 : World), (callFunc 104 vs).run Tryz.prog w1 = .ok (.enter 104 vs) w1 := run_callFunc_go Tryz.func104 (by kernel_rfl) (by kernel_rfl)
theorem sum1_f : ∀ (vs : Array Value) (w1 : World), (callFunc 98 vs).run Tryz.prog w1 = .ok (.enter 98 vs) w1 := run_callFunc_go Tryz.func98 (by kernel_rfl) (by kernel_rfl)
set_option maxHeartbeats 16000000 in
set_option maxRecDepth 100000 in
theorem two11_v (w : World) {u : Value} {q r : Rat} (Q : Rat) (f : FuncId) (caps : Array Value) (pd pa : Nat) (h0 : RV w u r) (n : Bool) (A : Option Addr) (k c : Nat) (B : Option Addr) (j d : Nat) (Da : Box3 w pa 26 (.bool n) (.slice A k c) (.slice B j d)) (SNa : Sound w n (.slice A k c) q.num) (SDa : Num w (.slice B j d) (limbs q.den) q.den) (hda : sz q.den ≤ 1000) (HD : BoxN w pd 71 #[.func (.func f) #[] caps]) (hf : ∀ (vs : Array Value) (w1 : World), (callFunc f vs).run Tryz.prog w1 = .ok (.enter f vs) w1) (hs1 : szz (q.num * (r.den : Int)) ≤ 1000) (hs2 : szz (r.num * (q.den : Int)) ≤ 1000) (hs3 : sz (q.den * r.den) ≤ 1000) (hdo : ∀ (w1 : World) (u1 v1 m1 : Value), Grows w w1 → ZV w1 u1 (q.num * (r.den : Int)) → ZV w1 v1 (r.num * (q.den : Int)) → LV w1 m1 (limbs (q.den * r.den)) (q.den * r.den) → Calls Tryz.prog f (#[u1, v1, m1] ++ caps) w1 fun e w' => ∃ x, e = .returned x ∧ RV w' x Q ∧ Grows w1 w') : Calls Tryz.prog 105 #[u, .pointer (some ⟨pd, 0, none⟩), .pointer (some ⟨pa, 0, none⟩)] w fun e w' => ∃ x, e = .returned x ∧ RV w' x Q ∧ Grows w w' := by
  obtain ⟨n0, A0, k0, c0, B0, j0, d0, rfl, s0, t0, hd0⟩ := h0
  go_enter Tryz.func105, Tryz.ntmps105
  go_upto_region 1 with fail
  obtain ⟨x0, ex0, HB, D0, DR⟩ := st_33 w 26 (.bool n0) (.slice A0 k0 c0) (.slice B0 j0 d0) 26 (.bool false) (.slice none 0 0) (.slice none 0 0)
  rw [ex0]
  clear ex0
  replace HB := Lib.hid HB
  replace D0 := Lib.hid D0
  replace DR := Lib.hid DR
  have SN0 := Lib.hid (s0.below HB.out)
  clear s0
  have SD0 := Lib.hid (t0.below HB.out)
  clear t0
  have lca := Da.lt
  replace Da := Lib.hid (Da.below HB.out)
  replace SNa := Lib.hid (SNa.below HB.out)
  replace SDa := Lib.hid (SDa.below HB.out)
  replace HD := Lib.hid (BoxN.below HD HB.out)
  go_upto_region 2 with fail
  refine wp_region_going 19 [] ([fun vq _ => vq = .func (.func f) #[] caps,
      fun vq _ => vq = .func (.func 106) #[] #[],
      fun vq _ => vq = .pointer (some ⟨pa, 0, none⟩),
      fun vq wq => ZV wq vq q.num,
      fun vq _ => vq = .pointer (some ⟨w.heap.size, 2, none⟩),
      fun vq _ => vq = .slice B0 j0 d0,
      fun vq wq => ZV wq vq ((q.num * (r.den : Int))),
      fun vq _ => vq = .func (.func 106) #[] #[],
      fun vq _ => vq = .pointer (some ⟨w.heap.size, 0, none⟩),
      fun vq wq => ZV wq vq r.num,
      fun vq _ => vq = .pointer (some ⟨pa, 2, none⟩),
      fun vq _ => vq = .slice B j d,
      fun vq wq => ZV wq vq ((r.num * (q.den : Int))),
      fun vq _ => vq = .pointer (some ⟨pa, 2, none⟩),
      fun vq _ => vq = .slice B j d,
      fun vq _ => vq = .pointer (some ⟨w.heap.size, 2, none⟩),
      fun vq _ => vq = .slice B0 j0 d0,
      fun vq wq => LV wq vq ((limbs (q.den * r.den))) ((q.den * r.den)),
      fun vq wq => RV wq vq Q]) (by kernel_rfl) (by kernel_rfl) (by decide) (by kernel_rfl) (by kernel_rfl) ?_ ?_ ?_
  · intro j hj; cases hj
  · refine po rfl (fun lq aq wq hk hr K hK => ?_) ?_
    · have B1 : ev aq (.tmp 1) = .pointer (some ⟨pd, 0, none⟩) := hk.base 1 (by kernel_rfl) rfl
      have hb := grows_of hk.ext
      have c0 := (BoxN.below HD.out hb).cell 0 rfl
      exact vc hK (by go_simp) (fun w2 h2 => rfl)
    refine po rfl (fun lq aq wq hk hr K hK => ?_) ?_
    · have B5 : ev aq (.tmp 5) = .func (.func 106) #[] #[] := hk.base 5 (by kernel_rfl) rfl
      exact vc hK (by go_simp) (fun w2 h2 => rfl)
    refine po rfl (fun lq aq wq hk hr K hK => ?_) ?_
    · have B2 : ev aq (.tmp 2) = .pointer (some ⟨pa, 0, none⟩) := hk.base 2 (by kernel_rfl) rfl
      exact vc hK (by go_simp) (fun w2 h2 => rfl)
    refine po rfl (fun lq aq wq hk hr K hK => ?_) ?_
    · have E2 : ev aq (.tmp 8) = .pointer (some ⟨pa, 0, none⟩) := hk.dc hr 2 (by kernel_rfl) fun _ _ h => h
      have hb := grows_of hk.ext
      exact vc hK (op_loadN 8 _ E2 (Da.out.below hb)) (fun w2 h2 => ⟨_, _, _, _, rfl, (SNa.out.below hb).below h2⟩)
    refine po rfl (fun lq aq wq hk hr K hK => ?_) ?_
    · have B3 : ev aq (.tmp 3) = .pointer (some ⟨w.heap.size, 0, none⟩) := hk.base 3 (by kernel_rfl) rfl
      exact vc hK (by go_simp) (fun w2 h2 => rfl)
    refine po rfl (fun lq aq wq hk hr K hK => ?_) ?_
    · have E4 : ev aq (.tmp 10) = .pointer (some ⟨w.heap.size, 2, none⟩) := hk.dc hr 4 (by kernel_rfl) fun _ _ h => h
      have hb := grows_of hk.ext
      have c2 := (D0.out.below hb).c2
      exact vc hK (by go_simp) (fun w2 h2 => rfl)
    refine po rfl (fun lq aq wq hk hr K hK => ?_) ?_
    · have E1 : ev aq (.tmp 7) = .func (.func 106) #[] #[] := hk.dc hr 1 (by kernel_rfl) fun _ _ h => h
      obtain ⟨v3, E3, r3⟩ := hk.dp hr 3 9 (by kernel_rfl)
      have r3 : ZV wq v3 q.num := r3
      have E5 : ev aq (.tmp 11) = .slice B0 j0 d0 := hk.dc hr 5 (by kernel_rfl) fun _ _ h => h
      exact yc hK (by go_simp) (up_v wq (r3).wv (SD0.out.below (grows_of hk.ext)).lv hd0 hs1) (fun u w1 hu w2 h2 => (hu).grow h2)
    refine po rfl (fun lq aq wq hk hr K hK => ?_) ?_
    · have B5 : ev aq (.tmp 5) = .func (.func 106) #[] #[] := hk.base 5 (by kernel_rfl) rfl
      exact vc hK (by go_simp) (fun w2 h2 => rfl)
    refine po rfl (fun lq aq wq hk hr K hK => ?_) ?_
    · have B3 : ev aq (.tmp 3) = .pointer (some ⟨w.heap.size, 0, none⟩) := hk.base 3 (by kernel_rfl) rfl
      exact vc hK (by go_simp) (fun w2 h2 => rfl)
    refine po rfl (fun lq aq wq hk hr K hK => ?_) ?_
    · have E8 : ev aq (.tmp 14) = .pointer (some ⟨w.heap.size, 0, none⟩) := hk.dc hr 8 (by kernel_rfl) fun _ _ h => h
      have hb := grows_of hk.ext
      exact vc hK (op_loadN 14 _ E8 (D0.out.below hb)) (fun w2 h2 => ⟨_, _, _, _, rfl, (SN0.out.below hb).below h2⟩)
    refine po rfl (fun lq aq wq hk hr K hK => ?_) ?_
    · have B2 : ev aq (.tmp 2) = .pointer (some ⟨pa, 0, none⟩) := hk.base 2 (by kernel_rfl) rfl
      exact vc hK (by go_simp) (fun w2 h2 => rfl)
    refine po rfl (fun lq aq wq hk hr K hK => ?_) ?_
    · have E10 : ev aq (.tmp 16) = .pointer (some ⟨pa, 2, none⟩) := hk.dc hr 10 (by kernel_rfl) fun _ _ h => h
      have hb := grows_of hk.ext
      have c2 := (Da.out.below hb).c2
      exact vc hK (by go_simp) (fun w2 h2 => rfl)
    refine po rfl (fun lq aq wq hk hr K hK => ?_) ?_
    · have E7 : ev aq (.tmp 13) = .func (.func 106) #[] #[] := hk.dc hr 7 (by kernel_rfl) fun _ _ h => h
      obtain ⟨v9, E9, r9⟩ := hk.dp hr 9 15 (by kernel_rfl)
      have r9 : ZV wq v9 r.num := r9
      have E11 : ev aq (.tmp 17) = .slice B j d := hk.dc hr 11 (by kernel_rfl) fun _ _ h => h
      exact yc hK (by go_simp) (up_v wq (r9).wv (SDa.out.below (grows_of hk.ext)).lv hda hs2) (fun u w1 hu w2 h2 => (hu).grow h2)
    refine po rfl (fun lq aq wq hk hr K hK => ?_) ?_
    · have B2 : ev aq (.tmp 2) = .pointer (some ⟨pa, 0, none⟩) := hk.base 2 (by kernel_rfl) rfl
      exact vc hK (by go_simp) (fun w2 h2 => rfl)
    refine po rfl (fun lq aq wq hk hr K hK => ?_) ?_
    · have E13 : ev aq (.tmp 19) = .pointer (some ⟨pa, 2, none⟩) := hk.dc hr 13 (by kernel_rfl) fun _ _ h => h
      have hb := grows_of hk.ext
      have c2 := (Da.out.below hb).c2
      exact vc hK (by go_simp) (fun w2 h2 => rfl)
    refine po rfl (fun lq aq wq hk hr K hK => ?_) ?_
    · have B3 : ev aq (.tmp 3) = .pointer (some ⟨w.heap.size, 0, none⟩) := hk.base 3 (by kernel_rfl) rfl
      exact vc hK (by go_simp) (fun w2 h2 => rfl)
    refine po rfl (fun lq aq wq hk hr K hK => ?_) ?_
    · have E15 : ev aq (.tmp 21) = .pointer (some ⟨w.heap.size, 2, none⟩) := hk.dc hr 15 (by kernel_rfl) fun _ _ h => h
      have hb := grows_of hk.ext
      have c2 := (D0.out.below hb).c2
      exact vc hK (by go_simp) (fun w2 h2 => rfl)
    refine po rfl (fun lq aq wq hk hr K hK => ?_) ?_
    · have E14 : ev aq (.tmp 20) = .slice B j d := hk.dc hr 14 (by kernel_rfl) fun _ _ h => h
      have E16 : ev aq (.tmp 22) = .slice B0 j0 d0 := hk.dc hr 16 (by kernel_rfl) fun _ _ h => h
      exact yc hK (by go_simp) (nmul_v wq (SDa.out.below (grows_of hk.ext)).lv (SD0.out.below (grows_of hk.ext)).lv hs3) (fun u w1 hu w2 h2 => (hu).grow h2)
    refine po rfl (fun lq aq wq hk hr K hK => ?_) ?_
    · have E0 : ev aq (.tmp 6) = .func (.func f) #[] caps := hk.dc hr 0 (by kernel_rfl) fun _ _ h => h
      obtain ⟨v6, E6, r6⟩ := hk.dp hr 6 12 (by kernel_rfl)
      have r6 : ZV wq v6 ((q.num * (r.den : Int))) := r6
      obtain ⟨v12, E12, r12⟩ := hk.dp hr 12 18 (by kernel_rfl)
      have r12 : ZV wq v12 ((r.num * (q.den : Int))) := r12
      obtain ⟨v17, E17, r17⟩ := hk.dp hr 17 23 (by kernel_rfl)
      have r17 : LV wq v17 ((limbs (q.den * r.den))) ((q.den * r.den)) := r17
      refine wp_of_call (f := f) (vs := #[v6, v12, v17] ++ caps) (by go_simp) (hdo wq _ _ _ (HB.out.trans (Below.mono (grows_of hk.ext) HB.out.size)) r6 r12 r17) ?_
      rintro e w1 ⟨u, rfl, hu, hb⟩
      exact ⟨u, rfl, hK.out _ _ hb (fun w2 h2 => (hu).grow h2) (fun h => absurd h (by decide))⟩
    exact AllOps.nil
  intro V x1 hG hV hap
  have r12 : ZV x1 (V 12) ((r.num * (q.den : Int))) := hV 12 (by decide)
  have r18 : RV x1 (V 18) Q := hV 18 (by decide)
  clear hV hap
  simp only [List.take_succ_cons, List.take_zero, List.drop_succ_cons, List.drop_zero, putAll, Act.put, List.setIfInBounds_toArray, List.set_cons_zero, List.set_cons_succ]
  have hb := grows_of hG
  obtain ⟨nR, AR, kR, cR, BR, jR, dR, y9, eR, ey, hQ, HQ, c0, c1, c2⟩ := ret3 r18 (DR.out.below hb) (HB.out.trans (Below.mono hb HB.out.size)) (by omega)
  simp only [eR]
  refine wpList_of_skip rfl (op_store3 4 24 _ rfl rfl (DR.out.below hb)) ?_
  rw [ey]
  clear eR ey hb hG HB DR
  go_wp2_with fail
  refine bodyPost_ret (v := .agg #[.bool nR, .slice AR kR cR, .slice BR jR dR]) (by simp [results, Tryz.results105, go_sem, c0, c1, c2]) rfl ⟨_, rfl, hQ, HQ⟩
set_option maxHeartbeats 16000000 in
set_option maxRecDepth 100000 in
theorem two1_v (w : World) {u : Value} {q r : Rat} (Q : Rat) (f : FuncId) (caps : Array Value) (pb pd : Nat) (h0 : RV w u q) (n : Bool) (A : Option Addr) (k c : Nat) (B : Option Addr) (j d : Nat) (z : Int) (l : List Nat) (a : Nat) (Db : Box3 w pb 26 (.bool n) (.slice A k c) (.slice B j d)) (SNb : Whole w n (.slice A k c) z) (SDb : Num w (.slice B j d) l a) (hlb : l.length ≤ 1000) (eb : r = mkRat z (dn a)) (HD : BoxN w pd 71 #[.func (.func f) #[] caps]) (hf : ∀ (vs : Array Value) (w1 : World), (callFunc f vs).run Tryz.prog w1 = .ok (.enter f vs) w1) (hs1 : szz (q.num * (r.den : Int)) ≤ 1000) (hs2 : szz (r.num * (q.den : Int)) ≤ 1000) (hs3 : sz (q.den * r.den) ≤ 1000) (hdo : ∀ (w1 : World) (u1 v1 m1 : Value), Grows w w1 → ZV w1 u1 (q.num * (r.den : Int)) → ZV w1 v1 (r.num * (q.den : Int)) → LV w1 m1 (limbs (q.den * r.den)) (q.den * r.den) → Calls Tryz.prog f (#[u1, v1, m1] ++ caps) w1 fun e w' => ∃ x, e = .returned x ∧ RV w' x Q ∧ Grows w1 w') : Calls Tryz.prog 104 #[u, .pointer (some ⟨pb, 0, none⟩), .pointer (some ⟨pd, 0, none⟩)] w fun e w' => ∃ x, e = .returned x ∧ RV w' x Q ∧ Grows w w' := by
  have hzb : szz z ≤ 1000 := SNb.size
  obtain ⟨n0, A0, k0, c0, B0, j0, d0, rfl, s0, t0, hd0⟩ := h0
  go_enter Tryz.func104, Tryz.ntmps104
  go_upto_region 1 with fail
  obtain ⟨x0, ex0, HB, D0, DR⟩ := st_33 w 26 (.bool n0) (.slice A0 k0 c0) (.slice B0 j0 d0) 26 (.bool false) (.slice none 0 0) (.slice none 0 0)
  rw [ex0]
  clear ex0
  replace HB := Lib.hid HB
  replace D0 := Lib.hid D0
  replace DR := Lib.hid DR
  have SN0 := Lib.hid (s0.below HB.out)
  clear s0
  have SD0 := Lib.hid (t0.below HB.out)
  clear t0
  have lcb := Db.lt
  replace Db := Lib.hid (Db.below HB.out)
  replace SNb := Lib.hid (SNb.below HB.out)
  replace SDb := Lib.hid (SDb.below HB.out)
  replace HD := Lib.hid (BoxN.below HD HB.out)
  refine wp_region_calm 3 [] ([fun vq wq => QV wq vq r,
      fun vq _ => vq = .func (.func 105) #[] #[.pointer (some ⟨pd, 0, none⟩), .pointer (some ⟨w.heap.size, 0, none⟩)],
      fun vq wq => RV wq vq Q]) (by kernel_rfl) (by decide) ?_ ?_ ?_
  · intro j hj; cases hj
  · refine po rfl (fun lq aq wq hk hr K hK => ?_) ?_
    · have B1 : ev aq (.tmp 1) = .pointer (some ⟨pb, 0, none⟩) := hk.base 1 (by kernel_rfl) rfl
      have hb : Below _ _ _ := hk.ext
      exact vc hK (op_load3 1 _ B1 (Db.out.below hb)) (fun w2 h2 => QV.grow ⟨_, _, _, _, _, _, _, rfl, _, _, _, (SNb.out.below hb), (SDb.out.below hb), hlb, eb⟩ h2)
    refine po rfl (fun lq aq wq hk hr K hK => ?_) ?_
    · have B2 : ev aq (.tmp 2) = .pointer (some ⟨pd, 0, none⟩) := hk.base 2 (by kernel_rfl) rfl
      have B3 : ev aq (.tmp 3) = .pointer (some ⟨w.heap.size, 0, none⟩) := hk.base 3 (by kernel_rfl) rfl
      exact vc hK (by go_simp) (fun w2 h2 => rfl)
    refine po rfl (fun lq aq wq hk hr K hK => ?_) ?_
    · obtain ⟨v0, E0, r0⟩ := hk.dp hr 0 5 (by kernel_rfl)
      have r0 : QV wq v0 r := r0
      have E1 : ev aq (.tmp 6) = .func (.func 105) #[] #[.pointer (some ⟨pd, 0, none⟩), .pointer (some ⟨w.heap.size, 0, none⟩)] := hk.dc hr 1 (by kernel_rfl) fun _ _ h => h
      exact yc hK (f := 59) (vs := #[v0, .func (.func 105) #[] #[.pointer (some ⟨pd, 0, none⟩), .pointer (some ⟨w.heap.size, 0, none⟩)]]) (by go_simp) (withR_v wq Q _ _ r0 two11_f (fun w9 u9 hw9 hu9 => two11_v w9 Q f caps pd w.heap.size hu9 _ _ _ _ _ _ _ (D0.out.below (Below.trans hk.ext (Below.mono hw9 hk.ext.size))) (SN0.out.below (Below.trans hk.ext (Below.mono hw9 hk.ext.size))) (SD0.out.below (Below.trans hk.ext (Below.mono hw9 hk.ext.size))) hd0 (BoxN.below HD.out (Below.trans hk.ext (Below.mono hw9 hk.ext.size))) hf hs1 hs2 hs3 (fun w1 u1 v1 m1 hg => hdo w1 u1 v1 m1 (Below.trans (HB.out.trans (Below.mono (Below.trans hk.ext (Below.mono hw9 hk.ext.size)) HB.out.size)) (Below.mono hg ((HB.out.trans (Below.mono (Below.trans hk.ext (Below.mono hw9 hk.ext.size)) HB.out.size))).size))))) (fun u w1 hu w2 h2 => (hu).grow h2)
    exact AllOps.nil
  intro V x1 hG hV hap
  have r2 : RV x1 (V 2) Q := hV 2 (by decide)
  clear hV hap
  simp only [List.take_succ_cons, List.take_zero, List.drop_succ_cons, List.drop_zero, putAll, Act.put, List.setIfInBounds_toArray, List.set_cons_zero, List.set_cons_succ]
  have hb := (show Below _ _ _ from hG)
  obtain ⟨nR, AR, kR, cR, BR, jR, dR, y9, eR, ey, hQ, HQ, c0, c1, c2⟩ := ret3 r2 (DR.out.below hb) (HB.out.trans (Below.mono hb HB.out.size)) (by omega)
  simp only [eR]
  refine wpList_of_skip rfl (op_store3 4 7 _ rfl rfl (DR.out.below hb)) ?_
  rw [ey]
  clear eR ey hb hG HB DR
  go_wp2_with fail
  refine bodyPost_ret (v := .agg #[.bool nR, .slice AR kR cR, .slice BR jR dR]) (by simp [results, Tryz.results104, go_sem, c0, c1, c2]) rfl ⟨_, rfl, hQ, HQ⟩
end Go.Proofs.YtbippecchpaleaaGreatDoor
/- rat.two, Floor, Ceil, Of, Mul, Div: what each returns. -/
namespace Go.Proofs.YtbippecchpaleaaGreatDoor
open Go.RowKit Go.Num Go.Kp
attribute [local go_sem] Oper.semAt_some u64_mask ev_const ev_func ev_global
set_option maxHeartbeats 16000000 in
set_option maxRecDepth 100000 in
theorem two_v (w : World) {u v : Value} {q r : Rat} (Q : Rat) (f : FuncId) (caps : Array Value) (h0 : QV w u q) (h1 : QV w v r) (hf : ∀ (vs : Array Value) (w1 : World), (callFunc f vs).run Tryz.prog w1 = .ok (.enter f vs) w1) (hs1 : szz (q.num * (r.den : Int)) ≤ 1000) (hs2 : szz (r.num * (q.den : Int)) ≤ 1000) (hs3 : sz (q.den * r.den) ≤ 1000) (hdo : ∀ (w1 : World) (u1 v1 m1 : Value), Grows w w1 → ZV w1 u1 (q.num * (r.den : Int)) → ZV w1 v1 (r.num * (q.den : Int)) → LV w1 m1 (limbs (q.den * r.den)) (q.den * r.den) → Calls Tryz.prog f (#[u1, v1, m1] ++ caps) w1 fun e w' => ∃ x, e = .returned x ∧ RV w' x Q ∧ Grows w1 w') : Calls Tryz.prog 67 #[u, v, .func (.func f) #[] caps] w fun e w' => ∃ x, e = .returned x ∧ RV w' x Q ∧ Grows w w' := by
  obtain ⟨n0, A0, k0, c0, B0, j0, d0, rfl, z0, l0, a0, s0, t0, hl0, e0⟩ := h0
  have hk0 : szz z0 ≤ 1000 := s0.size
  obtain ⟨n1, A1, k1, c1, B1, j1, d1, rfl, z1, l1, a1, s1, t1, hl1, e1⟩ := h1
  have hk1 : szz z1 ≤ 1000 := s1.size
  go_enter Tryz.func67, Tryz.ntmps67
  go_upto_region 1 with fail
  obtain ⟨x0, ex0, HB, D0, D1, DF, DR⟩ := st_33N3 w 26 (.bool n0) (.slice A0 k0 c0) (.slice B0 j0 d0) 26 (.bool n1) (.slice A1 k1 c1) (.slice B1 j1 d1) 71 #[.func (.func f) #[] caps] 26 (.bool false) (.slice none 0 0) (.slice none 0 0)
  rw [ex0]
  clear ex0
  replace HB := Lib.hid HB
  replace D0 := Lib.hid D0
  replace D1 := Lib.hid D1
  have HD := Lib.hid DF
  clear DF
  replace DR := Lib.hid DR
  have SN0 := Lib.hid (s0.below HB.out)
  clear s0
  have SD0 := Lib.hid (t0.below HB.out)
  clear t0
  have SN1 := Lib.hid (s1.below HB.out)
  clear s1
  have SD1 := Lib.hid (t1.below HB.out)
  clear t1
  refine wp_region_calm 3 [] ([fun vq wq => QV wq vq q,
      fun vq _ => vq = .func (.func 104) #[] #[.pointer (some ⟨w.heap.size + 1, 0, none⟩), .pointer (some ⟨w.heap.size + 1 + 1, 0, none⟩)],
      fun vq wq => RV wq vq Q]) (by kernel_rfl) (by decide) ?_ ?_ ?_
  · intro j hj; cases hj
  · refine po rfl (fun lq aq wq hk hr K hK => ?_) ?_
    · have B3 : ev aq (.tmp 3) = .pointer (some ⟨w.heap.size, 0, none⟩) := hk.base 3 (by kernel_rfl) rfl
      have hb : Below _ _ _ := hk.ext
      exact vc hK (op_load3 3 _ B3 (D0.out.below hb)) (fun w2 h2 => QV.grow ⟨_, _, _, _, _, _, _, rfl, _, _, _, (SN0.out.below hb), (SD0.out.below hb), hl0, e0⟩ h2)
    refine po rfl (fun lq aq wq hk hr K hK => ?_) ?_
    · have B4 : ev aq (.tmp 4) = .pointer (some ⟨w.heap.size + 1, 0, none⟩) := hk.base 4 (by kernel_rfl) rfl
      have B5 : ev aq (.tmp 5) = .pointer (some ⟨w.heap.size + 1 + 1, 0, none⟩) := hk.base 5 (by kernel_rfl) rfl
      exact vc hK (by go_simp) (fun w2 h2 => rfl)
    refine po rfl (fun lq aq wq hk hr K hK => ?_) ?_
    · obtain ⟨v0, E0, r0⟩ := hk.dp hr 0 7 (by kernel_rfl)
      have r0 : QV wq v0 q := r0
      have E1 : ev aq (.tmp 8) = .func (.func 104) #[] #[.pointer (some ⟨w.heap.size + 1, 0, none⟩), .pointer (some ⟨w.heap.size + 1 + 1, 0, none⟩)] := hk.dc hr 1 (by kernel_rfl) fun _ _ h => h
      exact yc hK (f := 59) (vs := #[v0, .func (.func 104) #[] #[.pointer (some ⟨w.heap.size + 1, 0, none⟩), .pointer (some ⟨w.heap.size + 1 + 1, 0, none⟩)]]) (by go_simp) (withR_v wq Q _ _ r0 two1_f (fun w9 u9 hw9 hu9 => two1_v w9 Q f caps (w.heap.size + 1) (w.heap.size + 1 + 1) hu9 _ _ _ _ _ _ _ _ _ _ (D1.out.below (Below.trans hk.ext (Below.mono hw9 hk.ext.size))) (SN1.out.below (Below.trans hk.ext (Below.mono hw9 hk.ext.size))) (SD1.out.below (Below.trans hk.ext (Below.mono hw9 hk.ext.size))) hl1 e1 (BoxN.below HD.out (Below.trans hk.ext (Below.mono hw9 hk.ext.size))) hf hs1 hs2 hs3 (fun w1 u1 v1 m1 hg => hdo w1 u1 v1 m1 (Below.trans (HB.out.trans (Below.mono (Below.trans hk.ext (Below.mono hw9 hk.ext.size)) HB.out.size)) (Below.mono hg ((HB.out.trans (Below.mono (Below.trans hk.ext (Below.mono hw9 hk.ext.size)) HB.out.size))).size))))) (fun u w1 hu w2 h2 => (hu).grow h2)
    exact AllOps.nil
  intro V x1 hG hV hap
  have r2 : RV x1 (V 2) Q := hV 2 (by decide)
  clear hV hap
  simp only [List.take_succ_cons, List.take_zero, List.drop_succ_cons, List.drop_zero, putAll, Act.put, List.setIfInBounds_toArray, List.set_cons_zero, List.set_cons_succ]
  have hb := (show Below _ _ _ from hG)
  obtain ⟨nR, AR, kR, cR, BR, jR, dR, y9, eR, ey, hQ, HQ, c0, c1, c2⟩ := ret3 r2 (DR.out.below hb) (HB.out.trans (Below.mono hb HB.out.size)) (by omega)
  simp only [eR]
  refine wpList_of_skip rfl (op_store3 6 9 _ rfl rfl (DR.out.below hb)) ?_
  rw [ey]
  clear eR ey hb hG HB DR
  go_wp2_with fail
  refine bodyPost_ret (v := .agg #[.bool nR, .slice AR kR cR, .slice BR jR dR]) (by simp [results, Tryz.results67, go_sem, c0, c1, c2]) rfl ⟨_, rfl, hQ, HQ⟩
theorem floor1_f : ∀ (vs : Array Value) (w1 : World), (callFunc 73 vs).run Tryz.prog w1 = .ok (.enter 73 vs) w1 := run_callFunc_go Tryz.func73 (by kernel_rfl) (by kernel_rfl)
set_option maxHeartbeats 4000000 in
set_option maxRecDepth 100000 in
theorem qfloor_v (w : World) {u : Value} {q : Rat} (h0 : QV w u q) (hfl : szz q.floor ≤ 1000) : Calls Tryz.prog 33 #[u] w fun e w' => ∃ r, e = .returned r ∧ ZV w' r q.floor ∧ Grows w w' := by
  obtain ⟨n0, A0, k0, c0, B0, j0, d0, rfl, z0, l0, a0, s0, t0, hl0, e0⟩ := h0
  have hk0 : szz z0 ≤ 1000 := s0.size
  go_enter Tryz.func33, Tryz.ntmps33
  go_upto_region 1 with fail
  obtain ⟨x0, ex0, HB, D0, DR⟩ := st_32 w 26 (.bool n0) (.slice A0 k0 c0) (.slice B0 j0 d0) 24 (.bool false) (.slice none 0 0)
  rw [ex0]
  clear ex0
  replace HB := Lib.hid HB
  replace D0 := Lib.hid D0
  replace DR := Lib.hid DR
  have SN0 := Lib.hid (s0.below HB.out)
  clear s0
  have SD0 := Lib.hid (t0.below HB.out)
  clear t0
  have hkf : szz q.floor ≤ 1000 := hfl
  refine wp_region_calm 2 [] ([fun vq wq => QV wq vq q,
      fun vq wq => ZV wq vq q.floor]) (by kernel_rfl) (by decide) ?_ ?_ ?_
  · intro j hj; cases hj
  · refine po rfl (fun lq aq wq hk hr K hK => ?_) ?_
    · have B1 : ev aq (.tmp 1) = .pointer (some ⟨w.heap.size, 0, none⟩) := hk.base 1 (by kernel_rfl) rfl
      have hb : Below _ _ _ := hk.ext
      exact vc hK (op_load3 1 _ B1 (D0.out.below hb)) (fun w2 h2 => QV.grow ⟨_, _, _, _, _, _, _, rfl, _, _, _, (SN0.out.below hb), (SD0.out.below hb), hl0, e0⟩ h2)
    refine po rfl (fun lq aq wq hk hr K hK => ?_) ?_
    · obtain ⟨v0, E0, r0⟩ := hk.dp hr 0 3 (by kernel_rfl)
      have r0 : QV wq v0 q := r0
      exact yc hK (f := 72) (vs := #[v0, .func (.func 73) #[] #[]]) (by go_simp) (withI_v wq q.floor _ #[] r0 floor1_f (fun w1 u1 _ hu => floor1_v w1 hu)) (fun u w1 hu w2 h2 => (hu).grow h2)
    exact AllOps.nil
  intro V x1 hG hV hap
  have r1 : ZV x1 (V 1) q.floor := hV 1 (by decide)
  clear hV hap
  simp only [List.take_succ_cons, List.take_zero, List.drop_succ_cons, List.drop_zero, putAll, Act.put, List.setIfInBounds_toArray, List.set_cons_zero, List.set_cons_succ]
  have hb := (show Below _ _ _ from hG)
  obtain ⟨nR, AR, kR, cR, y9, eR, ey, hQ, HQ, c0, c1⟩ := ret2 r1 (DR.out.below hb) (HB.out.trans (Below.mono hb HB.out.size)) (by omega)
  simp only [eR]
  refine wpList_of_skip rfl (op_store 2 4 _ rfl rfl (DR.out.below hb)) ?_
  rw [ey]
  clear eR ey hb hG HB DR
  go_wp2_with fail
  refine bodyPost_ret (v := .agg #[.bool nR, .slice AR kR cR]) (by simp [results, Tryz.results33, go_sem, c0, c1]) rfl ⟨_, rfl, hQ, HQ⟩
set_option maxHeartbeats 4000000 in
set_option maxRecDepth 100000 in
theorem qceil_v (w : World) {u : Value} {q : Rat} (h0 : QV w u q) (hfl : szz (-q).floor ≤ 1000) : Calls Tryz.prog 35 #[u] w fun e w' => ∃ r, e = .returned r ∧ ZV w' r (-(-q).floor) ∧ Grows w w' := by
  obtain ⟨n0, A0, k0, c0, B0, j0, d0, rfl, z0, l0, a0, s0, t0, hl0, e0⟩ := h0
  have hk0 : szz z0 ≤ 1000 := s0.size
  go_enter Tryz.func35, Tryz.ntmps35
  go_upto_region 1 with fail
  obtain ⟨x0, ex0, HB, D0, DR⟩ := st_32 w 26 (.bool n0) (.slice A0 k0 c0) (.slice B0 j0 d0) 24 (.bool false) (.slice none 0 0)
  rw [ex0]
  clear ex0
  replace HB := Lib.hid HB
  replace D0 := Lib.hid D0
  replace DR := Lib.hid DR
  have SN0 := Lib.hid (s0.below HB.out)
  clear s0
  have SD0 := Lib.hid (t0.below HB.out)
  clear t0
  refine wp_region_calm 4 [] ([fun vq wq => QV wq vq q,
      fun vq wq => RV wq vq ((-q)),
      fun vq wq => ZV wq vq ((Rat.floor ((-q)))),
      fun vq wq => ZV wq vq ((-(Rat.floor ((-q)))))]) (by kernel_rfl) (by decide) ?_ ?_ ?_
  · intro j hj; cases hj
  · refine po rfl (fun lq aq wq hk hr K hK => ?_) ?_
    · have B1 : ev aq (.tmp 1) = .pointer (some ⟨w.heap.size, 0, none⟩) := hk.base 1 (by kernel_rfl) rfl
      have hb : Below _ _ _ := hk.ext
      exact vc hK (op_load3 1 _ B1 (D0.out.below hb)) (fun w2 h2 => QV.grow ⟨_, _, _, _, _, _, _, rfl, _, _, _, (SN0.out.below hb), (SD0.out.below hb), hl0, e0⟩ h2)
    refine po rfl (fun lq aq wq hk hr K hK => ?_) ?_
    · obtain ⟨v0, E0, r0⟩ := hk.dp hr 0 3 (by kernel_rfl)
      have r0 : QV wq v0 q := r0
      exact yc hK (by go_simp) (rneg_v wq r0) (fun u w1 hu w2 h2 => (hu).grow h2)
    refine po rfl (fun lq aq wq hk hr K hK => ?_) ?_
    · obtain ⟨v1, E1, r1⟩ := hk.dp hr 1 4 (by kernel_rfl)
      have r1 : RV wq v1 ((-q)) := r1
      exact yc hK (by go_simp) (qfloor_v wq (r1).qv hfl) (fun u w1 hu w2 h2 => (hu).grow h2)
    refine po rfl (fun lq aq wq hk hr K hK => ?_) ?_
    · obtain ⟨v2, E2, r2⟩ := hk.dp hr 2 5 (by kernel_rfl)
      have r2 : ZV wq v2 ((Rat.floor ((-q)))) := r2
      exact yc hK (by go_simp) (neg_v wq (r2).wv (Nat.le_trans (szz_neg hfl) (by decide))) (fun u w1 hu w2 h2 => (hu).grow h2)
    exact AllOps.nil
  intro V x1 hG hV hap
  have r0 : QV x1 (V 0) q := hV 0 (by decide)
  have r3 : ZV x1 (V 3) ((-(Rat.floor ((-q))))) := hV 3 (by decide)
  clear hV hap
  simp only [List.take_succ_cons, List.take_zero, List.drop_succ_cons, List.drop_zero, putAll, Act.put, List.setIfInBounds_toArray, List.set_cons_zero, List.set_cons_succ]
  have hb := (show Below _ _ _ from hG)
  obtain ⟨nR, AR, kR, cR, y9, eR, ey, hQ, HQ, c0, c1⟩ := ret2 r3 (DR.out.below hb) (HB.out.trans (Below.mono hb HB.out.size)) (by omega)
  simp only [eR]
  refine wpList_of_skip rfl (op_store 2 6 _ rfl rfl (DR.out.below hb)) ?_
  rw [ey]
  clear eR ey hb hG HB DR
  go_wp2_with fail
  refine bodyPost_ret (v := .agg #[.bool nR, .slice AR kR cR]) (by simp [results, Tryz.results35, go_sem, c0, c1]) rfl ⟨_, rfl, (ZV.to hQ rfl), HQ⟩
set_option maxHeartbeats 4000000 in
set_option maxRecDepth 100000 in
theorem qof0_v (w : World) {u v : Value} {z y : Int} (h0 : WV w u z) (h1 : WV w v y) (hy : y = 0) : Calls Tryz.prog 41 #[u, v] w fun e w' => ∃ r, e = .returned r ∧ (∃ x, r = .tuple #[x, .int .i64 3] ∧ RV w' x ((0 : Int) : Rat)) ∧ Grows w w' := by
  obtain ⟨n0, A0, k0, c0, rfl, s0⟩ := h0
  have hk0 : szz z ≤ 1000 := s0.size
  obtain ⟨n1, A1, k1, c1, rfl, s1⟩ := h1
  have hk1 : szz y ≤ 1000 := s1.size
  go_enter Tryz.func41, Tryz.ntmps41
  go_upto_region 1 with fail
  obtain ⟨x0, ex0, HB, D0, D1, DR⟩ := st_223 w 24 (.bool n0) (.slice A0 k0 c0) 24 (.bool n1) (.slice A1 k1 c1) 26 (.bool false) (.slice none 0 0) (.slice none 0 0)
  rw [ex0]
  clear ex0
  replace HB := Lib.hid HB
  replace D0 := Lib.hid D0
  replace D1 := Lib.hid D1
  replace DR := Lib.hid DR
  have SN0 := Lib.hid (s0.below HB.out)
  clear s0
  have SN1 := Lib.hid (s1.below HB.out)
  clear s1
  refine wp_region_calm 3 [] ([fun vq wq => WV wq vq y,
      fun vq _ => vq = .int .i64 0,
      fun vq _ => vq = .bool true]) (by kernel_rfl) (by decide) ?_ ?_ ?_
  · intro j hj; cases hj
  · refine po rfl (fun lq aq wq hk hr K hK => ?_) ?_
    · have B3 : ev aq (.tmp 3) = .pointer (some ⟨w.heap.size + 1, 0, none⟩) := hk.base 3 (by kernel_rfl) rfl
      have hb : Below _ _ _ := hk.ext
      exact vc hK (op_load 3 _ B3 (D1.out.below hb)) (fun w2 h2 => ⟨_, _, _, _, rfl, (SN1.out.below hb).below h2⟩)
    refine po rfl (fun lq aq wq hk hr K hK => ?_) ?_
    · obtain ⟨v0, E0, r0⟩ := hk.dp hr 0 6 (by kernel_rfl)
      have r0 : WV wq v0 y := r0
      exact yc hK (by go_simp) (sign_v wq r0 (k := 0) (by rw [hy]; rfl)) (fun u w1 hu w2 h2 => hu)
    refine po rfl (fun lq aq wq hk hr K hK => ?_) ?_
    · have E1 : ev aq (.tmp 7) = .int .i64 0 := hk.dc hr 1 (by kernel_rfl) fun _ _ h => h
      exact vc hK (by go_simp) (fun w2 h2 => rfl)
    exact AllOps.nil
  intro V x1 hG hV hap
  have r2 : (V 2) = .bool true := hV 2 (by decide)
  clear hV hap
  simp only [List.take_succ_cons, List.take_nil, List.drop_succ_cons, List.drop_nil, putAll, Act.put, List.setIfInBounds_toArray, List.set_cons_zero, List.set_cons_succ]
  have hb := (show Below _ _ _ from hG)
  replace D0 := Lib.hid (D0.out.below hb)
  replace SN0 := Lib.hid (SN0.out.below hb)
  replace D1 := Lib.hid (D1.out.below hb)
  replace SN1 := Lib.hid (SN1.out.below hb)
  replace DR := Lib.hid (DR.out.below hb)
  replace HB := Lib.hid (HB.out.trans (Below.mono hb HB.out.size))
  clear hb hG
  rw [r2]
  clear r2
  go_upto_region 2 with fail
  refine wp_region_calm 2 [] ([fun vq wq => ZV wq vq 0,
      fun vq wq => RV wq vq (((0 : Int) : Rat))]) (by kernel_rfl) (by decide) ?_ ?_ ?_
  · intro j hj; cases hj
  · refine po rfl (fun lq aq wq hk hr K hK => ?_) ?_
    · exact vc hK (by go_simp) (fun w2 h2 => (ZV.zero _ 0).grow h2)
    refine po rfl (fun lq aq wq hk hr K hK => ?_) ?_
    · obtain ⟨v0, E0, r0⟩ := hk.dp hr 0 9 (by kernel_rfl)
      have r0 : ZV wq v0 0 := r0
      exact yc hK (by go_simp) (int_v wq (r0).wv) (fun u w1 hu w2 h2 => (hu).grow h2)
    exact AllOps.nil
  intro V x2 hG hV hap
  have r1 : RV x2 (V 1) (((0 : Int) : Rat)) := hV 1 (by decide)
  clear hV hap
  simp only [List.take_succ_cons, List.take_zero, List.drop_succ_cons, List.drop_zero, putAll, Act.put, List.setIfInBounds_toArray, List.set_cons_zero, List.set_cons_succ]
  have hb := (show Below _ _ _ from hG)
  obtain ⟨nR, AR, kR, cR, BR, jR, dR, y9, eR, ey, hQ, HQ, c0, c1, c2⟩ := ret3 r1 (DR.out.below hb) (HB.out.trans (Below.mono hb HB.out.size)) (by omega)
  simp only [eR]
  refine wpList_of_skip rfl (op_store3 4 10 _ rfl rfl (DR.out.below hb)) ?_
  rw [ey]
  clear eR ey hb hG HB DR
  go_wp2_with fail
  refine bodyPost_ret (v := .tuple #[.agg #[.bool nR, .slice AR kR cR, .slice BR jR dR], .int .i64 3]) (by simp [results, Tryz.results41, go_sem, c0, c1, c2]) rfl ⟨_, rfl, ⟨_, rfl, hQ⟩, HQ⟩
set_option maxHeartbeats 4000000 in
set_option maxRecDepth 100000 in
theorem qof_pos (w : World) {u v : Value} {z y : Int} (h0 : WV w u z) (h1 : WV w v y) (hy : 0 < y) : Calls Tryz.prog 41 #[u, v] w fun e w' => ∃ r, e = .returned r ∧ (∃ x, r = .tuple #[x, .int .i64 0] ∧ RV w' x (Rat.divInt z y)) ∧ Grows w w' := by
  obtain ⟨n0, A0, k0, c0, rfl, s0⟩ := h0
  have hk0 : szz z ≤ 1000 := s0.size
  obtain ⟨n1, A1, k1, c1, rfl, s1⟩ := h1
  have hk1 : szz y ≤ 1000 := s1.size
  go_enter Tryz.func41, Tryz.ntmps41
  go_upto_region 1 with fail
  obtain ⟨x0, ex0, HB, D0, D1, DR⟩ := st_223 w 24 (.bool n0) (.slice A0 k0 c0) 24 (.bool n1) (.slice A1 k1 c1) 26 (.bool false) (.slice none 0 0) (.slice none 0 0)
  rw [ex0]
  clear ex0
  replace HB := Lib.hid HB
  replace D0 := Lib.hid D0
  replace D1 := Lib.hid D1
  replace DR := Lib.hid DR
  have SN0 := Lib.hid (s0.below HB.out)
  clear s0
  have SN1 := Lib.hid (s1.below HB.out)
  clear s1
  refine wp_region_calm 3 [] ([fun vq wq => WV wq vq y,
      fun vq _ => vq = .int .i64 1,
      fun vq _ => vq = .bool false]) (by kernel_rfl) (by decide) ?_ ?_ ?_
  · intro j hj; cases hj
  · refine po rfl (fun lq aq wq hk hr K hK => ?_) ?_
    · have B3 : ev aq (.tmp 3) = .pointer (some ⟨w.heap.size + 1, 0, none⟩) := hk.base 3 (by kernel_rfl) rfl
      have hb : Below _ _ _ := hk.ext
      exact vc hK (op_load 3 _ B3 (D1.out.below hb)) (fun w2 h2 => ⟨_, _, _, _, rfl, (SN1.out.below hb).below h2⟩)
    refine po rfl (fun lq aq wq hk hr K hK => ?_) ?_
    · obtain ⟨v0, E0, r0⟩ := hk.dp hr 0 6 (by kernel_rfl)
      have r0 : WV wq v0 y := r0
      exact yc hK (by go_simp) (sign_v wq r0 (k := 1) (Int.sign_eq_one_of_pos hy)) (fun u w1 hu w2 h2 => hu)
    refine po rfl (fun lq aq wq hk hr K hK => ?_) ?_
    · have E1 : ev aq (.tmp 7) = .int .i64 1 := hk.dc hr 1 (by kernel_rfl) fun _ _ h => h
      exact vc hK (by go_simp) (fun w2 h2 => rfl)
    exact AllOps.nil
  intro V x1 hG hV hap
  have r2 : (V 2) = .bool false := hV 2 (by decide)
  clear hV hap
  simp only [List.take_succ_cons, List.take_nil, List.drop_succ_cons, List.drop_nil, putAll, Act.put, List.setIfInBounds_toArray, List.set_cons_zero, List.set_cons_succ]
  have hb := (show Below _ _ _ from hG)
  replace D0 := Lib.hid (D0.out.below hb)
  replace SN0 := Lib.hid (SN0.out.below hb)
  replace D1 := Lib.hid (D1.out.below hb)
  replace SN1 := Lib.hid (SN1.out.below hb)
  replace DR := Lib.hid (DR.out.below hb)
  replace HB := Lib.hid (HB.out.trans (Below.mono hb HB.out.size))
  clear hb hG
  rw [r2]
  clear r2
  go_upto_region 3 with fail
  refine wp_region_calm 3 [] ([fun vq wq => WV wq vq y,
      fun vq _ => vq = .int .i64 1,
      fun vq _ => vq = .bool false]) (by kernel_rfl) (by decide) ?_ ?_ ?_
  · intro j hj; cases hj
  · refine po rfl (fun lq aq wq hk hr K hK => ?_) ?_
    · have B3 : ev aq (.tmp 3) = .pointer (some ⟨w.heap.size + 1, 0, none⟩) := hk.base 3 (by kernel_rfl) rfl
      have hb : Below _ _ _ := hk.ext
      exact vc hK (op_load 3 _ B3 (D1.out.below hb)) (fun w2 h2 => ⟨_, _, _, _, rfl, (SN1.out.below hb).below h2⟩)
    refine po rfl (fun lq aq wq hk hr K hK => ?_) ?_
    · obtain ⟨v0, E0, r0⟩ := hk.dp hr 0 11 (by kernel_rfl)
      have r0 : WV wq v0 y := r0
      exact yc hK (by go_simp) (sign_v wq r0 (k := 1) (Int.sign_eq_one_of_pos hy)) (fun u w1 hu w2 h2 => hu)
    refine po rfl (fun lq aq wq hk hr K hK => ?_) ?_
    · have E1 : ev aq (.tmp 12) = .int .i64 1 := hk.dc hr 1 (by kernel_rfl) fun _ _ h => h
      exact vc hK (by go_simp) (fun w2 h2 => rfl)
    exact AllOps.nil
  intro V x2 hG hV hap
  have r2 : (V 2) = .bool false := hV 2 (by decide)
  clear hV hap
  simp only [List.take_succ_cons, List.take_nil, List.drop_succ_cons, List.drop_nil, putAll, Act.put, List.setIfInBounds_toArray, List.set_cons_zero, List.set_cons_succ]
  have hb := (show Below _ _ _ from hG)
  replace D0 := Lib.hid (D0.out.below hb)
  replace SN0 := Lib.hid (SN0.out.below hb)
  replace D1 := Lib.hid (D1.out.below hb)
  replace SN1 := Lib.hid (SN1.out.below hb)
  replace DR := Lib.hid (DR.out.below hb)
  replace HB := Lib.hid (HB.out.trans (Below.mono hb HB.out.size))
  clear hb hG
  rw [r2]
  clear r2
  go_upto_region 5 with fail
  obtain ⟨lN1, aN1, qN1, hlN1, eN1⟩ := SN1.out
  have QN1 := Lib.hid qN1
  clear qN1
  have hya : y.natAbs = aN1 := by rw [eN1, sg_natAbs]
  have hpos : 0 < aN1 := by rw [← hya]; exact Int.natAbs_pos.2 (by omega)
  have hsa : sz aN1 ≤ 1000 := Nat.le_trans (sz_num QN1.out) hlN1
  refine wp_region_going 5 [] ([fun vq wq => WV wq vq z,
      fun vq _ => vq = .pointer (some ⟨w.heap.size + 1, 1, none⟩),
      fun vq _ => vq = .slice A1 k1 c1,
      fun vq wq => LV wq vq ((limbs aN1)) aN1,
      fun vq wq => RV wq vq ((mkRat z aN1))]) (by kernel_rfl) (by kernel_rfl) (by decide) (by kernel_rfl) (by kernel_rfl) ?_ ?_ ?_
  · intro j hj; cases hj
  · refine po rfl (fun lq aq wq hk hr K hK => ?_) ?_
    · have B2 : ev aq (.tmp 2) = .pointer (some ⟨w.heap.size, 0, none⟩) := hk.base 2 (by kernel_rfl) rfl
      have hb := grows_of hk.ext
      exact vc hK (op_load 2 _ B2 (D0.out.below hb)) (fun w2 h2 => ⟨_, _, _, _, rfl, (SN0.out.below hb).below h2⟩)
    refine po rfl (fun lq aq wq hk hr K hK => ?_) ?_
    · have B3 : ev aq (.tmp 3) = .pointer (some ⟨w.heap.size + 1, 0, none⟩) := hk.base 3 (by kernel_rfl) rfl
      exact vc hK (by go_simp) (fun w2 h2 => rfl)
    refine po rfl (fun lq aq wq hk hr K hK => ?_) ?_
    · have E1 : ev aq (.tmp 17) = .pointer (some ⟨w.heap.size + 1, 1, none⟩) := hk.dc hr 1 (by kernel_rfl) fun _ _ h => h
      have hb := grows_of hk.ext
      have c1 := (D1.out.below hb).c1
      exact vc hK (by go_simp) (fun w2 h2 => rfl)
    refine po rfl (fun lq aq wq hk hr K hK => ?_) ?_
    · have E2 : ev aq (.tmp 18) = .slice A1 k1 c1 := hk.dc hr 2 (by kernel_rfl) fun _ _ h => h
      exact yc hK (by go_simp) (ntrim_v wq (QN1.out.below (grows_of hk.ext)).lv hsa) (fun u w1 hu w2 h2 => (hu).grow h2)
    refine po rfl (fun lq aq wq hk hr K hK => ?_) ?_
    · obtain ⟨v0, E0, r0⟩ := hk.dp hr 0 16 (by kernel_rfl)
      have r0 : WV wq v0 z := r0
      obtain ⟨v3, E3, r3⟩ := hk.dp hr 3 19 (by kernel_rfl)
      have r3 : LV wq v3 ((limbs aN1)) aN1 := r3
      exact yc hK (by go_simp) (reduced_v wq r0 r3 hsa hpos) (fun u w1 hu w2 h2 => (hu).grow h2)
    exact AllOps.nil
  intro V x3 hG hV hap
  have r4 : RV x3 (V 4) ((mkRat z aN1)) := hV 4 (by decide)
  clear hV hap
  simp only [List.take_succ_cons, List.take_zero, List.drop_succ_cons, List.drop_zero, putAll, Act.put, List.setIfInBounds_toArray, List.set_cons_zero, List.set_cons_succ]
  have hb := grows_of hG
  obtain ⟨nR, AR, kR, cR, BR, jR, dR, y9, eR, ey, hQ, HQ, c0, c1, c2⟩ := ret3 r4 (DR.out.below hb) (HB.out.trans (Below.mono hb HB.out.size)) (by omega)
  simp only [eR]
  refine wpList_of_skip rfl (op_store3 4 20 _ rfl rfl (DR.out.below hb)) ?_
  rw [ey]
  clear eR ey hb hG HB DR
  go_wp2_with fail
  refine bodyPost_ret (v := .tuple #[.agg #[.bool nR, .slice AR kR cR, .slice BR jR dR], .int .i64 0]) (by simp [results, Tryz.results41, go_sem, c0, c1, c2]) rfl ⟨_, rfl, ⟨_, rfl, (RV.to hQ (by rw [← hya]; exact divInt_pos hy))⟩, HQ⟩
set_option maxHeartbeats 4000000 in
set_option maxRecDepth 100000 in
theorem qof_neg (w : World) {u v : Value} {z y : Int} (h0 : WV w u z) (h1 : WV w v y) (hy : y < 0) : Calls Tryz.prog 41 #[u, v] w fun e w' => ∃ r, e = .returned r ∧ (∃ x, r = .tuple #[x, .int .i64 0] ∧ RV w' x (Rat.divInt z y)) ∧ Grows w w' := by
  obtain ⟨n0, A0, k0, c0, rfl, s0⟩ := h0
  have hk0 : szz z ≤ 1000 := s0.size
  obtain ⟨n1, A1, k1, c1, rfl, s1⟩ := h1
  have hk1 : szz y ≤ 1000 := s1.size
  go_enter Tryz.func41, Tryz.ntmps41
  go_upto_region 1 with fail
  obtain ⟨x0, ex0, HB, D0, D1, DR⟩ := st_223 w 24 (.bool n0) (.slice A0 k0 c0) 24 (.bool n1) (.slice A1 k1 c1) 26 (.bool false) (.slice none 0 0) (.slice none 0 0)
  rw [ex0]
  clear ex0
  replace HB := Lib.hid HB
  replace D0 := Lib.hid D0
  replace D1 := Lib.hid D1
  replace DR := Lib.hid DR
  have SN0 := Lib.hid (s0.below HB.out)
  clear s0
  have SN1 := Lib.hid (s1.below HB.out)
  clear s1
  refine wp_region_calm 3 [] ([fun vq wq => WV wq vq y,
      fun vq _ => vq = .int .i64 ((-1)),
      fun vq _ => vq = .bool false]) (by kernel_rfl) (by decide) ?_ ?_ ?_
  · intro j hj; cases hj
  · refine po rfl (fun lq aq wq hk hr K hK => ?_) ?_
    · have B3 : ev aq (.tmp 3) = .pointer (some ⟨w.heap.size + 1, 0, none⟩) := hk.base 3 (by kernel_rfl) rfl
      have hb : Below _ _ _ := hk.ext
      exact vc hK (op_load 3 _ B3 (D1.out.below hb)) (fun w2 h2 => ⟨_, _, _, _, rfl, (SN1.out.below hb).below h2⟩)
    refine po rfl (fun lq aq wq hk hr K hK => ?_) ?_
    · obtain ⟨v0, E0, r0⟩ := hk.dp hr 0 6 (by kernel_rfl)
      have r0 : WV wq v0 y := r0
      exact yc hK (by go_simp) (sign_v wq r0 (k := (-1)) (Int.sign_eq_neg_one_of_neg hy)) (fun u w1 hu w2 h2 => hu)
    refine po rfl (fun lq aq wq hk hr K hK => ?_) ?_
    · have E1 : ev aq (.tmp 7) = .int .i64 ((-1)) := hk.dc hr 1 (by kernel_rfl) fun _ _ h => h
      exact vc hK (by go_simp) (fun w2 h2 => rfl)
    exact AllOps.nil
  intro V x1 hG hV hap
  have r2 : (V 2) = .bool false := hV 2 (by decide)
  clear hV hap
  simp only [List.take_succ_cons, List.take_nil, List.drop_succ_cons, List.drop_nil, putAll, Act.put, List.setIfInBounds_toArray, List.set_cons_zero, List.set_cons_succ]
  have hb := (show Below _ _ _ from hG)
  replace D0 := Lib.hid (D0.out.below hb)
  replace SN0 := Lib.hid (SN0.out.below hb)
  replace D1 := Lib.hid (D1.out.below hb)
  replace SN1 := Lib.hid (SN1.out.below hb)
  replace DR := Lib.hid (DR.out.below hb)
  replace HB := Lib.hid (HB.out.trans (Below.mono hb HB.out.size))
  clear hb hG
  rw [r2]
  clear r2
  go_upto_region 3 with fail
  refine wp_region_calm 3 [] ([fun vq wq => WV wq vq y,
      fun vq _ => vq = .int .i64 ((-1)),
      fun vq _ => vq = .bool true]) (by kernel_rfl) (by decide) ?_ ?_ ?_
  · intro j hj; cases hj
  · refine po rfl (fun lq aq wq hk hr K hK => ?_) ?_
    · have B3 : ev aq (.tmp 3) = .pointer (some ⟨w.heap.size + 1, 0, none⟩) := hk.base 3 (by kernel_rfl) rfl
      have hb : Below _ _ _ := hk.ext
      exact vc hK (op_load 3 _ B3 (D1.out.below hb)) (fun w2 h2 => ⟨_, _, _, _, rfl, (SN1.out.below hb).below h2⟩)
    refine po rfl (fun lq aq wq hk hr K hK => ?_) ?_
    · obtain ⟨v0, E0, r0⟩ := hk.dp hr 0 11 (by kernel_rfl)
      have r0 : WV wq v0 y := r0
      exact yc hK (by go_simp) (sign_v wq r0 (k := (-1)) (Int.sign_eq_neg_one_of_neg hy)) (fun u w1 hu w2 h2 => hu)
    refine po rfl (fun lq aq wq hk hr K hK => ?_) ?_
    · have E1 : ev aq (.tmp 12) = .int .i64 ((-1)) := hk.dc hr 1 (by kernel_rfl) fun _ _ h => h
      exact vc hK (by go_simp) (fun w2 h2 => rfl)
    exact AllOps.nil
  intro V x2 hG hV hap
  have r2 : (V 2) = .bool true := hV 2 (by decide)
  clear hV hap
  simp only [List.take_succ_cons, List.take_nil, List.drop_succ_cons, List.drop_nil, putAll, Act.put, List.setIfInBounds_toArray, List.set_cons_zero, List.set_cons_succ]
  have hb := (show Below _ _ _ from hG)
  replace D0 := Lib.hid (D0.out.below hb)
  replace SN0 := Lib.hid (SN0.out.below hb)
  replace D1 := Lib.hid (D1.out.below hb)
  replace SN1 := Lib.hid (SN1.out.below hb)
  replace DR := Lib.hid (DR.out.below hb)
  replace HB := Lib.hid (HB.out.trans (Below.mono hb HB.out.size))
  clear hb hG
  rw [r2]
  clear r2
  go_upto_region 4 with fail
  refine wp_region_calm 2 [] ([fun vq wq => WV wq vq z,
      fun vq wq => ZV wq vq ((-z))]) (by kernel_rfl) (by decide) ?_ ?_ ?_
  · intro j hj; cases hj
  · refine po rfl (fun lq aq wq hk hr K hK => ?_) ?_
    · have B2 : ev aq (.tmp 2) = .pointer (some ⟨w.heap.size, 0, none⟩) := hk.base 2 (by kernel_rfl) rfl
      have hb : Below _ _ _ := hk.ext
      exact vc hK (op_load 2 _ B2 (D0.out.below hb)) (fun w2 h2 => ⟨_, _, _, _, rfl, (SN0.out.below hb).below h2⟩)
    refine po rfl (fun lq aq wq hk hr K hK => ?_) ?_
    · obtain ⟨v0, E0, r0⟩ := hk.dp hr 0 14 (by kernel_rfl)
      have r0 : WV wq v0 z := r0
      exact yc hK (by go_simp) (neg_v wq r0 (Nat.le_trans (szz_neg hk0) (by decide))) (fun u w1 hu w2 h2 => (hu).grow h2)
    exact AllOps.nil
  intro V x3 hG hV hap
  have r1 : ZV x3 (V 1) ((-z)) := hV 1 (by decide)
  clear hV hap
  simp only [List.take_succ_cons, List.take_zero, List.drop_succ_cons, List.drop_zero, putAll, Act.put, List.setIfInBounds_toArray, List.set_cons_zero, List.set_cons_succ]
  have hb := (show Below _ _ _ from hG)
  obtain ⟨nm4, Am4, km4, cm4, em4, sm4⟩ := r1
  simp only [em4]
  clear em4
  clear hG
  replace D0 := D0.out.below hb
  refine wpList_of_skip rfl (op_store 2 15 _ rfl rfl D0) ?_
  replace D1 := Lib.hid (put2_far (u := .bool nm4) (v := .slice Am4 km4 cm4) (D1.out.below hb) (show w.heap.size + 1 ≠ w.heap.size by omega))
  replace SN1 := Lib.hid ((SN1.out.below hb).put D0 (.bool nm4) (.slice Am4 km4 cm4))
  replace DR := Lib.hid (Box3.put2_far (x' := .bool nm4) (y' := .slice Am4 km4 cm4) (DR.out.below hb) (show w.heap.size + 1 + 1 ≠ w.heap.size by omega))
  replace SN0 := Lib.hid (sm4.put D0 (.bool nm4) (.slice Am4 km4 cm4))
  replace HB := Lib.hid (put2_below (u := .bool nm4) (v := .slice Am4 km4 cm4) (HB.out.trans (Below.mono hb HB.out.size)) (show w.heap.size ≤ w.heap.size by omega))
  replace D0 := Lib.hid (put2_own (u := .bool nm4) (v := .slice Am4 km4 cm4) D0)
  clear hb sm4
  generalize put2 x3 w.heap.size (.bool nm4) (.slice Am4 km4 cm4) = y5 at *
  go_upto_region 5 with fail
  obtain ⟨lN1, aN1, qN1, hlN1, eN1⟩ := SN1.out
  have QN1 := Lib.hid qN1
  clear qN1
  have hya : y.natAbs = aN1 := by rw [eN1, sg_natAbs]
  have hpos : 0 < aN1 := by rw [← hya]; exact Int.natAbs_pos.2 (by omega)
  have hsa : sz aN1 ≤ 1000 := Nat.le_trans (sz_num QN1.out) hlN1
  refine wp_region_going 5 [] ([fun vq wq => ZV wq vq ((-z)),
      fun vq _ => vq = .pointer (some ⟨w.heap.size + 1, 1, none⟩),
      fun vq _ => vq = .slice A1 k1 c1,
      fun vq wq => LV wq vq ((limbs aN1)) aN1,
      fun vq wq => RV wq vq ((mkRat ((-z)) aN1))]) (by kernel_rfl) (by kernel_rfl) (by decide) (by kernel_rfl) (by kernel_rfl) ?_ ?_ ?_
  · intro j hj; cases hj
  · refine po rfl (fun lq aq wq hk hr K hK => ?_) ?_
    · have B2 : ev aq (.tmp 2) = .pointer (some ⟨w.heap.size, 0, none⟩) := hk.base 2 (by kernel_rfl) rfl
      have hb := grows_of hk.ext
      exact vc hK (op_load 2 _ B2 (D0.out.below hb)) (fun w2 h2 => ⟨_, _, _, _, rfl, (SN0.out.below hb).below h2⟩)
    refine po rfl (fun lq aq wq hk hr K hK => ?_) ?_
    · have B3 : ev aq (.tmp 3) = .pointer (some ⟨w.heap.size + 1, 0, none⟩) := hk.base 3 (by kernel_rfl) rfl
      exact vc hK (by go_simp) (fun w2 h2 => rfl)
    refine po rfl (fun lq aq wq hk hr K hK => ?_) ?_
    · have E1 : ev aq (.tmp 17) = .pointer (some ⟨w.heap.size + 1, 1, none⟩) := hk.dc hr 1 (by kernel_rfl) fun _ _ h => h
      have hb := grows_of hk.ext
      have c1 := (D1.out.below hb).c1
      exact vc hK (by go_simp) (fun w2 h2 => rfl)
    refine po rfl (fun lq aq wq hk hr K hK => ?_) ?_
    · have E2 : ev aq (.tmp 18) = .slice A1 k1 c1 := hk.dc hr 2 (by kernel_rfl) fun _ _ h => h
      exact yc hK (by go_simp) (ntrim_v wq (QN1.out.below (grows_of hk.ext)).lv hsa) (fun u w1 hu w2 h2 => (hu).grow h2)
    refine po rfl (fun lq aq wq hk hr K hK => ?_) ?_
    · obtain ⟨v0, E0, r0⟩ := hk.dp hr 0 16 (by kernel_rfl)
      have r0 : ZV wq v0 ((-z)) := r0
      obtain ⟨v3, E3, r3⟩ := hk.dp hr 3 19 (by kernel_rfl)
      have r3 : LV wq v3 ((limbs aN1)) aN1 := r3
      exact yc hK (by go_simp) (reduced_v wq (r0).wv r3 hsa hpos) (fun u w1 hu w2 h2 => (hu).grow h2)
    exact AllOps.nil
  intro V x6 hG hV hap
  have r4 : RV x6 (V 4) ((mkRat ((-z)) aN1)) := hV 4 (by decide)
  clear hV hap
  simp only [List.take_succ_cons, List.take_zero, List.drop_succ_cons, List.drop_zero, putAll, Act.put, List.setIfInBounds_toArray, List.set_cons_zero, List.set_cons_succ]
  have hb := grows_of hG
  obtain ⟨nR, AR, kR, cR, BR, jR, dR, y9, eR, ey, hQ, HQ, c0, c1, c2⟩ := ret3 r4 (DR.out.below hb) (HB.out.trans (Below.mono hb HB.out.size)) (by omega)
  simp only [eR]
  refine wpList_of_skip rfl (op_store3 4 20 _ rfl rfl (DR.out.below hb)) ?_
  rw [ey]
  clear eR ey hb hG HB DR
  go_wp2_with fail
  refine bodyPost_ret (v := .tuple #[.agg #[.bool nR, .slice AR kR cR, .slice BR jR dR], .int .i64 0]) (by simp [results, Tryz.results41, go_sem, c0, c1, c2]) rfl ⟨_, rfl, ⟨_, rfl, (RV.to hQ (by rw [← hya]; exact divInt_neg' hy))⟩, HQ⟩
end Go.Proofs.YtbippecchpaleaaGreatDoor
/- rat.Mul, Div: what each returns. -/
namespace Go.Proofs.YtbippecchpaleaaGreatDoor
open Go.RowKit Go.Num Go.Kp
attribute [local go_sem] Oper.semAt_some u64_mask ev_const ev_func ev_global
set_option maxHeartbeats 16000000 in
set_option maxRecDepth 100000 in
theorem qmul_v (w : World) {u v : Value} {q r : Rat} (h0 : QV w u q) (h1 : QV w v r) (hs1 : szz (q.num * r.num) ≤ 1000) (hs2 : sz (q.den * r.den) ≤ 1000) : Calls Tryz.prog 26 #[u, v] w fun e w' => ∃ x, e = .returned x ∧ RV w' x (q * r) ∧ Grows w w' := by
  obtain ⟨n0, A0, k0, c0, B0, j0, d0, rfl, z0, l0, a0, s0, t0, hl0, e0⟩ := h0
  have hk0 : szz z0 ≤ 1000 := s0.size
  obtain ⟨n1, A1, k1, c1, B1, j1, d1, rfl, z1, l1, a1, s1, t1, hl1, e1⟩ := h1
  have hk1 : szz z1 ≤ 1000 := s1.size
  go_enter Tryz.func26, Tryz.ntmps26
  go_upto_region 1 with fail
  obtain ⟨x0, ex0, HB, D0, D1, DR⟩ := st_333 w 26 (.bool n0) (.slice A0 k0 c0) (.slice B0 j0 d0) 26 (.bool n1) (.slice A1 k1 c1) (.slice B1 j1 d1) 26 (.bool false) (.slice none 0 0) (.slice none 0 0)
  rw [ex0]
  clear ex0
  replace HB := Lib.hid HB
  replace D0 := Lib.hid D0
  replace D1 := Lib.hid D1
  replace DR := Lib.hid DR
  have SN0 := Lib.hid (s0.below HB.out)
  clear s0
  have SD0 := Lib.hid (t0.below HB.out)
  clear t0
  have SN1 := Lib.hid (s1.below HB.out)
  clear s1
  have SD1 := Lib.hid (t1.below HB.out)
  clear t1
  refine wp_region_going 4 [] ([fun vq wq => QV wq vq q,
      fun vq wq => RV wq vq q,
      fun vq wq => QV wq vq r,
      fun vq wq => RV wq vq r]) (by kernel_rfl) (by kernel_rfl) (by decide) (by kernel_rfl) (by kernel_rfl) ?_ ?_ ?_
  · intro j hj; cases hj
  · refine po rfl (fun lq aq wq hk hr K hK => ?_) ?_
    · have B2 : ev aq (.tmp 2) = .pointer (some ⟨w.heap.size, 0, none⟩) := hk.base 2 (by kernel_rfl) rfl
      have hb := grows_of hk.ext
      exact vc hK (op_load3 2 _ B2 (D0.out.below hb)) (fun w2 h2 => QV.grow ⟨_, _, _, _, _, _, _, rfl, _, _, _, (SN0.out.below hb), (SD0.out.below hb), hl0, e0⟩ h2)
    refine po rfl (fun lq aq wq hk hr K hK => ?_) ?_
    · obtain ⟨v0, E0, r0⟩ := hk.dp hr 0 5 (by kernel_rfl)
      have r0 : QV wq v0 q := r0
      exact yc hK (by go_simp) (made_v wq r0) (fun u w1 hu w2 h2 => (hu).grow h2)
    refine po rfl (fun lq aq wq hk hr K hK => ?_) ?_
    · have B3 : ev aq (.tmp 3) = .pointer (some ⟨w.heap.size + 1, 0, none⟩) := hk.base 3 (by kernel_rfl) rfl
      have hb := grows_of hk.ext
      exact vc hK (op_load3 3 _ B3 (D1.out.below hb)) (fun w2 h2 => QV.grow ⟨_, _, _, _, _, _, _, rfl, _, _, _, (SN1.out.below hb), (SD1.out.below hb), hl1, e1⟩ h2)
    refine po rfl (fun lq aq wq hk hr K hK => ?_) ?_
    · obtain ⟨v2, E2, r2⟩ := hk.dp hr 2 7 (by kernel_rfl)
      have r2 : QV wq v2 r := r2
      exact yc hK (by go_simp) (made_v wq r2) (fun u w1 hu w2 h2 => (hu).grow h2)
    exact AllOps.nil
  intro V x1 hG hV hap
  have r1 : RV x1 (V 1) q := hV 1 (by decide)
  have r3 : RV x1 (V 3) r := hV 3 (by decide)
  clear hV hap
  simp only [List.take_succ_cons, List.take_zero, List.drop_succ_cons, List.drop_zero, putAll, Act.put, List.setIfInBounds_toArray, List.set_cons_zero, List.set_cons_succ]
  have hb := grows_of hG
  obtain ⟨nm2, Am2, km2, cm2, Bm2, jm2, dm2, em2, sm2, tm2, hdm2⟩ := r1
  simp only [em2]
  clear em2
  obtain ⟨nm3, Am3, km3, cm3, Bm3, jm3, dm3, em3, sm3, tm3, hdm3⟩ := r3
  simp only [em3]
  clear em3
  clear hG
  replace D0 := D0.out.below hb
  refine wpList_of_skip rfl (op_store3 2 6 _ rfl rfl D0) ?_
  replace D1 := Lib.hid (put3_far (x' := .bool nm2) (y' := .slice Am2 km2 cm2) (z' := .slice Bm2 jm2 dm2) (D1.out.below hb) (show w.heap.size + 1 ≠ w.heap.size by omega))
  replace SN1 := Lib.hid ((SN1.out.below hb).put3 D0 (.bool nm2) (.slice Am2 km2 cm2) (.slice Bm2 jm2 dm2))
  replace SD1 := Lib.hid ((SD1.out.below hb).put3 D0 (.bool nm2) (.slice Am2 km2 cm2) (.slice Bm2 jm2 dm2))
  replace DR := Lib.hid (put3_far (x' := .bool nm2) (y' := .slice Am2 km2 cm2) (z' := .slice Bm2 jm2 dm2) (DR.out.below hb) (show w.heap.size + 1 + 1 ≠ w.heap.size by omega))
  replace sm3 := sm3.put3 D0 (.bool nm2) (.slice Am2 km2 cm2) (.slice Bm2 jm2 dm2)
  replace tm3 := tm3.put3 D0 (.bool nm2) (.slice Am2 km2 cm2) (.slice Bm2 jm2 dm2)
  replace SN0 := Lib.hid (sm2.put3 D0 (.bool nm2) (.slice Am2 km2 cm2) (.slice Bm2 jm2 dm2))
  replace SD0 := Lib.hid (tm2.put3 D0 (.bool nm2) (.slice Am2 km2 cm2) (.slice Bm2 jm2 dm2))
  replace HB := Lib.hid (put3_below (x' := .bool nm2) (y' := .slice Am2 km2 cm2) (z' := .slice Bm2 jm2 dm2) (HB.out.trans (Below.mono hb HB.out.size)) (show w.heap.size ≤ w.heap.size by omega))
  replace D0 := Lib.hid (put3_own (x' := .bool nm2) (y' := .slice Am2 km2 cm2) (z' := .slice Bm2 jm2 dm2) D0)
  clear hb sm2 tm2
  generalize put3 x1 w.heap.size (.bool nm2) (.slice Am2 km2 cm2) (.slice Bm2 jm2 dm2) = y4 at *
  have hb := Below.refl (y4).heap.size (y4)
  replace D1 := D1.out.below hb
  refine wpList_of_skip rfl (op_store3 3 8 _ rfl rfl D1) ?_
  replace D0 := Lib.hid (put3_far (x' := .bool nm3) (y' := .slice Am3 km3 cm3) (z' := .slice Bm3 jm3 dm3) (D0.out.below hb) (show w.heap.size ≠ w.heap.size + 1 by omega))
  replace SN0 := Lib.hid ((SN0.out.below hb).put3 D1 (.bool nm3) (.slice Am3 km3 cm3) (.slice Bm3 jm3 dm3))
  replace SD0 := Lib.hid ((SD0.out.below hb).put3 D1 (.bool nm3) (.slice Am3 km3 cm3) (.slice Bm3 jm3 dm3))
  replace DR := Lib.hid (put3_far (x' := .bool nm3) (y' := .slice Am3 km3 cm3) (z' := .slice Bm3 jm3 dm3) (DR.out.below hb) (show w.heap.size + 1 + 1 ≠ w.heap.size + 1 by omega))
  replace SN1 := Lib.hid (sm3.put3 D1 (.bool nm3) (.slice Am3 km3 cm3) (.slice Bm3 jm3 dm3))
  replace SD1 := Lib.hid (tm3.put3 D1 (.bool nm3) (.slice Am3 km3 cm3) (.slice Bm3 jm3 dm3))
  replace HB := Lib.hid (put3_below (x' := .bool nm3) (y' := .slice Am3 km3 cm3) (z' := .slice Bm3 jm3 dm3) (HB.out.trans (Below.mono hb HB.out.size)) (show w.heap.size ≤ w.heap.size + 1 by omega))
  replace D1 := Lib.hid (put3_own (x' := .bool nm3) (y' := .slice Am3 km3 cm3) (z' := .slice Bm3 jm3 dm3) D1)
  clear hb sm3 tm3
  generalize put3 y4 (w.heap.size + 1) (.bool nm3) (.slice Am3 km3 cm3) (.slice Bm3 jm3 dm3) = y5 at *
  have hpos : 0 < q.den * r.den := Nat.mul_pos q.den_pos r.den_pos
  have hmul : mkRat (q.num * r.num) (q.den * r.den) = q * r := by rw [← Rat.mkRat_mul_mkRat, Rat.mkRat_self, Rat.mkRat_self]
  go_upto_region 2 with fail
  refine wp_region_going 12 [] ([fun vq _ => vq = .pointer (some ⟨w.heap.size, 0, none⟩),
      fun vq wq => ZV wq vq q.num,
      fun vq _ => vq = .pointer (some ⟨w.heap.size + 1, 0, none⟩),
      fun vq wq => ZV wq vq r.num,
      fun vq wq => RowV wq vq [q.num, r.num],
      fun vq wq => ZV wq vq ((q.num * r.num)),
      fun vq _ => vq = .pointer (some ⟨w.heap.size, 2, none⟩),
      fun vq _ => vq = .slice Bm2 jm2 dm2,
      fun vq _ => vq = .pointer (some ⟨w.heap.size + 1, 2, none⟩),
      fun vq _ => vq = .slice Bm3 jm3 dm3,
      fun vq wq => LV wq vq ((limbs (q.den * r.den))) ((q.den * r.den)),
      fun vq wq => RV wq vq ((mkRat ((q.num * r.num)) (q.den * r.den)))]) (by kernel_rfl) (by kernel_rfl) (by decide) (by kernel_rfl) (by kernel_rfl) ?_ ?_ ?_
  · intro j hj; cases hj
  · refine po rfl (fun lq aq wq hk hr K hK => ?_) ?_
    · have B2 : ev aq (.tmp 2) = .pointer (some ⟨w.heap.size, 0, none⟩) := hk.base 2 (by kernel_rfl) rfl
      exact vc hK (by go_simp) (fun w2 h2 => rfl)
    refine po rfl (fun lq aq wq hk hr K hK => ?_) ?_
    · have E0 : ev aq (.tmp 9) = .pointer (some ⟨w.heap.size, 0, none⟩) := hk.dc hr 0 (by kernel_rfl) fun _ _ h => h
      have hb := grows_of hk.ext
      exact vc hK (op_loadN 9 _ E0 (D0.out.below hb)) (fun w2 h2 => ⟨_, _, _, _, rfl, (SN0.out.below hb).below h2⟩)
    refine po rfl (fun lq aq wq hk hr K hK => ?_) ?_
    · have B3 : ev aq (.tmp 3) = .pointer (some ⟨w.heap.size + 1, 0, none⟩) := hk.base 3 (by kernel_rfl) rfl
      exact vc hK (by go_simp) (fun w2 h2 => rfl)
    refine po rfl (fun lq aq wq hk hr K hK => ?_) ?_
    · have E2 : ev aq (.tmp 11) = .pointer (some ⟨w.heap.size + 1, 0, none⟩) := hk.dc hr 2 (by kernel_rfl) fun _ _ h => h
      have hb := grows_of hk.ext
      exact vc hK (op_loadN 11 _ E2 (D1.out.below hb)) (fun w2 h2 => ⟨_, _, _, _, rfl, (SN1.out.below hb).below h2⟩)
    refine po rfl (fun lq aq wq hk hr K hK => ?_) ?_
    · obtain ⟨v1, E1, r1⟩ := hk.dp hr 1 10 (by kernel_rfl)
      have r1 : ZV wq v1 q.num := r1
      obtain ⟨n1, A1, k1, c1, rfl, s1⟩ := r1
      obtain ⟨v3, E3, r3⟩ := hk.dp hr 3 12 (by kernel_rfl)
      have r3 : ZV wq v3 r.num := r3
      obtain ⟨n3, A3, k3, c3, rfl, s3⟩ := r3
      exact wp_of_value (op_row2 10 12 E1 E3) (hK.out _ _ ((Grows.refl _).alloc _) (fun w2 h2 => (RowV.two s1.whole s3.whole).grow h2) (fun h => absurd h (by decide)))
    refine po rfl (fun lq aq wq hk hr K hK => ?_) ?_
    · obtain ⟨v4, E4, r4⟩ := hk.dp hr 4 13 (by kernel_rfl)
      have r4 : RowV wq v4 [q.num, r.num] := r4
      exact yc hK (by go_simp) (mul2_v wq r4 SN0.out.short hs1) (fun u w1 hu w2 h2 => (hu).grow h2)
    refine po rfl (fun lq aq wq hk hr K hK => ?_) ?_
    · have B2 : ev aq (.tmp 2) = .pointer (some ⟨w.heap.size, 0, none⟩) := hk.base 2 (by kernel_rfl) rfl
      exact vc hK (by go_simp) (fun w2 h2 => rfl)
    refine po rfl (fun lq aq wq hk hr K hK => ?_) ?_
    · have E6 : ev aq (.tmp 15) = .pointer (some ⟨w.heap.size, 2, none⟩) := hk.dc hr 6 (by kernel_rfl) fun _ _ h => h
      have hb := grows_of hk.ext
      have c2 := (D0.out.below hb).c2
      exact vc hK (by go_simp) (fun w2 h2 => rfl)
    refine po rfl (fun lq aq wq hk hr K hK => ?_) ?_
    · have B3 : ev aq (.tmp 3) = .pointer (some ⟨w.heap.size + 1, 0, none⟩) := hk.base 3 (by kernel_rfl) rfl
      exact vc hK (by go_simp) (fun w2 h2 => rfl)
    refine po rfl (fun lq aq wq hk hr K hK => ?_) ?_
    · have E8 : ev aq (.tmp 17) = .pointer (some ⟨w.heap.size + 1, 2, none⟩) := hk.dc hr 8 (by kernel_rfl) fun _ _ h => h
      have hb := grows_of hk.ext
      have c2 := (D1.out.below hb).c2
      exact vc hK (by go_simp) (fun w2 h2 => rfl)
    refine po rfl (fun lq aq wq hk hr K hK => ?_) ?_
    · have E7 : ev aq (.tmp 16) = .slice Bm2 jm2 dm2 := hk.dc hr 7 (by kernel_rfl) fun _ _ h => h
      have E9 : ev aq (.tmp 18) = .slice Bm3 jm3 dm3 := hk.dc hr 9 (by kernel_rfl) fun _ _ h => h
      exact yc hK (by go_simp) (nmul_v wq (SD0.out.below (grows_of hk.ext)).lv (SD1.out.below (grows_of hk.ext)).lv hs2) (fun u w1 hu w2 h2 => (hu).grow h2)
    refine po rfl (fun lq aq wq hk hr K hK => ?_) ?_
    · obtain ⟨v5, E5, r5⟩ := hk.dp hr 5 14 (by kernel_rfl)
      have r5 : ZV wq v5 ((q.num * r.num)) := r5
      obtain ⟨v10, E10, r10⟩ := hk.dp hr 10 19 (by kernel_rfl)
      have r10 : LV wq v10 ((limbs (q.den * r.den))) ((q.den * r.den)) := r10
      exact yc hK (by go_simp) (reduced_v wq (r5).wv r10 hs2 hpos) (fun u w1 hu w2 h2 => (hu).grow h2)
    exact AllOps.nil
  intro V x6 hG hV hap
  have r2 : (V 2) = .pointer (some ⟨w.heap.size + 1, 0, none⟩) := hV 2 (by decide)
  have r11 : RV x6 (V 11) ((mkRat ((q.num * r.num)) (q.den * r.den))) := hV 11 (by decide)
  clear hV hap
  simp only [List.take_succ_cons, List.take_zero, List.drop_succ_cons, List.drop_zero, putAll, Act.put, List.setIfInBounds_toArray, List.set_cons_zero, List.set_cons_succ]
  have hb := grows_of hG
  obtain ⟨nR, AR, kR, cR, BR, jR, dR, y9, eR, ey, hQ, HQ, c0, c1, c2⟩ := ret3 r11 (DR.out.below hb) (HB.out.trans (Below.mono hb HB.out.size)) (by omega)
  simp only [eR]
  refine wpList_of_skip rfl (op_store3 4 20 _ rfl rfl (DR.out.below hb)) ?_
  rw [ey]
  clear eR ey hb hG HB DR
  go_wp2_with fail
  refine bodyPost_ret (v := .agg #[.bool nR, .slice AR kR cR, .slice BR jR dR]) (by simp [results, Tryz.results26, go_sem, c0, c1, c2]) rfl ⟨_, rfl, (RV.to hQ hmul), HQ⟩
end Go.Proofs.YtbippecchpaleaaGreatDoor
