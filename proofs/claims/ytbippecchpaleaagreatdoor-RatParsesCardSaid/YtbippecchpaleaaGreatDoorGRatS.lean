import Derived.Test.YtbippecchpaleaaGreatDoorGRat3
import Derived.Test.YtbippecchpaleaaGreatDoorGRat4
import Derived.Test.YtbippecchpaleaaGreatDoorGAr
/- Literal numbers as values; sizes of denominators. -/
namespace Go.Num
open Go Go.RowKit Go.Kp
theorem zv_lit' {w : World} {n : Bool} {A : Option Addr} {k c a : Nat} {z : Int} (h : Num w (.slice A k c) (limbs a) a) (hs : sz a ≤ 1000) (e : z.natAbs = a) (hn : n = decide (z < 0)) : ZV w (.agg #[.bool n, .slice A k c]) z := by
  subst e
  exact ⟨n, A, k, c, rfl, hn, h, hs⟩
theorem wv_lit {w : World} (n : Bool) {A : Option Addr} {k c a : Nat} {l : List Nat} {z : Int} (h : Num w (.slice A k c) l a) (hl : l.length ≤ 1000) (hz : sg n a = z) : WV w (.agg #[.bool n, .slice A k c]) z := ⟨n, A, k, c, rfl, l, a, h, hl, hz.symm⟩
theorem dn_sz {a k : Nat} (h : sz a ≤ k) (hk : 1 ≤ k) : szz ((dn a : Nat) : Int) ≤ k := by
  unfold szz
  rw [Int.natAbs_natCast]
  unfold dn
  split
  · exact Nat.le_trans (sz_le (k := 1) (by decide)) hk
  · exact h
end Go.Num
/- litmusref03.Same, SameInt: what each returns. -/
namespace Go.Proofs.YtbippecchpaleaaGreatDoor
open Go.RowKit Go.Num Go.Kp
attribute [local go_sem] Oper.semAt_some u64_mask ev_const ev_func ev_global
theorem rsamel_v (w : World) {u v : Value} {l l' : List Nat} {a b : Nat} {t : Bool} (h : LV w u l a) (g : LV w v l' b) (hl : l.length ≤ 1000) (ht : decide (l = l') = t) : Calls Tryz.prog 71 #[u, v] w fun e w' => ∃ r, e = .returned r ∧ r = .bool t ∧ Grows w w' := by
  obtain ⟨A, c, rfl, s⟩ := h
  obtain ⟨A', c', rfl, s'⟩ := g
  refine (refSame_any w _ _ l l' s.arg s'.arg (Nat.le_trans hl (by decide))).mono ?_
  rintro e w1 ⟨rfl, g⟩
  exact ⟨_, rfl, by rw [ht], g⟩
set_option maxHeartbeats 16000000 in
set_option maxRecDepth 100000 in
theorem rsameL_v (w : World) {u v : Value} {n n' : Bool} {l m l' m' : List Nat} {t : Bool} (h0 : QL w u n l m) (h1 : QL w v n' l' m') (ht : lsame n l m n' l' m' = t) : Calls Tryz.prog 52 #[u, v] w fun e w' => ∃ r, e = .returned r ∧ r = .bool t ∧ Grows w w' := by
  obtain ⟨A0, c0, B0, d0, rfl, s0, t0, hl0, hm0⟩ := h0
  have hk0 : szz (sg n (val l)) ≤ 1000 := by unfold szz; rw [sg_natAbs]; exact Nat.le_trans (sz_num s0) hl0
  obtain ⟨A1, c1, B1, d1, rfl, s1, t1, hl1, hm1⟩ := h1
  have hk1 : szz (sg n' (val l')) ≤ 1000 := by unfold szz; rw [sg_natAbs]; exact Nat.le_trans (sz_num s1) hl1
  go_enter Tryz.func52, Tryz.ntmps52
  go_upto_region 1 with fail
  obtain ⟨x0, ex0, HB, D0, D1⟩ := st_33 w 26 (.bool n) (.slice A0 l.length c0) (.slice B0 m.length d0) 26 (.bool n') (.slice A1 l'.length c1) (.slice B1 m'.length d1)
  rw [ex0]
  clear ex0
  replace HB := Lib.hid HB
  replace D0 := Lib.hid D0
  replace D1 := Lib.hid D1
  have SN0 := Lib.hid (s0.below HB.out)
  clear s0
  have SD0 := Lib.hid (t0.below HB.out)
  clear t0
  have SN1 := Lib.hid (s1.below HB.out)
  clear s1
  have SD1 := Lib.hid (t1.below HB.out)
  clear t1
  have ht' : (n == n') = true → decide (l = l') = true → decide (m = m') = t := by
    intro e1 e2
    rw [← ht]; unfold lsame; rw [e1, e2]; rfl
  have hta : (n == n') = true → decide (l = l') = false → false = t := by
    intro e1 e2
    rw [← ht]; unfold lsame; rw [e1, e2]; rfl
  have htn : (n == n') = false → false = t := by
    intro e1
    rw [← ht]; unfold lsame; rw [e1]; rfl
  obtain ⟨t1, ht1⟩ : ∃ t1, decide (l = l') = t1 := ⟨_, rfl⟩
  obtain ⟨t2, ht2⟩ : ∃ t2, decide (m = m') = t2 := ⟨_, rfl⟩
  rw [ht1] at hta
  rw [ht1, ht2] at ht'
  clear ht
  replace ht1 := Lib.hid ht1
  replace ht2 := Lib.hid ht2
  replace ht' := Lib.hid ht'
  replace hta := Lib.hid hta
  replace htn := Lib.hid htn
  rcases hc1 : (n == n') with _ | _
  · skip
    refine wp_region_calm 23 [] ([fun vq _ => vq = .pointer (some ⟨w.heap.size, 0, none⟩),
        fun vq _ => vq = .pointer (some ⟨w.heap.size, 0, none⟩),
        fun vq _ => vq = .bool n,
        fun vq _ => vq = .pointer (some ⟨w.heap.size + 1, 0, none⟩),
        fun vq _ => vq = .pointer (some ⟨w.heap.size + 1, 0, none⟩),
        fun vq _ => vq = .bool n',
        fun vq _ => vq = .bool false,
        fun vq _ => vq = .bool false,
        fun vq _ => vq = undef,
        fun vq _ => vq = undef,
        fun vq _ => vq = undef,
        fun vq _ => vq = undef,
        fun vq _ => vq = undef,
        fun vq _ => vq = undef,
        fun vq _ => vq = undef,
        fun vq _ => vq = .bool false,
        fun vq _ => vq = .bool false,
        fun vq _ => vq = undef,
        fun vq _ => vq = undef,
        fun vq _ => vq = undef,
        fun vq _ => vq = undef,
        fun vq _ => vq = undef,
        fun vq _ => vq = .bool false]) (by kernel_rfl) (by decide) ?_ ?_ ?_
    · intro j hj; cases hj
    · refine po rfl (fun lq aq wq hk hr K hK => ?_) ?_
      · have B2 : ev aq (.tmp 2) = .pointer (some ⟨w.heap.size, 0, none⟩) := hk.base 2 (by kernel_rfl) rfl
        exact vc hK (by go_simp) (fun w2 h2 => rfl)
      refine po rfl (fun lq aq wq hk hr K hK => ?_) ?_
      · have E0 : ev aq (.tmp 5) = .pointer (some ⟨w.heap.size, 0, none⟩) := hk.dc hr 0 (by kernel_rfl) fun _ _ h => h
        exact vc hK (by go_simp) (fun w2 h2 => rfl)
      refine po rfl (fun lq aq wq hk hr K hK => ?_) ?_
      · have E1 : ev aq (.tmp 6) = .pointer (some ⟨w.heap.size, 0, none⟩) := hk.dc hr 1 (by kernel_rfl) fun _ _ h => h
        have hb : Below _ _ _ := hk.ext
        have c0 := (D0.out.below hb).c0
        exact vc hK (by go_simp) (fun w2 h2 => rfl)
      refine po rfl (fun lq aq wq hk hr K hK => ?_) ?_
      · have B3 : ev aq (.tmp 3) = .pointer (some ⟨w.heap.size + 1, 0, none⟩) := hk.base 3 (by kernel_rfl) rfl
        exact vc hK (by go_simp) (fun w2 h2 => rfl)
      refine po rfl (fun lq aq wq hk hr K hK => ?_) ?_
      · have E3 : ev aq (.tmp 8) = .pointer (some ⟨w.heap.size + 1, 0, none⟩) := hk.dc hr 3 (by kernel_rfl) fun _ _ h => h
        exact vc hK (by go_simp) (fun w2 h2 => rfl)
      refine po rfl (fun lq aq wq hk hr K hK => ?_) ?_
      · have E4 : ev aq (.tmp 9) = .pointer (some ⟨w.heap.size + 1, 0, none⟩) := hk.dc hr 4 (by kernel_rfl) fun _ _ h => h
        have hb : Below _ _ _ := hk.ext
        have c0 := (D1.out.below hb).c0
        exact vc hK (by go_simp) (fun w2 h2 => rfl)
      refine po rfl (fun lq aq wq hk hr K hK => ?_) ?_
      · have E2 : ev aq (.tmp 7) = .bool n := hk.dc hr 2 (by kernel_rfl) fun _ _ h => h
        have E5 : ev aq (.tmp 10) = .bool n' := hk.dc hr 5 (by kernel_rfl) fun _ _ h => h
        exact vc hK (by go_simp) (fun w2 h2 => rfl)
      refine po rfl (fun lq aq wq hk hr K hK => ?_) ?_
      · have E6 : ev aq (.tmp 11) = .bool false := hk.dc hr 6 (by kernel_rfl) fun _ _ h => h
        exact vc hK (by go_simp) (fun w2 h2 => rfl)
      refine pb 7 12 true false rfl (by kernel_rfl) (fun _ _ h => h) (by decide) (fun _ => rfl) rfl ?_
      refine pb 7 12 true false rfl (by kernel_rfl) (fun _ _ h => h) (by decide) (fun _ => rfl) rfl ?_
      refine pb 7 12 true false rfl (by kernel_rfl) (fun _ _ h => h) (by decide) (fun _ => rfl) rfl ?_
      refine pb 7 12 true false rfl (by kernel_rfl) (fun _ _ h => h) (by decide) (fun _ => rfl) rfl ?_
      refine pb 7 12 true false rfl (by kernel_rfl) (fun _ _ h => h) (by decide) (fun _ => rfl) rfl ?_
      refine pb 7 12 true false rfl (by kernel_rfl) (fun _ _ h => h) (by decide) (fun _ => rfl) rfl ?_
      refine pb 7 12 true false rfl (by kernel_rfl) (fun _ _ h => h) (by decide) (fun _ => rfl) rfl ?_
      refine po rfl (fun lq aq wq hk hr K hK => ?_) ?_
      · have E7 : ev aq (.tmp 12) = .bool false := hk.dc hr 7 (by kernel_rfl) fun _ _ h => h
        exact vc hK (by go_simp) (fun w2 h2 => rfl)
      refine po rfl (fun lq aq wq hk hr K hK => ?_) ?_
      · have E15 : ev aq (.tmp 20) = .bool false := hk.dc hr 15 (by kernel_rfl) fun _ _ h => h
        exact vc hK (by go_simp) (fun w2 h2 => rfl)
      refine pb 16 21 true false rfl (by kernel_rfl) (fun _ _ h => h) (by decide) (fun _ => rfl) rfl ?_
      refine pb 16 21 true false rfl (by kernel_rfl) (fun _ _ h => h) (by decide) (fun _ => rfl) rfl ?_
      refine pb 16 21 true false rfl (by kernel_rfl) (fun _ _ h => h) (by decide) (fun _ => rfl) rfl ?_
      refine pb 16 21 true false rfl (by kernel_rfl) (fun _ _ h => h) (by decide) (fun _ => rfl) rfl ?_
      refine pb 16 21 true false rfl (by kernel_rfl) (fun _ _ h => h) (by decide) (fun _ => rfl) rfl ?_
      refine po rfl (fun lq aq wq hk hr K hK => ?_) ?_
      · have E16 : ev aq (.tmp 21) = .bool false := hk.dc hr 16 (by kernel_rfl) fun _ _ h => h
        exact vc hK (by go_simp) (fun w2 h2 => rfl)
      exact AllOps.nil
    intro V x1 hG hV hap
    have r17 : (V 17) = undef := hV 17 (by decide)
    have r22 : (V 22) = .bool false := hV 22 (by decide)
    clear hV hap
    simp only [List.take_succ_cons, List.take_zero, List.drop_succ_cons, List.drop_zero, putAll, Act.put, List.setIfInBounds_toArray, List.set_cons_zero, List.set_cons_succ]
    have hb := (show Below _ _ _ from hG)
    replace D0 := Lib.hid (D0.out.below hb)
    replace SN0 := Lib.hid (SN0.out.below hb)
    replace SD0 := Lib.hid (SD0.out.below hb)
    replace D1 := Lib.hid (D1.out.below hb)
    replace SN1 := Lib.hid (SN1.out.below hb)
    replace SD1 := Lib.hid (SD1.out.below hb)
    replace HB := Lib.hid (HB.out.trans (Below.mono hb HB.out.size))
    clear hb hG
    rw [r22]
    clear r22

    go_wp2_with fail
    go_ret
    exact ⟨_, rfl, congrArg Value.bool (htn.out (by first | exact hc1 | trivial)), HB.out⟩
  · skip
    rcases t1 with _ | _
    · skip
      refine wp_region_calm 23 [] ([fun vq _ => vq = .pointer (some ⟨w.heap.size, 0, none⟩),
          fun vq _ => vq = .pointer (some ⟨w.heap.size, 0, none⟩),
          fun vq _ => vq = .bool n,
          fun vq _ => vq = .pointer (some ⟨w.heap.size + 1, 0, none⟩),
          fun vq _ => vq = .pointer (some ⟨w.heap.size + 1, 0, none⟩),
          fun vq _ => vq = .bool n',
          fun vq _ => vq = .bool true,
          fun vq _ => vq = .bool true,
          fun vq _ => vq = .pointer (some ⟨w.heap.size, 0, none⟩),
          fun vq _ => vq = .pointer (some ⟨w.heap.size, 1, none⟩),
          fun vq _ => vq = .slice A0 l.length c0,
          fun vq _ => vq = .pointer (some ⟨w.heap.size + 1, 0, none⟩),
          fun vq _ => vq = .pointer (some ⟨w.heap.size + 1, 1, none⟩),
          fun vq _ => vq = .slice A1 l'.length c1,
          fun vq _ => vq = .bool false,
          fun vq _ => vq = .bool false,
          fun vq _ => vq = .bool false,
          fun vq _ => vq = undef,
          fun vq _ => vq = undef,
          fun vq _ => vq = undef,
          fun vq _ => vq = undef,
          fun vq _ => vq = undef,
          fun vq _ => vq = .bool false]) (by kernel_rfl) (by decide) ?_ ?_ ?_
      · intro j hj; cases hj
      · refine po rfl (fun lq aq wq hk hr K hK => ?_) ?_
        · have B2 : ev aq (.tmp 2) = .pointer (some ⟨w.heap.size, 0, none⟩) := hk.base 2 (by kernel_rfl) rfl
          exact vc hK (by go_simp) (fun w2 h2 => rfl)
        refine po rfl (fun lq aq wq hk hr K hK => ?_) ?_
        · have E0 : ev aq (.tmp 5) = .pointer (some ⟨w.heap.size, 0, none⟩) := hk.dc hr 0 (by kernel_rfl) fun _ _ h => h
          exact vc hK (by go_simp) (fun w2 h2 => rfl)
        refine po rfl (fun lq aq wq hk hr K hK => ?_) ?_
        · have E1 : ev aq (.tmp 6) = .pointer (some ⟨w.heap.size, 0, none⟩) := hk.dc hr 1 (by kernel_rfl) fun _ _ h => h
          have hb : Below _ _ _ := hk.ext
          have c0 := (D0.out.below hb).c0
          exact vc hK (by go_simp) (fun w2 h2 => rfl)
        refine po rfl (fun lq aq wq hk hr K hK => ?_) ?_
        · have B3 : ev aq (.tmp 3) = .pointer (some ⟨w.heap.size + 1, 0, none⟩) := hk.base 3 (by kernel_rfl) rfl
          exact vc hK (by go_simp) (fun w2 h2 => rfl)
        refine po rfl (fun lq aq wq hk hr K hK => ?_) ?_
        · have E3 : ev aq (.tmp 8) = .pointer (some ⟨w.heap.size + 1, 0, none⟩) := hk.dc hr 3 (by kernel_rfl) fun _ _ h => h
          exact vc hK (by go_simp) (fun w2 h2 => rfl)
        refine po rfl (fun lq aq wq hk hr K hK => ?_) ?_
        · have E4 : ev aq (.tmp 9) = .pointer (some ⟨w.heap.size + 1, 0, none⟩) := hk.dc hr 4 (by kernel_rfl) fun _ _ h => h
          have hb : Below _ _ _ := hk.ext
          have c0 := (D1.out.below hb).c0
          exact vc hK (by go_simp) (fun w2 h2 => rfl)
        refine po rfl (fun lq aq wq hk hr K hK => ?_) ?_
        · have E2 : ev aq (.tmp 7) = .bool n := hk.dc hr 2 (by kernel_rfl) fun _ _ h => h
          have E5 : ev aq (.tmp 10) = .bool n' := hk.dc hr 5 (by kernel_rfl) fun _ _ h => h
          exact vc hK (by go_simp) (fun w2 h2 => rfl)
        refine po rfl (fun lq aq wq hk hr K hK => ?_) ?_
        · have E6 : ev aq (.tmp 11) = .bool true := hk.dc hr 6 (by kernel_rfl) fun _ _ h => h
          exact vc hK (by go_simp) (fun w2 h2 => rfl)
        refine pl 7 12 true rfl (by kernel_rfl) (fun _ _ h => h) (fun lq aq wq hk hr K hK => ?_) ?_
        · have B2 : ev aq (.tmp 2) = .pointer (some ⟨w.heap.size, 0, none⟩) := hk.base 2 (by kernel_rfl) rfl
          exact vc hK (by go_simp) (fun w2 h2 => rfl)
        refine pl 7 12 true rfl (by kernel_rfl) (fun _ _ h => h) (fun lq aq wq hk hr K hK => ?_) ?_
        · have E8 : ev aq (.tmp 13) = .pointer (some ⟨w.heap.size, 0, none⟩) := hk.dc hr 8 (by kernel_rfl) fun _ _ h => h
          exact vc hK (by go_simp) (fun w2 h2 => rfl)
        refine pl 7 12 true rfl (by kernel_rfl) (fun _ _ h => h) (fun lq aq wq hk hr K hK => ?_) ?_
        · have E9 : ev aq (.tmp 14) = .pointer (some ⟨w.heap.size, 1, none⟩) := hk.dc hr 9 (by kernel_rfl) fun _ _ h => h
          have hb : Below _ _ _ := hk.ext
          have c1 := (D0.out.below hb).c1
          exact vc hK (by go_simp) (fun w2 h2 => rfl)
        refine pl 7 12 true rfl (by kernel_rfl) (fun _ _ h => h) (fun lq aq wq hk hr K hK => ?_) ?_
        · have B3 : ev aq (.tmp 3) = .pointer (some ⟨w.heap.size + 1, 0, none⟩) := hk.base 3 (by kernel_rfl) rfl
          exact vc hK (by go_simp) (fun w2 h2 => rfl)
        refine pl 7 12 true rfl (by kernel_rfl) (fun _ _ h => h) (fun lq aq wq hk hr K hK => ?_) ?_
        · have E11 : ev aq (.tmp 16) = .pointer (some ⟨w.heap.size + 1, 0, none⟩) := hk.dc hr 11 (by kernel_rfl) fun _ _ h => h
          exact vc hK (by go_simp) (fun w2 h2 => rfl)
        refine pl 7 12 true rfl (by kernel_rfl) (fun _ _ h => h) (fun lq aq wq hk hr K hK => ?_) ?_
        · have E12 : ev aq (.tmp 17) = .pointer (some ⟨w.heap.size + 1, 1, none⟩) := hk.dc hr 12 (by kernel_rfl) fun _ _ h => h
          have hb : Below _ _ _ := hk.ext
          have c1 := (D1.out.below hb).c1
          exact vc hK (by go_simp) (fun w2 h2 => rfl)
        refine pl 7 12 true rfl (by kernel_rfl) (fun _ _ h => h) (fun lq aq wq hk hr K hK => ?_) ?_
        · have E10 : ev aq (.tmp 15) = .slice A0 l.length c0 := hk.dc hr 10 (by kernel_rfl) fun _ _ h => h
          have E13 : ev aq (.tmp 18) = .slice A1 l'.length c1 := hk.dc hr 13 (by kernel_rfl) fun _ _ h => h
          exact yc hK (by go_simp) (rsamel_v wq (SN0.out.below hk.ext).lv (SN1.out.below hk.ext).lv hl0 ht1.out) (fun u w1 hu w2 h2 => hu)
        refine po rfl (fun lq aq wq hk hr K hK => ?_) ?_
        · have E7 : ev aq (.tmp 12) = .bool true := hk.dc hr 7 (by kernel_rfl) fun _ _ h => h
          have E14 : ev aq (.tmp 19) = .bool false := hk.dc hr 14 (by kernel_rfl) fun _ _ h => h
          exact vc hK (by go_simp) (fun w2 h2 => rfl)
        refine po rfl (fun lq aq wq hk hr K hK => ?_) ?_
        · have E15 : ev aq (.tmp 20) = .bool false := hk.dc hr 15 (by kernel_rfl) fun _ _ h => h
          exact vc hK (by go_simp) (fun w2 h2 => rfl)
        refine pb 16 21 true false rfl (by kernel_rfl) (fun _ _ h => h) (by decide) (fun _ => rfl) rfl ?_
        refine pb 16 21 true false rfl (by kernel_rfl) (fun _ _ h => h) (by decide) (fun _ => rfl) rfl ?_
        refine pb 16 21 true false rfl (by kernel_rfl) (fun _ _ h => h) (by decide) (fun _ => rfl) rfl ?_
        refine pb 16 21 true false rfl (by kernel_rfl) (fun _ _ h => h) (by decide) (fun _ => rfl) rfl ?_
        refine pb 16 21 true false rfl (by kernel_rfl) (fun _ _ h => h) (by decide) (fun _ => rfl) rfl ?_
        refine po rfl (fun lq aq wq hk hr K hK => ?_) ?_
        · have E16 : ev aq (.tmp 21) = .bool false := hk.dc hr 16 (by kernel_rfl) fun _ _ h => h
          exact vc hK (by go_simp) (fun w2 h2 => rfl)
        exact AllOps.nil
      intro V x1 hG hV hap
      have r17 : (V 17) = undef := hV 17 (by decide)
      have r22 : (V 22) = .bool false := hV 22 (by decide)
      clear hV hap
      simp only [List.take_succ_cons, List.take_zero, List.drop_succ_cons, List.drop_zero, putAll, Act.put, List.setIfInBounds_toArray, List.set_cons_zero, List.set_cons_succ]
      have hb := (show Below _ _ _ from hG)
      replace D0 := Lib.hid (D0.out.below hb)
      replace SN0 := Lib.hid (SN0.out.below hb)
      replace SD0 := Lib.hid (SD0.out.below hb)
      replace D1 := Lib.hid (D1.out.below hb)
      replace SN1 := Lib.hid (SN1.out.below hb)
      replace SD1 := Lib.hid (SD1.out.below hb)
      replace HB := Lib.hid (HB.out.trans (Below.mono hb HB.out.size))
      clear hb hG
      rw [r22]
      clear r22

      go_wp2_with fail
      go_ret
      exact ⟨_, rfl, congrArg Value.bool (hta.out (by first | exact hc1 | trivial) (by first | exact rfl | trivial)), HB.out⟩
    · skip
      refine wp_region_calm 23 [] ([fun vq _ => vq = .pointer (some ⟨w.heap.size, 0, none⟩),
          fun vq _ => vq = .pointer (some ⟨w.heap.size, 0, none⟩),
          fun vq _ => vq = .bool n,
          fun vq _ => vq = .pointer (some ⟨w.heap.size + 1, 0, none⟩),
          fun vq _ => vq = .pointer (some ⟨w.heap.size + 1, 0, none⟩),
          fun vq _ => vq = .bool n',
          fun vq _ => vq = .bool true,
          fun vq _ => vq = .bool true,
          fun vq _ => vq = .pointer (some ⟨w.heap.size, 0, none⟩),
          fun vq _ => vq = .pointer (some ⟨w.heap.size, 1, none⟩),
          fun vq _ => vq = .slice A0 l.length c0,
          fun vq _ => vq = .pointer (some ⟨w.heap.size + 1, 0, none⟩),
          fun vq _ => vq = .pointer (some ⟨w.heap.size + 1, 1, none⟩),
          fun vq _ => vq = .slice A1 l'.length c1,
          fun vq _ => vq = .bool true,
          fun vq _ => vq = .bool true,
          fun vq _ => vq = .bool true,
          fun vq _ => vq = .pointer (some ⟨w.heap.size, 2, none⟩),
          fun vq _ => vq = .slice B0 m.length d0,
          fun vq _ => vq = .pointer (some ⟨w.heap.size + 1, 2, none⟩),
          fun vq _ => vq = .slice B1 m'.length d1,
          fun vq _ => vq = .bool t2,
          fun vq _ => vq = .bool t2]) (by kernel_rfl) (by decide) ?_ ?_ ?_
      · intro j hj; cases hj
      · refine po rfl (fun lq aq wq hk hr K hK => ?_) ?_
        · have B2 : ev aq (.tmp 2) = .pointer (some ⟨w.heap.size, 0, none⟩) := hk.base 2 (by kernel_rfl) rfl
          exact vc hK (by go_simp) (fun w2 h2 => rfl)
        refine po rfl (fun lq aq wq hk hr K hK => ?_) ?_
        · have E0 : ev aq (.tmp 5) = .pointer (some ⟨w.heap.size, 0, none⟩) := hk.dc hr 0 (by kernel_rfl) fun _ _ h => h
          exact vc hK (by go_simp) (fun w2 h2 => rfl)
        refine po rfl (fun lq aq wq hk hr K hK => ?_) ?_
        · have E1 : ev aq (.tmp 6) = .pointer (some ⟨w.heap.size, 0, none⟩) := hk.dc hr 1 (by kernel_rfl) fun _ _ h => h
          have hb : Below _ _ _ := hk.ext
          have c0 := (D0.out.below hb).c0
          exact vc hK (by go_simp) (fun w2 h2 => rfl)
        refine po rfl (fun lq aq wq hk hr K hK => ?_) ?_
        · have B3 : ev aq (.tmp 3) = .pointer (some ⟨w.heap.size + 1, 0, none⟩) := hk.base 3 (by kernel_rfl) rfl
          exact vc hK (by go_simp) (fun w2 h2 => rfl)
        refine po rfl (fun lq aq wq hk hr K hK => ?_) ?_
        · have E3 : ev aq (.tmp 8) = .pointer (some ⟨w.heap.size + 1, 0, none⟩) := hk.dc hr 3 (by kernel_rfl) fun _ _ h => h
          exact vc hK (by go_simp) (fun w2 h2 => rfl)
        refine po rfl (fun lq aq wq hk hr K hK => ?_) ?_
        · have E4 : ev aq (.tmp 9) = .pointer (some ⟨w.heap.size + 1, 0, none⟩) := hk.dc hr 4 (by kernel_rfl) fun _ _ h => h
          have hb : Below _ _ _ := hk.ext
          have c0 := (D1.out.below hb).c0
          exact vc hK (by go_simp) (fun w2 h2 => rfl)
        refine po rfl (fun lq aq wq hk hr K hK => ?_) ?_
        · have E2 : ev aq (.tmp 7) = .bool n := hk.dc hr 2 (by kernel_rfl) fun _ _ h => h
          have E5 : ev aq (.tmp 10) = .bool n' := hk.dc hr 5 (by kernel_rfl) fun _ _ h => h
          exact vc hK (by go_simp) (fun w2 h2 => rfl)
        refine po rfl (fun lq aq wq hk hr K hK => ?_) ?_
        · have E6 : ev aq (.tmp 11) = .bool true := hk.dc hr 6 (by kernel_rfl) fun _ _ h => h
          exact vc hK (by go_simp) (fun w2 h2 => rfl)
        refine pl 7 12 true rfl (by kernel_rfl) (fun _ _ h => h) (fun lq aq wq hk hr K hK => ?_) ?_
        · have B2 : ev aq (.tmp 2) = .pointer (some ⟨w.heap.size, 0, none⟩) := hk.base 2 (by kernel_rfl) rfl
          exact vc hK (by go_simp) (fun w2 h2 => rfl)
        refine pl 7 12 true rfl (by kernel_rfl) (fun _ _ h => h) (fun lq aq wq hk hr K hK => ?_) ?_
        · have E8 : ev aq (.tmp 13) = .pointer (some ⟨w.heap.size, 0, none⟩) := hk.dc hr 8 (by kernel_rfl) fun _ _ h => h
          exact vc hK (by go_simp) (fun w2 h2 => rfl)
        refine pl 7 12 true rfl (by kernel_rfl) (fun _ _ h => h) (fun lq aq wq hk hr K hK => ?_) ?_
        · have E9 : ev aq (.tmp 14) = .pointer (some ⟨w.heap.size, 1, none⟩) := hk.dc hr 9 (by kernel_rfl) fun _ _ h => h
          have hb : Below _ _ _ := hk.ext
          have c1 := (D0.out.below hb).c1
          exact vc hK (by go_simp) (fun w2 h2 => rfl)
        refine pl 7 12 true rfl (by kernel_rfl) (fun _ _ h => h) (fun lq aq wq hk hr K hK => ?_) ?_
        · have B3 : ev aq (.tmp 3) = .pointer (some ⟨w.heap.size + 1, 0, none⟩) := hk.base 3 (by kernel_rfl) rfl
          exact vc hK (by go_simp) (fun w2 h2 => rfl)
        refine pl 7 12 true rfl (by kernel_rfl) (fun _ _ h => h) (fun lq aq wq hk hr K hK => ?_) ?_
        · have E11 : ev aq (.tmp 16) = .pointer (some ⟨w.heap.size + 1, 0, none⟩) := hk.dc hr 11 (by kernel_rfl) fun _ _ h => h
          exact vc hK (by go_simp) (fun w2 h2 => rfl)
        refine pl 7 12 true rfl (by kernel_rfl) (fun _ _ h => h) (fun lq aq wq hk hr K hK => ?_) ?_
        · have E12 : ev aq (.tmp 17) = .pointer (some ⟨w.heap.size + 1, 1, none⟩) := hk.dc hr 12 (by kernel_rfl) fun _ _ h => h
          have hb : Below _ _ _ := hk.ext
          have c1 := (D1.out.below hb).c1
          exact vc hK (by go_simp) (fun w2 h2 => rfl)
        refine pl 7 12 true rfl (by kernel_rfl) (fun _ _ h => h) (fun lq aq wq hk hr K hK => ?_) ?_
        · have E10 : ev aq (.tmp 15) = .slice A0 l.length c0 := hk.dc hr 10 (by kernel_rfl) fun _ _ h => h
          have E13 : ev aq (.tmp 18) = .slice A1 l'.length c1 := hk.dc hr 13 (by kernel_rfl) fun _ _ h => h
          exact yc hK (by go_simp) (rsamel_v wq (SN0.out.below hk.ext).lv (SN1.out.below hk.ext).lv hl0 ht1.out) (fun u w1 hu w2 h2 => hu)
        refine po rfl (fun lq aq wq hk hr K hK => ?_) ?_
        · have E7 : ev aq (.tmp 12) = .bool true := hk.dc hr 7 (by kernel_rfl) fun _ _ h => h
          have E14 : ev aq (.tmp 19) = .bool true := hk.dc hr 14 (by kernel_rfl) fun _ _ h => h
          exact vc hK (by go_simp) (fun w2 h2 => rfl)
        refine po rfl (fun lq aq wq hk hr K hK => ?_) ?_
        · have E15 : ev aq (.tmp 20) = .bool true := hk.dc hr 15 (by kernel_rfl) fun _ _ h => h
          exact vc hK (by go_simp) (fun w2 h2 => rfl)
        refine pl 16 21 true rfl (by kernel_rfl) (fun _ _ h => h) (fun lq aq wq hk hr K hK => ?_) ?_
        · have B2 : ev aq (.tmp 2) = .pointer (some ⟨w.heap.size, 0, none⟩) := hk.base 2 (by kernel_rfl) rfl
          exact vc hK (by go_simp) (fun w2 h2 => rfl)
        refine pl 16 21 true rfl (by kernel_rfl) (fun _ _ h => h) (fun lq aq wq hk hr K hK => ?_) ?_
        · have E17 : ev aq (.tmp 22) = .pointer (some ⟨w.heap.size, 2, none⟩) := hk.dc hr 17 (by kernel_rfl) fun _ _ h => h
          have hb : Below _ _ _ := hk.ext
          have c2 := (D0.out.below hb).c2
          exact vc hK (by go_simp) (fun w2 h2 => rfl)
        refine pl 16 21 true rfl (by kernel_rfl) (fun _ _ h => h) (fun lq aq wq hk hr K hK => ?_) ?_
        · have B3 : ev aq (.tmp 3) = .pointer (some ⟨w.heap.size + 1, 0, none⟩) := hk.base 3 (by kernel_rfl) rfl
          exact vc hK (by go_simp) (fun w2 h2 => rfl)
        refine pl 16 21 true rfl (by kernel_rfl) (fun _ _ h => h) (fun lq aq wq hk hr K hK => ?_) ?_
        · have E19 : ev aq (.tmp 24) = .pointer (some ⟨w.heap.size + 1, 2, none⟩) := hk.dc hr 19 (by kernel_rfl) fun _ _ h => h
          have hb : Below _ _ _ := hk.ext
          have c2 := (D1.out.below hb).c2
          exact vc hK (by go_simp) (fun w2 h2 => rfl)
        refine pl 16 21 true rfl (by kernel_rfl) (fun _ _ h => h) (fun lq aq wq hk hr K hK => ?_) ?_
        · have E18 : ev aq (.tmp 23) = .slice B0 m.length d0 := hk.dc hr 18 (by kernel_rfl) fun _ _ h => h
          have E20 : ev aq (.tmp 25) = .slice B1 m'.length d1 := hk.dc hr 20 (by kernel_rfl) fun _ _ h => h
          exact yc hK (by go_simp) (rsamel_v wq (SD0.out.below hk.ext).lv (SD1.out.below hk.ext).lv hm0 ht2.out) (fun u w1 hu w2 h2 => hu)
        refine po rfl (fun lq aq wq hk hr K hK => ?_) ?_
        · have E16 : ev aq (.tmp 21) = .bool true := hk.dc hr 16 (by kernel_rfl) fun _ _ h => h
          have E21 : ev aq (.tmp 26) = .bool t2 := hk.dc hr 21 (by kernel_rfl) fun _ _ h => h
          exact vc hK (by go_simp) (fun w2 h2 => rfl)
        exact AllOps.nil
      intro V x1 hG hV hap
      have r17 : (V 17) = .pointer (some ⟨w.heap.size, 2, none⟩) := hV 17 (by decide)
      have r22 : (V 22) = .bool t2 := hV 22 (by decide)
      clear hV hap
      simp only [List.take_succ_cons, List.take_zero, List.drop_succ_cons, List.drop_zero, putAll, Act.put, List.setIfInBounds_toArray, List.set_cons_zero, List.set_cons_succ]
      have hb := (show Below _ _ _ from hG)
      replace D0 := Lib.hid (D0.out.below hb)
      replace SN0 := Lib.hid (SN0.out.below hb)
      replace SD0 := Lib.hid (SD0.out.below hb)
      replace D1 := Lib.hid (D1.out.below hb)
      replace SN1 := Lib.hid (SN1.out.below hb)
      replace SD1 := Lib.hid (SD1.out.below hb)
      replace HB := Lib.hid (HB.out.trans (Below.mono hb HB.out.size))
      clear hb hG
      rw [r22]
      clear r22

      go_wp2_with fail
      go_ret
      exact ⟨_, rfl, congrArg Value.bool (ht'.out (by first | exact hc1 | trivial) (by first | exact rfl | trivial)), HB.out⟩
set_option maxHeartbeats 16000000 in
set_option maxRecDepth 100000 in
theorem rsameI_v (w : World) {u v : Value} {x y : Int} {t : Bool} (h0 : ZV w u x) (h1 : ZV w v y) (ht : decide (x = y) = t) : Calls Tryz.prog 32 #[u, v] w fun e w' => ∃ r, e = .returned r ∧ r = .bool t ∧ Grows w w' := by
  obtain ⟨n0, A0, k0, c0, rfl, s0⟩ := h0
  have hk0 : szz x ≤ 1000 := s0.short
  obtain ⟨n1, A1, k1, c1, rfl, s1⟩ := h1
  have hk1 : szz y ≤ 1000 := s1.short
  go_enter Tryz.func32, Tryz.ntmps32
  go_upto_region 1 with fail
  obtain ⟨x0, ex0, HB, D0, D1⟩ := st_22 w 24 (.bool n0) (.slice A0 k0 c0) 24 (.bool n1) (.slice A1 k1 c1)
  rw [ex0]
  clear ex0
  replace HB := Lib.hid HB
  replace D0 := Lib.hid D0
  replace D1 := Lib.hid D1
  have SN0 := Lib.hid (s0.below HB.out)
  clear s0
  have SN1 := Lib.hid (s1.below HB.out)
  clear s1
  have hsx := SN0.out.sign
  have hsy := SN1.out.sign
  have hs0 := SN0.out.short
  have hc2 : (n0 == n1) = false → false = t := by
    intro e
    rw [← ht]; symm
    refine decide_eq_false fun e2 => ?_
    rw [hsx, hsy, e2] at e
    simp at e
  have hc3 : (n0 == n1) = true → decide (limbs x.natAbs = limbs y.natAbs) = t := by
    intro e
    rw [← ht]
    by_cases e2 : x = y
    · rw [decide_eq_true e2, e2]; simp
    · rw [decide_eq_false e2]
      refine decide_eq_false fun e3 => e2 ?_
      rw [← sg_own x, ← sg_own y, limbs_inj e3, ← hsx, ← hsy, beq_iff_eq.1 e]
  replace hc2 := Lib.hid hc2
  replace hc3 := Lib.hid hc3
  clear hsx hsy ht
  rcases hc1 : (n0 == n1) with _ | _
  · skip
    refine wp_region_calm 12 [] ([fun vq _ => vq = .pointer (some ⟨w.heap.size, 0, none⟩),
        fun vq _ => vq = .bool n0,
        fun vq _ => vq = .pointer (some ⟨w.heap.size + 1, 0, none⟩),
        fun vq _ => vq = .bool n1,
        fun vq _ => vq = .bool false,
        fun vq _ => vq = .bool false,
        fun vq _ => vq = undef,
        fun vq _ => vq = undef,
        fun vq _ => vq = undef,
        fun vq _ => vq = undef,
        fun vq _ => vq = undef,
        fun vq _ => vq = .bool false]) (by kernel_rfl) (by decide) ?_ ?_ ?_
    · intro j hj; cases hj
    · refine po rfl (fun lq aq wq hk hr K hK => ?_) ?_
      · have B2 : ev aq (.tmp 2) = .pointer (some ⟨w.heap.size, 0, none⟩) := hk.base 2 (by kernel_rfl) rfl
        exact vc hK (by go_simp) (fun w2 h2 => rfl)
      refine po rfl (fun lq aq wq hk hr K hK => ?_) ?_
      · have E0 : ev aq (.tmp 5) = .pointer (some ⟨w.heap.size, 0, none⟩) := hk.dc hr 0 (by kernel_rfl) fun _ _ h => h
        have hb : Below _ _ _ := hk.ext
        have c0 := (D0.out.below hb).c0
        exact vc hK (by go_simp) (fun w2 h2 => rfl)
      refine po rfl (fun lq aq wq hk hr K hK => ?_) ?_
      · have B3 : ev aq (.tmp 3) = .pointer (some ⟨w.heap.size + 1, 0, none⟩) := hk.base 3 (by kernel_rfl) rfl
        exact vc hK (by go_simp) (fun w2 h2 => rfl)
      refine po rfl (fun lq aq wq hk hr K hK => ?_) ?_
      · have E2 : ev aq (.tmp 7) = .pointer (some ⟨w.heap.size + 1, 0, none⟩) := hk.dc hr 2 (by kernel_rfl) fun _ _ h => h
        have hb : Below _ _ _ := hk.ext
        have c0 := (D1.out.below hb).c0
        exact vc hK (by go_simp) (fun w2 h2 => rfl)
      refine po rfl (fun lq aq wq hk hr K hK => ?_) ?_
      · have E1 : ev aq (.tmp 6) = .bool n0 := hk.dc hr 1 (by kernel_rfl) fun _ _ h => h
        have E3 : ev aq (.tmp 8) = .bool n1 := hk.dc hr 3 (by kernel_rfl) fun _ _ h => h
        exact vc hK (by go_simp) (fun w2 h2 => rfl)
      refine po rfl (fun lq aq wq hk hr K hK => ?_) ?_
      · have E4 : ev aq (.tmp 9) = .bool false := hk.dc hr 4 (by kernel_rfl) fun _ _ h => h
        exact vc hK (by go_simp) (fun w2 h2 => rfl)
      refine pb 5 10 true false rfl (by kernel_rfl) (fun _ _ h => h) (by decide) (fun _ => rfl) rfl ?_
      refine pb 5 10 true false rfl (by kernel_rfl) (fun _ _ h => h) (by decide) (fun _ => rfl) rfl ?_
      refine pb 5 10 true false rfl (by kernel_rfl) (fun _ _ h => h) (by decide) (fun _ => rfl) rfl ?_
      refine pb 5 10 true false rfl (by kernel_rfl) (fun _ _ h => h) (by decide) (fun _ => rfl) rfl ?_
      refine pb 5 10 true false rfl (by kernel_rfl) (fun _ _ h => h) (by decide) (fun _ => rfl) rfl ?_
      refine po rfl (fun lq aq wq hk hr K hK => ?_) ?_
      · have E5 : ev aq (.tmp 10) = .bool false := hk.dc hr 5 (by kernel_rfl) fun _ _ h => h
        exact vc hK (by go_simp) (fun w2 h2 => rfl)
      exact AllOps.nil
    intro V x1 hG hV hap
    have r6 : (V 6) = undef := hV 6 (by decide)
    have r11 : (V 11) = .bool false := hV 11 (by decide)
    clear hV hap
    simp only [List.take_succ_cons, List.take_zero, List.drop_succ_cons, List.drop_zero, putAll, Act.put, List.setIfInBounds_toArray, List.set_cons_zero, List.set_cons_succ]
    have hb := (show Below _ _ _ from hG)
    replace D0 := Lib.hid (D0.out.below hb)
    replace SN0 := Lib.hid (SN0.out.below hb)
    replace D1 := Lib.hid (D1.out.below hb)
    replace SN1 := Lib.hid (SN1.out.below hb)
    replace HB := Lib.hid (HB.out.trans (Below.mono hb HB.out.size))
    clear hb hG
    rw [r11]
    clear r11

    go_wp2_with fail
    go_ret
    exact ⟨_, rfl, congrArg Value.bool (hc2.out (by first | exact hc1 | trivial)), HB.out⟩
  · skip
    refine wp_region_calm 12 [] ([fun vq _ => vq = .pointer (some ⟨w.heap.size, 0, none⟩),
        fun vq _ => vq = .bool n0,
        fun vq _ => vq = .pointer (some ⟨w.heap.size + 1, 0, none⟩),
        fun vq _ => vq = .bool n1,
        fun vq _ => vq = .bool true,
        fun vq _ => vq = .bool true,
        fun vq _ => vq = .pointer (some ⟨w.heap.size, 1, none⟩),
        fun vq _ => vq = .slice A0 k0 c0,
        fun vq _ => vq = .pointer (some ⟨w.heap.size + 1, 1, none⟩),
        fun vq _ => vq = .slice A1 k1 c1,
        fun vq _ => vq = .bool t,
        fun vq _ => vq = .bool t]) (by kernel_rfl) (by decide) ?_ ?_ ?_
    · intro j hj; cases hj
    · refine po rfl (fun lq aq wq hk hr K hK => ?_) ?_
      · have B2 : ev aq (.tmp 2) = .pointer (some ⟨w.heap.size, 0, none⟩) := hk.base 2 (by kernel_rfl) rfl
        exact vc hK (by go_simp) (fun w2 h2 => rfl)
      refine po rfl (fun lq aq wq hk hr K hK => ?_) ?_
      · have E0 : ev aq (.tmp 5) = .pointer (some ⟨w.heap.size, 0, none⟩) := hk.dc hr 0 (by kernel_rfl) fun _ _ h => h
        have hb : Below _ _ _ := hk.ext
        have c0 := (D0.out.below hb).c0
        exact vc hK (by go_simp) (fun w2 h2 => rfl)
      refine po rfl (fun lq aq wq hk hr K hK => ?_) ?_
      · have B3 : ev aq (.tmp 3) = .pointer (some ⟨w.heap.size + 1, 0, none⟩) := hk.base 3 (by kernel_rfl) rfl
        exact vc hK (by go_simp) (fun w2 h2 => rfl)
      refine po rfl (fun lq aq wq hk hr K hK => ?_) ?_
      · have E2 : ev aq (.tmp 7) = .pointer (some ⟨w.heap.size + 1, 0, none⟩) := hk.dc hr 2 (by kernel_rfl) fun _ _ h => h
        have hb : Below _ _ _ := hk.ext
        have c0 := (D1.out.below hb).c0
        exact vc hK (by go_simp) (fun w2 h2 => rfl)
      refine po rfl (fun lq aq wq hk hr K hK => ?_) ?_
      · have E1 : ev aq (.tmp 6) = .bool n0 := hk.dc hr 1 (by kernel_rfl) fun _ _ h => h
        have E3 : ev aq (.tmp 8) = .bool n1 := hk.dc hr 3 (by kernel_rfl) fun _ _ h => h
        exact vc hK (by go_simp) (fun w2 h2 => rfl)
      refine po rfl (fun lq aq wq hk hr K hK => ?_) ?_
      · have E4 : ev aq (.tmp 9) = .bool true := hk.dc hr 4 (by kernel_rfl) fun _ _ h => h
        exact vc hK (by go_simp) (fun w2 h2 => rfl)
      refine pl 5 10 true rfl (by kernel_rfl) (fun _ _ h => h) (fun lq aq wq hk hr K hK => ?_) ?_
      · have B2 : ev aq (.tmp 2) = .pointer (some ⟨w.heap.size, 0, none⟩) := hk.base 2 (by kernel_rfl) rfl
        exact vc hK (by go_simp) (fun w2 h2 => rfl)
      refine pl 5 10 true rfl (by kernel_rfl) (fun _ _ h => h) (fun lq aq wq hk hr K hK => ?_) ?_
      · have E6 : ev aq (.tmp 11) = .pointer (some ⟨w.heap.size, 1, none⟩) := hk.dc hr 6 (by kernel_rfl) fun _ _ h => h
        have hb : Below _ _ _ := hk.ext
        have c1 := (D0.out.below hb).c1
        exact vc hK (by go_simp) (fun w2 h2 => rfl)
      refine pl 5 10 true rfl (by kernel_rfl) (fun _ _ h => h) (fun lq aq wq hk hr K hK => ?_) ?_
      · have B3 : ev aq (.tmp 3) = .pointer (some ⟨w.heap.size + 1, 0, none⟩) := hk.base 3 (by kernel_rfl) rfl
        exact vc hK (by go_simp) (fun w2 h2 => rfl)
      refine pl 5 10 true rfl (by kernel_rfl) (fun _ _ h => h) (fun lq aq wq hk hr K hK => ?_) ?_
      · have E8 : ev aq (.tmp 13) = .pointer (some ⟨w.heap.size + 1, 1, none⟩) := hk.dc hr 8 (by kernel_rfl) fun _ _ h => h
        have hb : Below _ _ _ := hk.ext
        have c1 := (D1.out.below hb).c1
        exact vc hK (by go_simp) (fun w2 h2 => rfl)
      refine pl 5 10 true rfl (by kernel_rfl) (fun _ _ h => h) (fun lq aq wq hk hr K hK => ?_) ?_
      · have E7 : ev aq (.tmp 12) = .slice A0 k0 c0 := hk.dc hr 7 (by kernel_rfl) fun _ _ h => h
        have E9 : ev aq (.tmp 14) = .slice A1 k1 c1 := hk.dc hr 9 (by kernel_rfl) fun _ _ h => h
        exact yc hK (by go_simp) (rsamel_v wq (SN0.out.num.below hk.ext).lv (SN1.out.num.below hk.ext).lv SN0.out.short (hc3.out (by first | exact hc1 | trivial))) (fun u w1 hu w2 h2 => hu)
      refine po rfl (fun lq aq wq hk hr K hK => ?_) ?_
      · have E5 : ev aq (.tmp 10) = .bool true := hk.dc hr 5 (by kernel_rfl) fun _ _ h => h
        have E10 : ev aq (.tmp 15) = .bool t := hk.dc hr 10 (by kernel_rfl) fun _ _ h => h
        exact vc hK (by go_simp) (fun w2 h2 => rfl)
      exact AllOps.nil
    intro V x1 hG hV hap
    have r6 : (V 6) = .pointer (some ⟨w.heap.size, 1, none⟩) := hV 6 (by decide)
    have r11 : (V 11) = .bool t := hV 11 (by decide)
    clear hV hap
    simp only [List.take_succ_cons, List.take_zero, List.drop_succ_cons, List.drop_zero, putAll, Act.put, List.setIfInBounds_toArray, List.set_cons_zero, List.set_cons_succ]
    have hb := (show Below _ _ _ from hG)
    replace D0 := Lib.hid (D0.out.below hb)
    replace SN0 := Lib.hid (SN0.out.below hb)
    replace D1 := Lib.hid (D1.out.below hb)
    replace SN1 := Lib.hid (SN1.out.below hb)
    replace HB := Lib.hid (HB.out.trans (Below.mono hb HB.out.size))
    clear hb hG
    rw [r11]
    clear r11

    go_wp2_with fail
    go_ret
    exact ⟨_, rfl, rfl, HB.out⟩
end Go.Proofs.YtbippecchpaleaaGreatDoor
