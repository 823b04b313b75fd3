import Derived.Test.YtbippecchpaleaaGreatDoorRefQ8
import Derived.Test.YtbippecchpaleaaGreatDoorKept3
/- litmuslaw03.RatTells returns true. -/
namespace Go.Num
theorem few_psz (n : Bool) (k : Nat) {l r f g : List Nat} (hf : l.take k = f) (hg : r.take k = g) (hL : Lim l) (hM : Lim r) (hk : k ≤ 300) : Psz (sg n (val f)) (val g) 300 := by
  subst hf; subst hg
  refine ⟨Nat.le_trans (few_szz n k hL) hk, ?_⟩
  have := few_szz false k hM
  unfold szz at this
  rw [sg_natAbs] at this
  exact Nat.le_trans this hk
theorem num_zero {n : Bool} {f g : List Nat} {a : Rat} (h : lrat n f g = a) : a.num = 0 ↔ sg n (val f) = 0 := by
  subst h
  have h1 := mkRat_sign (sg n (val f)) (dn_pos (val g))
  unfold lrat
  constructor
  · intro e; rw [e] at h1; exact Int.sign_eq_zero_iff_zero.1 h1.symm
  · intro e; rw [e] at h1; rw [e]; exact Int.sign_eq_zero_iff_zero.1 h1
end Go.Num
namespace Go.Proofs.YtbippecchpaleaaGreatDoor
open Go.RowKit Go.Num Go.Kp
section
variable (w : World) {u v : Value} {n n' : Bool} {f g f' g' : List Nat} {a b : Rat}
theorem raddL_v (h0 : QL w u n f g) (h1 : QL w v n' f' g') (e0 : lrat n f g = a) (e1 : lrat n' f' g' = b) (s0 : Psz (sg n (val f)) (val g) 300) (s1 : Psz (sg n' (val f')) (val g') 300) : Calls Tryz.prog 23 #[u, v] w fun e w' => ∃ x, e = .returned x ∧ RV w' x (a + b) ∧ Grows w w' := by
  subst e0; subst e1
  exact raddP_v w h0.qp h1.qp s0 s1
theorem rsubL_v (h0 : QL w u n f g) (h1 : QL w v n' f' g') (e0 : lrat n f g = a) (e1 : lrat n' f' g' = b) (s0 : Psz (sg n (val f)) (val g) 300) (s1 : Psz (sg n' (val f')) (val g') 300) : Calls Tryz.prog 25 #[u, v] w fun e w' => ∃ x, e = .returned x ∧ RV w' x (a - b) ∧ Grows w w' := by
  subst e0; subst e1
  exact rsubP_v w h0.qp h1.qp s0 s1
theorem rmulL_v (h0 : QL w u n f g) (h1 : QL w v n' f' g') (e0 : lrat n f g = a) (e1 : lrat n' f' g' = b) (s0 : Psz (sg n (val f)) (val g) 300) (s1 : Psz (sg n' (val f')) (val g') 300) : Calls Tryz.prog 27 #[u, v] w fun e w' => ∃ x, e = .returned x ∧ RV w' x (a * b) ∧ Grows w w' := by
  subst e0; subst e1
  exact rmulP_v w h0.qp h1.qp s0 s1
theorem rdivL_v (h0 : QL w u n f g) (h1 : QL w v n' f' g') (e0 : lrat n f g = a) (e1 : lrat n' f' g' = b) (s0 : Psz (sg n (val f)) (val g) 300) (s1 : Psz (sg n' (val f')) (val g') 300) (hb : b.num ≠ 0) : Calls Tryz.prog 17 #[u, v] w fun e w' => ∃ x, e = .returned x ∧ RV w' x (a / b) ∧ Grows w w' := by
  subst e0; subst e1
  exact rdivP_v w h0.qp h1.qp s0 s1 (fun e => hb ((num_zero rfl).2 e))
theorem qdivA_v (w : World) {u v : Value} {a b q : Rat} {k : Int} (h0 : QV w u a) (h1 : QV w v b) (ha : Qsz a 300) (hb : Qsz b 300) (hz : b.num = 0 → q = 0 ∧ k = 3) (hn : b.num ≠ 0 → q = a / b ∧ k = 0) : Calls Tryz.prog 13 #[u, v] w fun e w' => ∃ y, e = .returned y ∧ (∃ x, y = .tuple #[x, .int .i64 k] ∧ RV w' x q) ∧ Grows w w' := by
  rcases Decidable.em (b.num = 0) with h | h
  · obtain ⟨rfl, rfl⟩ := hz h
    exact qdiv0_v w h0 h1 ha hb h
  · obtain ⟨rfl, rfl⟩ := hn h
    exact qdiv_v w h0 h1 ha hb h
theorem rcmpL_v {k : Int} (h0 : QL w u n f g) (h1 : QL w v n' f' g') (e0 : lrat n f g = a) (e1 : lrat n' f' g' = b) (s0 : Psz (sg n (val f)) (val g) 300) (s1 : Psz (sg n' (val f')) (val g') 300) (hk : qs (a - b) = k) : Calls Tryz.prog 29 #[u, v] w fun e w' => ∃ x, e = .returned x ∧ x = .int .i64 k ∧ Grows w w' := by
  subst e0; subst e1
  exact rcmpP_v w h0.qp h1.qp s0 s1 hk
theorem rsignL_v {k : Int} (h0 : QL w u n f g) (e0 : lrat n f g = a) (hk : qs a = k) : Calls Tryz.prog 31 #[u] w fun e w' => ∃ x, e = .returned x ∧ x = .int .i64 k ∧ Grows w w' := by
  subst e0
  exact rsign_v w h0.qp ((qs_mk _ _).symm.trans hk)
theorem rzeroL_v {t : Bool} (h0 : QL w u n f g) (e0 : lrat n f g = a) (ht : decide (a.num = 0) = t) : Calls Tryz.prog 14 #[u] w fun e w' => ∃ x, e = .returned x ∧ x = .bool t ∧ Grows w w' :=
  rzero_v w h0.qp ((decide_eq_decide.2 (num_zero e0).symm).trans ht)
end
end Go.Proofs.YtbippecchpaleaaGreatDoor
namespace Go.Proofs.YtbippecchpaleaaGreatDoor
open Go.RowKit Go.Num Go.Kp
attribute [local go_sem] Oper.semAt_some u64_mask ev_const ev_func ev_global
set_option maxHeartbeats 16000000 in
set_option maxRecDepth 100000 in
theorem ratTells_any (w : World) (nP0 : Bool) (mP0 pP0 : Value) (lP0 rP0 : List Nat) (nP1 : Bool) (mP1 pP1 : Value) (lP1 rP1 : List Nat) (hlen : HasLen w) (hP0 : Arg encU w mP0 lP0) (kP0 : Arg encU w pP0 rP0) (hL0 : Lim lP0) (hM0 : Lim rP0) (hN0 : lP0.length ≤ 9223372036854775807) (hO0 : rP0.length ≤ 9223372036854775807) (hP1 : Arg encU w mP1 lP1) (kP1 : Arg encU w pP1 rP1) (hL1 : Lim lP1) (hM1 : Lim rP1) (hN1 : lP1.length ≤ 9223372036854775807) (hO1 : rP1.length ≤ 9223372036854775807) : Calls Tryz.prog 3 #[.agg #[.bool nP0, mP0, pP0], .agg #[.bool nP1, mP1, pP1]] w fun e w' => e = .returned (.bool true) ∧ Below w.heap.size w w' := by
  obtain ⟨fP0, hf0⟩ : ∃ f, lP0.take 3 = f := ⟨_, rfl⟩
  obtain ⟨gP0, hg0⟩ : ∃ g, rP0.take 3 = g := ⟨_, rfl⟩
  obtain ⟨a, hq0⟩ : ∃ q, lrat nP0 fP0 gP0 = q := ⟨_, rfl⟩
  have hs0 : Qsz a 3 := hq0 ▸ few_qsz nP0 3 hf0 hg0 hL0 hM0 (by decide)
  have hp0 := few_psz nP0 3 hf0 hg0 hL0 hM0 (by decide)
  have hlim0 := Lib.hid hL0
  have hlimd0 := Lib.hid hM0
  have hlen0 := Lib.hid hN0
  have hlend0 := Lib.hid hO0
  obtain ⟨AP0, cP0, eP0, -, -⟩ := hP0.open_
  subst eP0
  obtain ⟨BP0, dP0, eP0, -, -⟩ := kP0.open_
  subst eP0
  clear hL0 hM0 hN0 hO0
  obtain ⟨fP1, hf1⟩ : ∃ f, lP1.take 3 = f := ⟨_, rfl⟩
  obtain ⟨gP1, hg1⟩ : ∃ g, rP1.take 3 = g := ⟨_, rfl⟩
  obtain ⟨b, hq1⟩ : ∃ q, lrat nP1 fP1 gP1 = q := ⟨_, rfl⟩
  have hs1 : Qsz b 3 := hq1 ▸ few_qsz nP1 3 hf1 hg1 hL1 hM1 (by decide)
  have hp1 := few_psz nP1 3 hf1 hg1 hL1 hM1 (by decide)
  have hlim1 := Lib.hid hL1
  have hlimd1 := Lib.hid hM1
  have hlen1 := Lib.hid hN1
  have hlend1 := Lib.hid hO1
  obtain ⟨AP1, cP1, eP1, -, -⟩ := hP1.open_
  subst eP1
  obtain ⟨BP1, dP1, eP1, -, -⟩ := kP1.open_
  subst eP1
  clear hL1 hM1 hN1 hO1
  go_enter Tryz.func3, Tryz.ntmps3
  go_upto_region 1 with fail
  have HB := Below.refl w.heap.size w
  have z0 : w.heap.size = w.heap.size := rfl
  have D0 := Box3.new w 26 (.bool nP0) (.slice AP0 lP0.length cP0) (.slice BP0 rP0.length dP0)
  rw [z0] at D0
  replace HB := HB.alloc (by rw [z0]; omega) (.cells #[.bool nP0, .slice AP0 lP0.length cP0, .slice BP0 rP0.length dP0] 26)
  have z1 : (w.alloc (.cells #[.bool nP0, .slice AP0 lP0.length cP0, .slice BP0 rP0.length dP0] 26)).heap.size = w.heap.size + 1 := by rw [World.size_alloc, z0]
  generalize w.alloc (.cells #[.bool nP0, .slice AP0 lP0.length cP0, .slice BP0 rP0.length dP0] 26) = u0 at *
  have D1 := Box3.new u0 26 (.bool nP1) (.slice AP1 lP1.length cP1) (.slice BP1 rP1.length dP1)
  rw [z1] at D1
  replace D0 := D0.alloc (.cells #[.bool nP1, .slice AP1 lP1.length cP1, .slice BP1 rP1.length dP1] 26)
  replace HB := HB.alloc (by rw [z1]; omega) (.cells #[.bool nP1, .slice AP1 lP1.length cP1, .slice BP1 rP1.length dP1] 26)
  have z2 : (u0.alloc (.cells #[.bool nP1, .slice AP1 lP1.length cP1, .slice BP1 rP1.length dP1] 26)).heap.size = w.heap.size + 1 + 1 := by rw [World.size_alloc, z1]
  generalize u0.alloc (.cells #[.bool nP1, .slice AP1 lP1.length cP1, .slice BP1 rP1.length dP1] 26) = u1 at *
  clear z0 z1 z2
  replace HB := Lib.hid HB
  replace D0 := Lib.hid D0
  have SN0 := Lib.hid (hP0.below HB.out)
  have SD0 := Lib.hid (kP0.below HB.out)
  clear hP0 kP0
  replace D1 := Lib.hid D1
  have SN1 := Lib.hid (hP1.below HB.out)
  have SD1 := Lib.hid (kP1.below HB.out)
  clear hP1 kP1
  have HL := Lib.hid hlen
  clear hlen
  refine wp_region_going 4 [] ([fun vq _ => vq = .agg #[.bool nP0, .slice AP0 lP0.length cP0, .slice BP0 rP0.length dP0],
      fun vq wq => QL wq vq nP0 fP0 gP0,
      fun vq _ => vq = .agg #[.bool nP1, .slice AP1 lP1.length cP1, .slice BP1 rP1.length dP1],
      fun vq wq => QL wq vq nP1 fP1 gP1]) (by kernel_rfl) (by kernel_rfl) (by decide) (by kernel_rfl) (by kernel_rfl) ?_ ?_ ?_
  · intro j hj; cases hj
  · refine po rfl (fun lq aq wq hk hr K hK => ?_) ?_
    · have B2 : ev aq (.tmp 2) = .pointer (some ⟨w.heap.size, 0, none⟩) := hk.base 2 (by kernel_rfl) rfl
      have hb := grows_of hk.ext
      exact vc hK (op_load3 2 _ B2 (D0.out.below hb)) (fun w2 h2 => rfl)
    refine po rfl (fun lq aq wq hk hr K hK => ?_) ?_
    · have E0 : ev aq (.tmp 7) = .agg #[.bool nP0, .slice AP0 lP0.length cP0, .slice BP0 rP0.length dP0] := hk.dc hr 0 (by kernel_rfl) fun _ _ h => h
      exact yc hK (by go_simp) (few3_v wq 3 (i := 3) rfl (SN0.out.below (grows_of hk.ext)) (SD0.out.below (grows_of hk.ext)) hlim0.out hlen0.out hlimd0.out hlend0.out (by decide) hf0 hg0) (fun u w1 hu w2 h2 => (hu).grow h2)
    refine po rfl (fun lq aq wq hk hr K hK => ?_) ?_
    · have B3 : ev aq (.tmp 3) = .pointer (some ⟨w.heap.size + 1, 0, none⟩) := hk.base 3 (by kernel_rfl) rfl
      have hb := grows_of hk.ext
      exact vc hK (op_load3 3 _ B3 (D1.out.below hb)) (fun w2 h2 => rfl)
    refine po rfl (fun lq aq wq hk hr K hK => ?_) ?_
    · have E2 : ev aq (.tmp 9) = .agg #[.bool nP1, .slice AP1 lP1.length cP1, .slice BP1 rP1.length dP1] := hk.dc hr 2 (by kernel_rfl) fun _ _ h => h
      exact yc hK (by go_simp) (few3_v wq 3 (i := 3) rfl (SN1.out.below (grows_of hk.ext)) (SD1.out.below (grows_of hk.ext)) hlim1.out hlen1.out hlimd1.out hlend1.out (by decide) hf1 hg1) (fun u w1 hu w2 h2 => (hu).grow h2)
    exact AllOps.nil
  intro V x1 hG hV hap
  have r1 : QL x1 (V 1) nP0 fP0 gP0 := hV 1 (by decide)
  have r3 : QL x1 (V 3) nP1 fP1 gP1 := hV 3 (by decide)
  clear hV hap
  simp only [List.take_succ_cons, List.take_zero, List.drop_succ_cons, List.drop_zero, putAll, Act.put, List.setIfInBounds_toArray, List.set_cons_zero, List.set_cons_succ]
  have hb := grows_of hG
  obtain ⟨Am2, cm2, Bm2, dm2, em2, sm2, tm2, hlm2, hmm2⟩ := r1
  simp only [em2]
  clear em2
  obtain ⟨Am3, cm3, Bm3, dm3, em3, sm3, tm3, hlm3, hmm3⟩ := r3
  simp only [em3]
  clear em3
  clear hG
  replace D0 := D0.out.below hb
  refine wpList_of_skip rfl (op_store3 2 8 _ rfl rfl D0) ?_
  replace D1 := Lib.hid (put3_far (x' := .bool nP0) (y' := .slice Am2 fP0.length cm2) (z' := .slice Bm2 gP0.length dm2) (D1.out.below hb) (show w.heap.size + 1 ≠ w.heap.size by omega))
  replace SN1 := Lib.hid ((SN1.out.below hb).put3 D0 (.bool nP0) (.slice Am2 fP0.length cm2) (.slice Bm2 gP0.length dm2))
  replace SD1 := Lib.hid ((SD1.out.below hb).put3 D0 (.bool nP0) (.slice Am2 fP0.length cm2) (.slice Bm2 gP0.length dm2))
  replace sm3 := sm3.put3 D0 (.bool nP0) (.slice Am2 fP0.length cm2) (.slice Bm2 gP0.length dm2)
  replace tm3 := tm3.put3 D0 (.bool nP0) (.slice Am2 fP0.length cm2) (.slice Bm2 gP0.length dm2)
  replace SN0 := Lib.hid (sm2.put3 D0 (.bool nP0) (.slice Am2 fP0.length cm2) (.slice Bm2 gP0.length dm2))
  replace SD0 := Lib.hid (tm2.put3 D0 (.bool nP0) (.slice Am2 fP0.length cm2) (.slice Bm2 gP0.length dm2))
  replace HB := Lib.hid (put3_below (x' := .bool nP0) (y' := .slice Am2 fP0.length cm2) (z' := .slice Bm2 gP0.length dm2) (HB.out.trans (Below.mono hb HB.out.size)) (show w.heap.size ≤ w.heap.size by omega))
  replace D0 := Lib.hid (put3_own (x' := .bool nP0) (y' := .slice Am2 fP0.length cm2) (z' := .slice Bm2 gP0.length dm2) D0)
  clear hb sm2 tm2
  generalize put3 x1 w.heap.size (.bool nP0) (.slice Am2 fP0.length cm2) (.slice Bm2 gP0.length dm2) = y4 at *
  have hkm2 : szz (sg nP0 (val fP0)) ≤ 1000 := by unfold szz; rw [sg_natAbs]; exact Nat.le_trans (sz_num SN0.out) hlm2
  have hb := Below.refl (y4).heap.size (y4)
  replace D1 := D1.out.below hb
  refine wpList_of_skip rfl (op_store3 3 10 _ rfl rfl D1) ?_
  replace D0 := Lib.hid (put3_far (x' := .bool nP1) (y' := .slice Am3 fP1.length cm3) (z' := .slice Bm3 gP1.length dm3) (D0.out.below hb) (show w.heap.size ≠ w.heap.size + 1 by omega))
  replace SN0 := Lib.hid ((SN0.out.below hb).put3 D1 (.bool nP1) (.slice Am3 fP1.length cm3) (.slice Bm3 gP1.length dm3))
  replace SD0 := Lib.hid ((SD0.out.below hb).put3 D1 (.bool nP1) (.slice Am3 fP1.length cm3) (.slice Bm3 gP1.length dm3))
  replace SN1 := Lib.hid (sm3.put3 D1 (.bool nP1) (.slice Am3 fP1.length cm3) (.slice Bm3 gP1.length dm3))
  replace SD1 := Lib.hid (tm3.put3 D1 (.bool nP1) (.slice Am3 fP1.length cm3) (.slice Bm3 gP1.length dm3))
  replace HB := Lib.hid (put3_below (x' := .bool nP1) (y' := .slice Am3 fP1.length cm3) (z' := .slice Bm3 gP1.length dm3) (HB.out.trans (Below.mono hb HB.out.size)) (show w.heap.size ≤ w.heap.size + 1 by omega))
  replace D1 := Lib.hid (put3_own (x' := .bool nP1) (y' := .slice Am3 fP1.length cm3) (z' := .slice Bm3 gP1.length dm3) D1)
  clear hb sm3 tm3
  generalize put3 y4 (w.heap.size + 1) (.bool nP1) (.slice Am3 fP1.length cm3) (.slice Bm3 gP1.length dm3) = y5 at *
  have hkm3 : szz (sg nP1 (val fP1)) ≤ 1000 := by unfold szz; rw [sg_natAbs]; exact Nat.le_trans (sz_num SN1.out) hlm3
  obtain ⟨q9, k9, hz9, hn9⟩ : ∃ (q : Rat) (k : Int), (b.num = 0 → q = 0 ∧ k = 3) ∧ (b.num ≠ 0 → q = a / b ∧ k = 0) := by
    rcases Decidable.em (b.num = 0) with h | h
    · exact ⟨0, 3, fun _ => ⟨rfl, rfl⟩, fun h2 => absurd h h2⟩
    · exact ⟨a / b, 0, fun h2 => absurd h2 h, fun _ => ⟨rfl, rfl⟩⟩
  obtain ⟨tz, htz⟩ : ∃ t, decide (b.num = 0) = t := ⟨_, rfl⟩
  replace hz9 := Lib.hid hz9
  replace hn9 := Lib.hid hn9
  replace htz := Lib.hid htz
  go_upto_region 2 with fail
  have lw0 := D0.out.lt
  have lw1 := D1.out.lt
  refine wp_region_calm 7 [6] ([fun vq wq => QL wq vq nP0 fP0 gP0,
      fun vq wq => QL wq vq nP1 fP1 gP1,
      fun vq wq => ∃ u0, vq = .tuple #[u0, .int .i64 k9] ∧ RV wq u0 q9,
      fun vq wq => ∃ u0, vq = .tuple #[u0, .int .i64 k9] ∧ RV wq u0 q9,
      fun vq wq => RV wq vq q9,
      fun vq _ => vq = .int .i64 k9,
      fun vq wq => ∃ bq, vq = .pointer (some ⟨bq, 0, none⟩) ∧ BoxN wq bq 26 #[.bool false, .slice none 0 0, .slice none 0 0] ∧ (y5).heap.size ≤ bq]) (by kernel_rfl) (by decide) ?_ ?_ ?_
  · intro j hj v w h
    simp only [List.mem_cons, List.not_mem_nil, or_false] at hj
    subst hj
    all_goals (obtain ⟨b, rfl, hB, _⟩ := h; exact hB.lt)
  · refine po rfl (fun lq aq wq hk hr K hK => ?_) ?_
    · have B2 : ev aq (.tmp 2) = .pointer (some ⟨w.heap.size, 0, none⟩) := hk.base 2 (by kernel_rfl) rfl
      have hb : Below _ _ _ := hk.ext
      exact vc hK (op_load3 2 _ B2 (D0.out.below hb)) (fun w2 h2 => QL.grow ⟨_, _, _, _, rfl, (SN0.out.below hb), (SD0.out.below hb), hlm2, hmm2⟩ h2)
    refine po rfl (fun lq aq wq hk hr K hK => ?_) ?_
    · have B3 : ev aq (.tmp 3) = .pointer (some ⟨w.heap.size + 1, 0, none⟩) := hk.base 3 (by kernel_rfl) rfl
      have hb : Below _ _ _ := hk.ext
      exact vc hK (op_load3 3 _ B3 (D1.out.below hb)) (fun w2 h2 => QL.grow ⟨_, _, _, _, rfl, (SN1.out.below hb), (SD1.out.below hb), hlm3, hmm3⟩ h2)
    refine po rfl (fun lq aq wq hk hr K hK => ?_) ?_
    · obtain ⟨v0, E0, r0⟩ := hk.dp hr 0 12 (by kernel_rfl)
      have r0 : QL wq v0 nP0 fP0 gP0 := r0
      obtain ⟨v1, E1, r1⟩ := hk.dp hr 1 13 (by kernel_rfl)
      have r1 : QL wq v1 nP1 fP1 gP1 := r1
      exact yc hK (by go_simp) (qdivA_v wq ((r0).qv.to hq0) ((r1).qv.to hq1) (hs0.mono (by decide)) (hs1.mono (by decide)) hz9.out hn9.out) (fun u w1 hu w2 h2 => (let ⟨u0, e0, h0⟩ := hu; ⟨u0, e0, (h0).grow h2⟩))
    refine po rfl (fun lq aq wq hk hr K hK => ?_) ?_
    · obtain ⟨v2, E2, r2⟩ := hk.dp hr 2 14 (by kernel_rfl)
      have r2 : ∃ u0, v2 = .tuple #[u0, .int .i64 k9] ∧ RV wq u0 q9 := r2
      exact vc hK (by go_simp) (fun w2 h2 => (let ⟨u0, e0, h0⟩ := r2; ⟨u0, e0, (h0).grow h2⟩))
    refine po rfl (fun lq aq wq hk hr K hK => ?_) ?_
    · obtain ⟨v3, E3, r3⟩ := hk.dp hr 3 11 (by kernel_rfl)
      have r3 : ∃ u0, v3 = .tuple #[u0, .int .i64 k9] ∧ RV wq u0 q9 := r3
      obtain ⟨u0, rfl, h0⟩ := r3
      exact vc hK (by go_simp) (fun w2 h2 => (h0).grow h2)
    refine po rfl (fun lq aq wq hk hr K hK => ?_) ?_
    · obtain ⟨v3, E3, r3⟩ := hk.dp hr 3 11 (by kernel_rfl)
      have r3 : ∃ u0, v3 = .tuple #[u0, .int .i64 k9] ∧ RV wq u0 q9 := r3
      obtain ⟨u0, rfl, h0⟩ := r3
      exact vc hK (by go_simp) (fun w2 h2 => rfl)
    refine po rfl (fun lq aq wq hk hr K hK => ?_) ?_
    · exact wp_of_value (by go_simp) (hK.out _ _ ((Grows.refl _).alloc _) (fun w2 h2 => ⟨_, rfl, (BoxN.new wq 26 _).below h2, hk.ext.size⟩) (fun _ => Nat.le_refl _))
    exact AllOps.nil
  intro V x6 hG hV hap
  have r4 : RV x6 (V 4) q9 := hV 4 (by decide)
  have r5 : (V 5) = .int .i64 k9 := hV 5 (by decide)
  have r6 : ∃ bq, (V 6) = .pointer (some ⟨bq, 0, none⟩) ∧ BoxN x6 bq 26 #[.bool false, .slice none 0 0, .slice none 0 0] ∧ (y5).heap.size ≤ bq := hV 6 (by decide)
  clear hV
  simp only [List.take_succ_cons, List.take_zero, List.drop_succ_cons, List.drop_zero, putAll, Act.put, List.setIfInBounds_toArray, List.set_cons_zero, List.set_cons_succ]
  have hb := (show Below _ _ _ from hG)
  obtain ⟨bq, eq, Dq, gq⟩ := r6
  obtain ⟨nq, Aq, kq, cq, Bq, jq, dq, eq9, sq, tq, hdq⟩ := r4
  simp only [eq, eq9, r5]
  clear eq eq9 hap hG r5
  replace Dq : Box3 _ bq 26 (.bool false) (.slice none 0 0) (.slice none 0 0) := Dq
  refine wpList_of_skip rfl (op_store3 5 15 _ rfl rfl Dq) ?_
  have hB := put3_below (x' := .bool nq) (y' := .slice Aq kq cq) (z' := .slice Bq jq dq) hb gq
  replace sq := sq.put3 Dq (.bool nq) (.slice Aq kq cq) (.slice Bq jq dq)
  replace tq := tq.put3 Dq (.bool nq) (.slice Aq kq cq) (.slice Bq jq dq)
  replace Dq := put3_own (x' := .bool nq) (y' := .slice Aq kq cq) (z' := .slice Bq jq dq) Dq
  clear hb
  generalize put3 x6 bq (.bool nq) (.slice Aq kq cq) (.slice Bq jq dq) = y7 at *
  replace D0 := Lib.hid (D0.out.below hB)
  replace SN0 := Lib.hid (SN0.out.below hB)
  replace SD0 := Lib.hid (SD0.out.below hB)
  replace D1 := Lib.hid (D1.out.below hB)
  replace SN1 := Lib.hid (SN1.out.below hB)
  replace SD1 := Lib.hid (SD1.out.below hB)
  replace HB := Lib.hid (HB.out.trans (Below.mono hB HB.out.size))
  replace lw0 := Nat.lt_of_lt_of_le lw0 gq
  replace lw1 := Nat.lt_of_lt_of_le lw1 gq
  replace Dq := Lib.hid Dq
  have SNq := Lib.hid sq
  have SDq := Lib.hid tq
  clear hB gq sq tq
  go_upto_region 3 with fail
  refine wp_region_calm 2 [] ([fun vq wq => QL wq vq nP1 fP1 gP1,
      fun vq _ => vq = .bool tz]) (by kernel_rfl) (by decide) ?_ ?_ ?_
  · intro j hj; cases hj
  · refine po rfl (fun lq aq wq hk hr K hK => ?_) ?_
    · have B3 : ev aq (.tmp 3) = .pointer (some ⟨w.heap.size + 1, 0, none⟩) := hk.base 3 (by kernel_rfl) rfl
      have hb : Below _ _ _ := hk.ext
      exact vc hK (op_load3 3 _ B3 (D1.out.below hb)) (fun w2 h2 => QL.grow ⟨_, _, _, _, rfl, (SN1.out.below hb), (SD1.out.below hb), hlm3, hmm3⟩ h2)
    refine po rfl (fun lq aq wq hk hr K hK => ?_) ?_
    · obtain ⟨v0, E0, r0⟩ := hk.dp hr 0 17 (by kernel_rfl)
      have r0 : QL wq v0 nP1 fP1 gP1 := r0
      exact yc hK (by go_simp) (rzeroL_v wq r0 hq1 htz.out) (fun u w1 hu w2 h2 => hu)
    exact AllOps.nil
  intro V x8 hG hV hap
  have r1 : (V 1) = .bool tz := hV 1 (by decide)
  clear hV hap
  simp only [List.take_succ_cons, List.take_nil, List.drop_succ_cons, List.drop_nil, putAll, Act.put, List.setIfInBounds_toArray, List.set_cons_zero, List.set_cons_succ]
  have hb := (show Below _ _ _ from hG)
  replace D0 := Lib.hid (D0.out.below hb)
  replace SN0 := Lib.hid (SN0.out.below hb)
  replace SD0 := Lib.hid (SD0.out.below hb)
  replace D1 := Lib.hid (D1.out.below hb)
  replace SN1 := Lib.hid (SN1.out.below hb)
  replace SD1 := Lib.hid (SD1.out.below hb)
  replace Dq := Lib.hid (Dq.out.below hb)
  replace SNq := Lib.hid (SNq.out.below hb)
  replace SDq := Lib.hid (SDq.out.below hb)
  replace HB := Lib.hid (HB.out.trans (Below.mono hb HB.out.size))
  clear hb hG
  rw [r1]
  clear r1
  skip
  go_upto_if 18 with fail
  go_cut [] from 8 (fun wx => Hid (Below x8.heap.size x8 wx))
  case first =>
    have HB0 := HB
    replace HB := Lib.hid (Below.refl x8.heap.size x8)
    rcases tz with _ | _
    · skip
      have hb0 := of_decide_eq_false htz.out
      obtain ⟨hq9, hk9⟩ := hn9.out hb0
      subst hk9
      clear hz9 hn9
      replace hq9 := Lib.hid hq9
      go_upto_region 6 with fail
      refine wp_region_going 10 [] ([fun vq _ => vq = .int .i64 0,
          fun vq _ => vq = .bool false,
          fun vq _ => vq = .bool false,
          fun vq wq => RV wq vq q9,
          fun vq wq => QL wq vq nP0 fP0 gP0,
          fun vq wq => QL wq vq nP1 fP1 gP1,
          fun vq wq => RV wq vq ((a / b)),
          fun vq _ => vq = .bool true,
          fun vq _ => vq = .bool false,
          fun vq _ => vq = .bool false]) (by kernel_rfl) (by kernel_rfl) (by decide) (by kernel_rfl) (by kernel_rfl) ?_ ?_ ?_
      · intro j hj; cases hj
      · refine po rfl (fun lq aq wq hk hr K hK => ?_) ?_
        · have B6 : ev aq (.tmp 6) = .int .i64 0 := hk.base 6 (by kernel_rfl) rfl
          exact vc hK (by go_simp) (fun w2 h2 => rfl)
        refine po rfl (fun lq aq wq hk hr K hK => ?_) ?_
        · have E0 : ev aq (.tmp 28) = .int .i64 0 := hk.dc hr 0 (by kernel_rfl) fun _ _ h => h
          exact vc hK (by go_simp) (fun w2 h2 => rfl)
        refine po rfl (fun lq aq wq hk hr K hK => ?_) ?_
        · have E1 : ev aq (.tmp 29) = .bool false := hk.dc hr 1 (by kernel_rfl) fun _ _ h => h
          exact vc hK (by go_simp) (fun w2 h2 => rfl)
        refine pl 2 30 false rfl (by kernel_rfl) (fun _ _ h => h) (fun lq aq wq hk hr K hK => ?_) ?_
        · have B5 : ev aq (.tmp 5) = .pointer (some ⟨bq, 0, none⟩) := hk.base 5 (by kernel_rfl) rfl
          have hb := grows_of hk.ext
          exact vc hK (op_load3 5 _ B5 (Dq.out.below hb)) (fun w2 h2 => RV.grow ⟨_, _, _, _, _, _, _, rfl, (SNq.out.below hb), (SDq.out.below hb), hdq⟩ h2)
        refine pl 2 30 false rfl (by kernel_rfl) (fun _ _ h => h) (fun lq aq wq hk hr K hK => ?_) ?_
        · have B2 : ev aq (.tmp 2) = .pointer (some ⟨w.heap.size, 0, none⟩) := hk.base 2 (by kernel_rfl) rfl
          have hb := grows_of hk.ext
          exact vc hK (op_load3 2 _ B2 (D0.out.below hb)) (fun w2 h2 => QL.grow ⟨_, _, _, _, rfl, (SN0.out.below hb), (SD0.out.below hb), hlm2, hmm2⟩ h2)
        refine pl 2 30 false rfl (by kernel_rfl) (fun _ _ h => h) (fun lq aq wq hk hr K hK => ?_) ?_
        · have B3 : ev aq (.tmp 3) = .pointer (some ⟨w.heap.size + 1, 0, none⟩) := hk.base 3 (by kernel_rfl) rfl
          have hb := grows_of hk.ext
          exact vc hK (op_load3 3 _ B3 (D1.out.below hb)) (fun w2 h2 => QL.grow ⟨_, _, _, _, rfl, (SN1.out.below hb), (SD1.out.below hb), hlm3, hmm3⟩ h2)
        refine pl 2 30 false rfl (by kernel_rfl) (fun _ _ h => h) (fun lq aq wq hk hr K hK => ?_) ?_
        · obtain ⟨v4, E4, r4⟩ := hk.dp hr 4 32 (by kernel_rfl)
          have r4 : QL wq v4 nP0 fP0 gP0 := r4
          obtain ⟨v5, E5, r5⟩ := hk.dp hr 5 33 (by kernel_rfl)
          have r5 : QL wq v5 nP1 fP1 gP1 := r5
          exact yc hK (by go_simp) (rdivL_v wq r4 r5 hq0 hq1 hp0 hp1 hb0) (fun u w1 hu w2 h2 => (hu).grow h2)
        refine pl 2 30 false rfl (by kernel_rfl) (fun _ _ h => h) (fun lq aq wq hk hr K hK => ?_) ?_
        · obtain ⟨v3, E3, r3⟩ := hk.dp hr 3 31 (by kernel_rfl)
          have r3 : RV wq v3 q9 := r3
          obtain ⟨v6, E6, r6⟩ := hk.dp hr 6 34 (by kernel_rfl)
          have r6 : RV wq v6 ((a / b)) := r6
          exact yc hK (by go_simp) (lsameR_v wq r3 r6 (t := true) (decide_eq_true hq9.out)) (fun u w1 hu w2 h2 => hu)
        refine pl 2 30 false rfl (by kernel_rfl) (fun _ _ h => h) (fun lq aq wq hk hr K hK => ?_) ?_
        · have E7 : ev aq (.tmp 35) = .bool true := hk.dc hr 7 (by kernel_rfl) fun _ _ h => h
          exact vc hK (by go_simp) (fun w2 h2 => rfl)
        refine po rfl (fun lq aq wq hk hr K hK => ?_) ?_
        · have E2 : ev aq (.tmp 30) = .bool false := hk.dc hr 2 (by kernel_rfl) fun _ _ h => h
          have E8 : ev aq (.tmp 36) = .bool false := hk.dc hr 8 (by kernel_rfl) fun _ _ h => h
          exact vc hK (by go_simp) (fun w2 h2 => rfl)
        exact AllOps.nil
      intro V x9 hG hV hap
      have r9 : (V 9) = .bool false := hV 9 (by decide)
      clear hV hap
      simp only [List.take_succ_cons, List.take_nil, List.drop_succ_cons, List.drop_nil, putAll, Act.put, List.setIfInBounds_toArray, List.set_cons_zero, List.set_cons_succ]
      have hb := grows_of hG
      replace D0 := Lib.hid (D0.out.below hb)
      replace SN0 := Lib.hid (SN0.out.below hb)
      replace SD0 := Lib.hid (SD0.out.below hb)
      replace D1 := Lib.hid (D1.out.below hb)
      replace SN1 := Lib.hid (SN1.out.below hb)
      replace SD1 := Lib.hid (SD1.out.below hb)
      replace Dq := Lib.hid (Dq.out.below hb)
      replace SNq := Lib.hid (SNq.out.below hb)
      replace SDq := Lib.hid (SDq.out.below hb)
      replace HB := Lib.hid (HB.out.trans (Below.mono hb HB.out.size))
      clear hb hG
      rw [r9]
      clear r9
      go_wp2_with fail
      go_meet
      exact HB
    · skip
      have hb0 := of_decide_eq_true htz.out
      obtain ⟨hq9, hk9⟩ := hz9.out hb0
      subst hk9
      clear hz9 hn9
      replace hq9 := Lib.hid hq9
      go_upto_region 4 with fail
      refine wp_region_going 9 [] ([fun vq _ => vq = .int .i64 3,
          fun vq _ => vq = .bool false,
          fun vq _ => vq = .bool false,
          fun vq wq => RV wq vq q9,
          fun vq wq => QV wq vq ((0 : Rat)),
          fun vq wq => RV wq vq ((0 : Rat)),
          fun vq _ => vq = .bool true,
          fun vq _ => vq = .bool false,
          fun vq _ => vq = .bool false]) (by kernel_rfl) (by kernel_rfl) (by decide) (by kernel_rfl) (by kernel_rfl) ?_ ?_ ?_
      · intro j hj; cases hj
      · refine po rfl (fun lq aq wq hk hr K hK => ?_) ?_
        · have B6 : ev aq (.tmp 6) = .int .i64 3 := hk.base 6 (by kernel_rfl) rfl
          exact vc hK (by go_simp) (fun w2 h2 => rfl)
        refine po rfl (fun lq aq wq hk hr K hK => ?_) ?_
        · have E0 : ev aq (.tmp 19) = .int .i64 3 := hk.dc hr 0 (by kernel_rfl) fun _ _ h => h
          exact vc hK (by go_simp) (fun w2 h2 => rfl)
        refine po rfl (fun lq aq wq hk hr K hK => ?_) ?_
        · have E1 : ev aq (.tmp 20) = .bool false := hk.dc hr 1 (by kernel_rfl) fun _ _ h => h
          exact vc hK (by go_simp) (fun w2 h2 => rfl)
        refine pl 2 21 false rfl (by kernel_rfl) (fun _ _ h => h) (fun lq aq wq hk hr K hK => ?_) ?_
        · have B5 : ev aq (.tmp 5) = .pointer (some ⟨bq, 0, none⟩) := hk.base 5 (by kernel_rfl) rfl
          have hb := grows_of hk.ext
          exact vc hK (op_load3 5 _ B5 (Dq.out.below hb)) (fun w2 h2 => RV.grow ⟨_, _, _, _, _, _, _, rfl, (SNq.out.below hb), (SDq.out.below hb), hdq⟩ h2)
        refine pl 2 21 false rfl (by kernel_rfl) (fun _ _ h => h) (fun lq aq wq hk hr K hK => ?_) ?_
        · exact vc hK (by go_simp) (fun w2 h2 => (QV.zero _).grow h2)
        refine pl 2 21 false rfl (by kernel_rfl) (fun _ _ h => h) (fun lq aq wq hk hr K hK => ?_) ?_
        · obtain ⟨v4, E4, r4⟩ := hk.dp hr 4 23 (by kernel_rfl)
          have r4 : QV wq v4 ((0 : Rat)) := r4
          exact yc hK (by go_simp) (rmadeQ_v wq r4) (fun u w1 hu w2 h2 => (hu).grow h2)
        refine pl 2 21 false rfl (by kernel_rfl) (fun _ _ h => h) (fun lq aq wq hk hr K hK => ?_) ?_
        · obtain ⟨v3, E3, r3⟩ := hk.dp hr 3 22 (by kernel_rfl)
          have r3 : RV wq v3 q9 := r3
          obtain ⟨v5, E5, r5⟩ := hk.dp hr 5 24 (by kernel_rfl)
          have r5 : RV wq v5 ((0 : Rat)) := r5
          exact yc hK (by go_simp) (lsameR_v wq r3 r5 (t := true) (decide_eq_true hq9.out)) (fun u w1 hu w2 h2 => hu)
        refine pl 2 21 false rfl (by kernel_rfl) (fun _ _ h => h) (fun lq aq wq hk hr K hK => ?_) ?_
        · have E6 : ev aq (.tmp 25) = .bool true := hk.dc hr 6 (by kernel_rfl) fun _ _ h => h
          exact vc hK (by go_simp) (fun w2 h2 => rfl)
        refine po rfl (fun lq aq wq hk hr K hK => ?_) ?_
        · have E2 : ev aq (.tmp 21) = .bool false := hk.dc hr 2 (by kernel_rfl) fun _ _ h => h
          have E7 : ev aq (.tmp 26) = .bool false := hk.dc hr 7 (by kernel_rfl) fun _ _ h => h
          exact vc hK (by go_simp) (fun w2 h2 => rfl)
        exact AllOps.nil
      intro V x9 hG hV hap
      have r8 : (V 8) = .bool false := hV 8 (by decide)
      clear hV hap
      simp only [List.take_succ_cons, List.take_nil, List.drop_succ_cons, List.drop_nil, putAll, Act.put, List.setIfInBounds_toArray, List.set_cons_zero, List.set_cons_succ]
      have hb := grows_of hG
      replace D0 := Lib.hid (D0.out.below hb)
      replace SN0 := Lib.hid (SN0.out.below hb)
      replace SD0 := Lib.hid (SD0.out.below hb)
      replace D1 := Lib.hid (D1.out.below hb)
      replace SN1 := Lib.hid (SN1.out.below hb)
      replace SD1 := Lib.hid (SD1.out.below hb)
      replace Dq := Lib.hid (Dq.out.below hb)
      replace SNq := Lib.hid (SNq.out.below hb)
      replace SDq := Lib.hid (SDq.out.below hb)
      replace HB := Lib.hid (HB.out.trans (Below.mono hb HB.out.size))
      clear hb hG
      rw [r8]
      clear r8
      go_wp2_with fail
      go_meet
      exact HB
  case rest =>
    have hcb := hcut.out
    clear hcut hz9 hn9 htz
    replace D0 := Lib.hid (D0.out.below hcb)
    replace SN0 := Lib.hid (SN0.out.below hcb)
    replace SD0 := Lib.hid (SD0.out.below hcb)
    replace D1 := Lib.hid (D1.out.below hcb)
    replace SN1 := Lib.hid (SN1.out.below hcb)
    replace SD1 := Lib.hid (SD1.out.below hcb)
    replace Dq := Lib.hid (Dq.out.below hcb)
    replace SNq := Lib.hid (SNq.out.below hcb)
    replace SDq := Lib.hid (SDq.out.below hcb)
    replace HB := Lib.hid (HB.out.trans (Below.mono hcb HB.out.size))
    clear hcb
    obtain ⟨t, ht⟩ : ∃ t, lright nP0 fP0 gP0 = t := ⟨_, rfl⟩
    replace ht := Lib.hid ht
    go_upto_region 8 with fail
    refine wp_region_going 43 [] ([fun vq wq => QL wq vq nP0 fP0 gP0,
        fun vq _ => vq = .bool t,
        fun vq wq => QL wq vq nP0 fP0 gP0,
        fun vq _ => vq = .bool t,
        fun vq _ => vq = .bool false,
        fun vq _ => vq = .bool false,
        fun vq wq => QL wq vq nP0 fP0 gP0,
        fun vq wq => RV wq vq ((-a)),
        fun vq wq => QL wq vq nP0 fP0 gP0,
        fun vq wq => RV wq vq ((-a)),
        fun vq _ => vq = .bool true,
        fun vq _ => vq = .bool false,
        fun vq _ => vq = .bool false,
        fun vq _ => vq = .bool false,
        fun vq wq => QL wq vq nP0 fP0 gP0,
        fun vq wq => QL wq vq nP1 fP1 gP1,
        fun vq wq => RV wq vq ((a + b)),
        fun vq wq => QL wq vq nP0 fP0 gP0,
        fun vq wq => QL wq vq nP1 fP1 gP1,
        fun vq wq => RV wq vq ((a + b)),
        fun vq _ => vq = .bool true,
        fun vq _ => vq = .bool false,
        fun vq _ => vq = .bool false,
        fun vq _ => vq = .bool false,
        fun vq wq => QL wq vq nP0 fP0 gP0,
        fun vq wq => QL wq vq nP1 fP1 gP1,
        fun vq wq => RV wq vq ((a - b)),
        fun vq wq => QL wq vq nP0 fP0 gP0,
        fun vq wq => QL wq vq nP1 fP1 gP1,
        fun vq wq => RV wq vq ((a - b)),
        fun vq _ => vq = .bool true,
        fun vq _ => vq = .bool false,
        fun vq _ => vq = .bool false,
        fun vq _ => vq = .bool false,
        fun vq wq => QL wq vq nP0 fP0 gP0,
        fun vq wq => QL wq vq nP1 fP1 gP1,
        fun vq wq => RV wq vq ((a * b)),
        fun vq wq => QL wq vq nP0 fP0 gP0,
        fun vq wq => QL wq vq nP1 fP1 gP1,
        fun vq wq => RV wq vq ((a * b)),
        fun vq _ => vq = .bool true,
        fun vq _ => vq = .bool false,
        fun vq _ => vq = .bool false]) (by kernel_rfl) (by kernel_rfl) (by decide) (by kernel_rfl) (by kernel_rfl) ?_ ?_ ?_
    · intro j hj; cases hj
    · refine po rfl (fun lq aq wq hk hr K hK => ?_) ?_
      · have B2 : ev aq (.tmp 2) = .pointer (some ⟨w.heap.size, 0, none⟩) := hk.base 2 (by kernel_rfl) rfl
        have hb := grows_of hk.ext
        exact vc hK (op_load3 2 _ B2 (D0.out.below hb)) (fun w2 h2 => QL.grow ⟨_, _, _, _, rfl, (SN0.out.below hb), (SD0.out.below hb), hlm2, hmm2⟩ h2)
      refine po rfl (fun lq aq wq hk hr K hK => ?_) ?_
      · obtain ⟨v0, E0, r0⟩ := hk.dp hr 0 38 (by kernel_rfl)
        have r0 : QL wq v0 nP0 fP0 gP0 := r0
        exact yc hK (by go_simp) (qright_v wq r0 (t := t) ht.out) (fun u w1 hu w2 h2 => hu)
      refine po rfl (fun lq aq wq hk hr K hK => ?_) ?_
      · have B2 : ev aq (.tmp 2) = .pointer (some ⟨w.heap.size, 0, none⟩) := hk.base 2 (by kernel_rfl) rfl
        have hb := grows_of hk.ext
        exact vc hK (op_load3 2 _ B2 (D0.out.below hb)) (fun w2 h2 => QL.grow ⟨_, _, _, _, rfl, (SN0.out.below hb), (SD0.out.below hb), hlm2, hmm2⟩ h2)
      refine po rfl (fun lq aq wq hk hr K hK => ?_) ?_
      · obtain ⟨v2, E2, r2⟩ := hk.dp hr 2 40 (by kernel_rfl)
        have r2 : QL wq v2 nP0 fP0 gP0 := r2
        exact yc hK (by go_simp) (rright_v wq r2 ht.out) (fun u w1 hu w2 h2 => hu)
      refine po rfl (fun lq aq wq hk hr K hK => ?_) ?_
      · have E1 : ev aq (.tmp 39) = .bool t := hk.dc hr 1 (by kernel_rfl) fun _ _ h => h
        have E3 : ev aq (.tmp 41) = .bool t := hk.dc hr 3 (by kernel_rfl) fun _ _ h => h
        exact vc hK (by go_simp) (fun w2 h2 => rfl)
      refine po rfl (fun lq aq wq hk hr K hK => ?_) ?_
      · have E4 : ev aq (.tmp 42) = .bool false := hk.dc hr 4 (by kernel_rfl) fun _ _ h => h
        exact vc hK (by go_simp) (fun w2 h2 => rfl)
      refine pl 5 43 false rfl (by kernel_rfl) (fun _ _ h => h) (fun lq aq wq hk hr K hK => ?_) ?_
      · have B2 : ev aq (.tmp 2) = .pointer (some ⟨w.heap.size, 0, none⟩) := hk.base 2 (by kernel_rfl) rfl
        have hb := grows_of hk.ext
        exact vc hK (op_load3 2 _ B2 (D0.out.below hb)) (fun w2 h2 => QL.grow ⟨_, _, _, _, rfl, (SN0.out.below hb), (SD0.out.below hb), hlm2, hmm2⟩ h2)
      refine pl 5 43 false rfl (by kernel_rfl) (fun _ _ h => h) (fun lq aq wq hk hr K hK => ?_) ?_
      · obtain ⟨v6, E6, r6⟩ := hk.dp hr 6 44 (by kernel_rfl)
        have r6 : QL wq v6 nP0 fP0 gP0 := r6
        exact yc hK (by go_simp) (rneg_v wq ((r6).qv.to hq0)) (fun u w1 hu w2 h2 => (hu).grow h2)
      refine pl 5 43 false rfl (by kernel_rfl) (fun _ _ h => h) (fun lq aq wq hk hr K hK => ?_) ?_
      · have B2 : ev aq (.tmp 2) = .pointer (some ⟨w.heap.size, 0, none⟩) := hk.base 2 (by kernel_rfl) rfl
        have hb := grows_of hk.ext
        exact vc hK (op_load3 2 _ B2 (D0.out.below hb)) (fun w2 h2 => QL.grow ⟨_, _, _, _, rfl, (SN0.out.below hb), (SD0.out.below hb), hlm2, hmm2⟩ h2)
      refine pl 5 43 false rfl (by kernel_rfl) (fun _ _ h => h) (fun lq aq wq hk hr K hK => ?_) ?_
      · obtain ⟨v8, E8, r8⟩ := hk.dp hr 8 46 (by kernel_rfl)
        have r8 : QL wq v8 nP0 fP0 gP0 := r8
        exact yc hK (by go_simp) (rnegQ_v wq ((r8).qv.to hq0)) (fun u w1 hu w2 h2 => (hu).grow h2)
      refine pl 5 43 false rfl (by kernel_rfl) (fun _ _ h => h) (fun lq aq wq hk hr K hK => ?_) ?_
      · obtain ⟨v7, E7, r7⟩ := hk.dp hr 7 45 (by kernel_rfl)
        have r7 : RV wq v7 ((-a)) := r7
        obtain ⟨v9, E9, r9⟩ := hk.dp hr 9 47 (by kernel_rfl)
        have r9 : RV wq v9 ((-a)) := r9
        exact yc hK (by go_simp) (lsameR_v wq r7 r9 (t := true) (decide_eq_true rfl)) (fun u w1 hu w2 h2 => hu)
      refine pl 5 43 false rfl (by kernel_rfl) (fun _ _ h => h) (fun lq aq wq hk hr K hK => ?_) ?_
      · have E10 : ev aq (.tmp 48) = .bool true := hk.dc hr 10 (by kernel_rfl) fun _ _ h => h
        exact vc hK (by go_simp) (fun w2 h2 => rfl)
      refine po rfl (fun lq aq wq hk hr K hK => ?_) ?_
      · have E5 : ev aq (.tmp 43) = .bool false := hk.dc hr 5 (by kernel_rfl) fun _ _ h => h
        have E11 : ev aq (.tmp 49) = .bool false := hk.dc hr 11 (by kernel_rfl) fun _ _ h => h
        exact vc hK (by go_simp) (fun w2 h2 => rfl)
      refine po rfl (fun lq aq wq hk hr K hK => ?_) ?_
      · have E12 : ev aq (.tmp 50) = .bool false := hk.dc hr 12 (by kernel_rfl) fun _ _ h => h
        exact vc hK (by go_simp) (fun w2 h2 => rfl)
      refine pl 13 51 false rfl (by kernel_rfl) (fun _ _ h => h) (fun lq aq wq hk hr K hK => ?_) ?_
      · have B2 : ev aq (.tmp 2) = .pointer (some ⟨w.heap.size, 0, none⟩) := hk.base 2 (by kernel_rfl) rfl
        have hb := grows_of hk.ext
        exact vc hK (op_load3 2 _ B2 (D0.out.below hb)) (fun w2 h2 => QL.grow ⟨_, _, _, _, rfl, (SN0.out.below hb), (SD0.out.below hb), hlm2, hmm2⟩ h2)
      refine pl 13 51 false rfl (by kernel_rfl) (fun _ _ h => h) (fun lq aq wq hk hr K hK => ?_) ?_
      · have B3 : ev aq (.tmp 3) = .pointer (some ⟨w.heap.size + 1, 0, none⟩) := hk.base 3 (by kernel_rfl) rfl
        have hb := grows_of hk.ext
        exact vc hK (op_load3 3 _ B3 (D1.out.below hb)) (fun w2 h2 => QL.grow ⟨_, _, _, _, rfl, (SN1.out.below hb), (SD1.out.below hb), hlm3, hmm3⟩ h2)
      refine pl 13 51 false rfl (by kernel_rfl) (fun _ _ h => h) (fun lq aq wq hk hr K hK => ?_) ?_
      · obtain ⟨v14, E14, r14⟩ := hk.dp hr 14 52 (by kernel_rfl)
        have r14 : QL wq v14 nP0 fP0 gP0 := r14
        obtain ⟨v15, E15, r15⟩ := hk.dp hr 15 53 (by kernel_rfl)
        have r15 : QL wq v15 nP1 fP1 gP1 := r15
        exact yc hK (by go_simp) (qadd_v wq ((r14).qv.to hq0) ((r15).qv.to hq1) (hs0.mono (by decide)) (hs1.mono (by decide))) (fun u w1 hu w2 h2 => (hu).grow h2)
      refine pl 13 51 false rfl (by kernel_rfl) (fun _ _ h => h) (fun lq aq wq hk hr K hK => ?_) ?_
      · have B2 : ev aq (.tmp 2) = .pointer (some ⟨w.heap.size, 0, none⟩) := hk.base 2 (by kernel_rfl) rfl
        have hb := grows_of hk.ext
        exact vc hK (op_load3 2 _ B2 (D0.out.below hb)) (fun w2 h2 => QL.grow ⟨_, _, _, _, rfl, (SN0.out.below hb), (SD0.out.below hb), hlm2, hmm2⟩ h2)
      refine pl 13 51 false rfl (by kernel_rfl) (fun _ _ h => h) (fun lq aq wq hk hr K hK => ?_) ?_
      · have B3 : ev aq (.tmp 3) = .pointer (some ⟨w.heap.size + 1, 0, none⟩) := hk.base 3 (by kernel_rfl) rfl
        have hb := grows_of hk.ext
        exact vc hK (op_load3 3 _ B3 (D1.out.below hb)) (fun w2 h2 => QL.grow ⟨_, _, _, _, rfl, (SN1.out.below hb), (SD1.out.below hb), hlm3, hmm3⟩ h2)
      refine pl 13 51 false rfl (by kernel_rfl) (fun _ _ h => h) (fun lq aq wq hk hr K hK => ?_) ?_
      · obtain ⟨v17, E17, r17⟩ := hk.dp hr 17 55 (by kernel_rfl)
        have r17 : QL wq v17 nP0 fP0 gP0 := r17
        obtain ⟨v18, E18, r18⟩ := hk.dp hr 18 56 (by kernel_rfl)
        have r18 : QL wq v18 nP1 fP1 gP1 := r18
        exact yc hK (by go_simp) (raddL_v wq r17 r18 hq0 hq1 hp0 hp1) (fun u w1 hu w2 h2 => (hu).grow h2)
      refine pl 13 51 false rfl (by kernel_rfl) (fun _ _ h => h) (fun lq aq wq hk hr K hK => ?_) ?_
      · obtain ⟨v16, E16, r16⟩ := hk.dp hr 16 54 (by kernel_rfl)
        have r16 : RV wq v16 ((a + b)) := r16
        obtain ⟨v19, E19, r19⟩ := hk.dp hr 19 57 (by kernel_rfl)
        have r19 : RV wq v19 ((a + b)) := r19
        exact yc hK (by go_simp) (lsameR_v wq r16 r19 (t := true) (decide_eq_true rfl)) (fun u w1 hu w2 h2 => hu)
      refine pl 13 51 false rfl (by kernel_rfl) (fun _ _ h => h) (fun lq aq wq hk hr K hK => ?_) ?_
      · have E20 : ev aq (.tmp 58) = .bool true := hk.dc hr 20 (by kernel_rfl) fun _ _ h => h
        exact vc hK (by go_simp) (fun w2 h2 => rfl)
      refine po rfl (fun lq aq wq hk hr K hK => ?_) ?_
      · have E13 : ev aq (.tmp 51) = .bool false := hk.dc hr 13 (by kernel_rfl) fun _ _ h => h
        have E21 : ev aq (.tmp 59) = .bool false := hk.dc hr 21 (by kernel_rfl) fun _ _ h => h
        exact vc hK (by go_simp) (fun w2 h2 => rfl)
      refine po rfl (fun lq aq wq hk hr K hK => ?_) ?_
      · have E22 : ev aq (.tmp 60) = .bool false := hk.dc hr 22 (by kernel_rfl) fun _ _ h => h
        exact vc hK (by go_simp) (fun w2 h2 => rfl)
      refine pl 23 61 false rfl (by kernel_rfl) (fun _ _ h => h) (fun lq aq wq hk hr K hK => ?_) ?_
      · have B2 : ev aq (.tmp 2) = .pointer (some ⟨w.heap.size, 0, none⟩) := hk.base 2 (by kernel_rfl) rfl
        have hb := grows_of hk.ext
        exact vc hK (op_load3 2 _ B2 (D0.out.below hb)) (fun w2 h2 => QL.grow ⟨_, _, _, _, rfl, (SN0.out.below hb), (SD0.out.below hb), hlm2, hmm2⟩ h2)
      refine pl 23 61 false rfl (by kernel_rfl) (fun _ _ h => h) (fun lq aq wq hk hr K hK => ?_) ?_
      · have B3 : ev aq (.tmp 3) = .pointer (some ⟨w.heap.size + 1, 0, none⟩) := hk.base 3 (by kernel_rfl) rfl
        have hb := grows_of hk.ext
        exact vc hK (op_load3 3 _ B3 (D1.out.below hb)) (fun w2 h2 => QL.grow ⟨_, _, _, _, rfl, (SN1.out.below hb), (SD1.out.below hb), hlm3, hmm3⟩ h2)
      refine pl 23 61 false rfl (by kernel_rfl) (fun _ _ h => h) (fun lq aq wq hk hr K hK => ?_) ?_
      · obtain ⟨v24, E24, r24⟩ := hk.dp hr 24 62 (by kernel_rfl)
        have r24 : QL wq v24 nP0 fP0 gP0 := r24
        obtain ⟨v25, E25, r25⟩ := hk.dp hr 25 63 (by kernel_rfl)
        have r25 : QL wq v25 nP1 fP1 gP1 := r25
        exact yc hK (by go_simp) (qsub_v wq ((r24).qv.to hq0) ((r25).qv.to hq1) (hs0.mono (by decide)) (hs1.mono (by decide))) (fun u w1 hu w2 h2 => (hu).grow h2)
      refine pl 23 61 false rfl (by kernel_rfl) (fun _ _ h => h) (fun lq aq wq hk hr K hK => ?_) ?_
      · have B2 : ev aq (.tmp 2) = .pointer (some ⟨w.heap.size, 0, none⟩) := hk.base 2 (by kernel_rfl) rfl
        have hb := grows_of hk.ext
        exact vc hK (op_load3 2 _ B2 (D0.out.below hb)) (fun w2 h2 => QL.grow ⟨_, _, _, _, rfl, (SN0.out.below hb), (SD0.out.below hb), hlm2, hmm2⟩ h2)
      refine pl 23 61 false rfl (by kernel_rfl) (fun _ _ h => h) (fun lq aq wq hk hr K hK => ?_) ?_
      · have B3 : ev aq (.tmp 3) = .pointer (some ⟨w.heap.size + 1, 0, none⟩) := hk.base 3 (by kernel_rfl) rfl
        have hb := grows_of hk.ext
        exact vc hK (op_load3 3 _ B3 (D1.out.below hb)) (fun w2 h2 => QL.grow ⟨_, _, _, _, rfl, (SN1.out.below hb), (SD1.out.below hb), hlm3, hmm3⟩ h2)
      refine pl 23 61 false rfl (by kernel_rfl) (fun _ _ h => h) (fun lq aq wq hk hr K hK => ?_) ?_
      · obtain ⟨v27, E27, r27⟩ := hk.dp hr 27 65 (by kernel_rfl)
        have r27 : QL wq v27 nP0 fP0 gP0 := r27
        obtain ⟨v28, E28, r28⟩ := hk.dp hr 28 66 (by kernel_rfl)
        have r28 : QL wq v28 nP1 fP1 gP1 := r28
        exact yc hK (by go_simp) (rsubL_v wq r27 r28 hq0 hq1 hp0 hp1) (fun u w1 hu w2 h2 => (hu).grow h2)
      refine pl 23 61 false rfl (by kernel_rfl) (fun _ _ h => h) (fun lq aq wq hk hr K hK => ?_) ?_
      · obtain ⟨v26, E26, r26⟩ := hk.dp hr 26 64 (by kernel_rfl)
        have r26 : RV wq v26 ((a - b)) := r26
        obtain ⟨v29, E29, r29⟩ := hk.dp hr 29 67 (by kernel_rfl)
        have r29 : RV wq v29 ((a - b)) := r29
        exact yc hK (by go_simp) (lsameR_v wq r26 r29 (t := true) (decide_eq_true rfl)) (fun u w1 hu w2 h2 => hu)
      refine pl 23 61 false rfl (by kernel_rfl) (fun _ _ h => h) (fun lq aq wq hk hr K hK => ?_) ?_
      · have E30 : ev aq (.tmp 68) = .bool true := hk.dc hr 30 (by kernel_rfl) fun _ _ h => h
        exact vc hK (by go_simp) (fun w2 h2 => rfl)
      refine po rfl (fun lq aq wq hk hr K hK => ?_) ?_
      · have E23 : ev aq (.tmp 61) = .bool false := hk.dc hr 23 (by kernel_rfl) fun _ _ h => h
        have E31 : ev aq (.tmp 69) = .bool false := hk.dc hr 31 (by kernel_rfl) fun _ _ h => h
        exact vc hK (by go_simp) (fun w2 h2 => rfl)
      refine po rfl (fun lq aq wq hk hr K hK => ?_) ?_
      · have E32 : ev aq (.tmp 70) = .bool false := hk.dc hr 32 (by kernel_rfl) fun _ _ h => h
        exact vc hK (by go_simp) (fun w2 h2 => rfl)
      refine pl 33 71 false rfl (by kernel_rfl) (fun _ _ h => h) (fun lq aq wq hk hr K hK => ?_) ?_
      · have B2 : ev aq (.tmp 2) = .pointer (some ⟨w.heap.size, 0, none⟩) := hk.base 2 (by kernel_rfl) rfl
        have hb := grows_of hk.ext
        exact vc hK (op_load3 2 _ B2 (D0.out.below hb)) (fun w2 h2 => QL.grow ⟨_, _, _, _, rfl, (SN0.out.below hb), (SD0.out.below hb), hlm2, hmm2⟩ h2)
      refine pl 33 71 false rfl (by kernel_rfl) (fun _ _ h => h) (fun lq aq wq hk hr K hK => ?_) ?_
      · have B3 : ev aq (.tmp 3) = .pointer (some ⟨w.heap.size + 1, 0, none⟩) := hk.base 3 (by kernel_rfl) rfl
        have hb := grows_of hk.ext
        exact vc hK (op_load3 3 _ B3 (D1.out.below hb)) (fun w2 h2 => QL.grow ⟨_, _, _, _, rfl, (SN1.out.below hb), (SD1.out.below hb), hlm3, hmm3⟩ h2)
      refine pl 33 71 false rfl (by kernel_rfl) (fun _ _ h => h) (fun lq aq wq hk hr K hK => ?_) ?_
      · obtain ⟨v34, E34, r34⟩ := hk.dp hr 34 72 (by kernel_rfl)
        have r34 : QL wq v34 nP0 fP0 gP0 := r34
        obtain ⟨v35, E35, r35⟩ := hk.dp hr 35 73 (by kernel_rfl)
        have r35 : QL wq v35 nP1 fP1 gP1 := r35
        exact yc hK (by go_simp) (qmulK_v wq ((r34).qv.to hq0) ((r35).qv.to hq1) (hs0.mono (by decide)) (hs1.mono (by decide))) (fun u w1 hu w2 h2 => (hu).grow h2)
      refine pl 33 71 false rfl (by kernel_rfl) (fun _ _ h => h) (fun lq aq wq hk hr K hK => ?_) ?_
      · have B2 : ev aq (.tmp 2) = .pointer (some ⟨w.heap.size, 0, none⟩) := hk.base 2 (by kernel_rfl) rfl
        have hb := grows_of hk.ext
        exact vc hK (op_load3 2 _ B2 (D0.out.below hb)) (fun w2 h2 => QL.grow ⟨_, _, _, _, rfl, (SN0.out.below hb), (SD0.out.below hb), hlm2, hmm2⟩ h2)
      refine pl 33 71 false rfl (by kernel_rfl) (fun _ _ h => h) (fun lq aq wq hk hr K hK => ?_) ?_
      · have B3 : ev aq (.tmp 3) = .pointer (some ⟨w.heap.size + 1, 0, none⟩) := hk.base 3 (by kernel_rfl) rfl
        have hb := grows_of hk.ext
        exact vc hK (op_load3 3 _ B3 (D1.out.below hb)) (fun w2 h2 => QL.grow ⟨_, _, _, _, rfl, (SN1.out.below hb), (SD1.out.below hb), hlm3, hmm3⟩ h2)
      refine pl 33 71 false rfl (by kernel_rfl) (fun _ _ h => h) (fun lq aq wq hk hr K hK => ?_) ?_
      · obtain ⟨v37, E37, r37⟩ := hk.dp hr 37 75 (by kernel_rfl)
        have r37 : QL wq v37 nP0 fP0 gP0 := r37
        obtain ⟨v38, E38, r38⟩ := hk.dp hr 38 76 (by kernel_rfl)
        have r38 : QL wq v38 nP1 fP1 gP1 := r38
        exact yc hK (by go_simp) (rmulL_v wq r37 r38 hq0 hq1 hp0 hp1) (fun u w1 hu w2 h2 => (hu).grow h2)
      refine pl 33 71 false rfl (by kernel_rfl) (fun _ _ h => h) (fun lq aq wq hk hr K hK => ?_) ?_
      · obtain ⟨v36, E36, r36⟩ := hk.dp hr 36 74 (by kernel_rfl)
        have r36 : RV wq v36 ((a * b)) := r36
        obtain ⟨v39, E39, r39⟩ := hk.dp hr 39 77 (by kernel_rfl)
        have r39 : RV wq v39 ((a * b)) := r39
        exact yc hK (by go_simp) (lsameR_v wq r36 r39 (t := true) (decide_eq_true rfl)) (fun u w1 hu w2 h2 => hu)
      refine pl 33 71 false rfl (by kernel_rfl) (fun _ _ h => h) (fun lq aq wq hk hr K hK => ?_) ?_
      · have E40 : ev aq (.tmp 78) = .bool true := hk.dc hr 40 (by kernel_rfl) fun _ _ h => h
        exact vc hK (by go_simp) (fun w2 h2 => rfl)
      refine po rfl (fun lq aq wq hk hr K hK => ?_) ?_
      · have E33 : ev aq (.tmp 71) = .bool false := hk.dc hr 33 (by kernel_rfl) fun _ _ h => h
        have E41 : ev aq (.tmp 79) = .bool false := hk.dc hr 41 (by kernel_rfl) fun _ _ h => h
        exact vc hK (by go_simp) (fun w2 h2 => rfl)
      exact AllOps.nil
    intro V x9 hG hV hap
    have r4 : (V 4) = .bool false := hV 4 (by decide)
    have r42 : (V 42) = .bool false := hV 42 (by decide)
    clear hV hap
    simp only [List.take_succ_cons, List.take_nil, List.drop_succ_cons, List.drop_nil, putAll, Act.put, List.setIfInBounds_toArray, List.set_cons_zero, List.set_cons_succ]
    have hb := grows_of hG
    replace D0 := Lib.hid (D0.out.below hb)
    replace SN0 := Lib.hid (SN0.out.below hb)
    replace SD0 := Lib.hid (SD0.out.below hb)
    replace D1 := Lib.hid (D1.out.below hb)
    replace SN1 := Lib.hid (SN1.out.below hb)
    replace SD1 := Lib.hid (SD1.out.below hb)
    replace Dq := Lib.hid (Dq.out.below hb)
    replace SNq := Lib.hid (SNq.out.below hb)
    replace SDq := Lib.hid (SDq.out.below hb)
    replace HB := Lib.hid (HB.out.trans (Below.mono hb HB.out.size))
    clear hb hG
    rw [r42]
    clear r42
    obtain ⟨k, hk1⟩ : ∃ k, qs (a - b) = k := ⟨_, rfl⟩
    obtain ⟨j, hj1⟩ : ∃ j, qs a = j := ⟨_, rfl⟩
    obtain ⟨s, hs9⟩ : ∃ s, ByteArray.mk (qtext a).toArray = s := ⟨_, rfl⟩
    replace hk1 := Lib.hid hk1
    replace hj1 := Lib.hid hj1
    replace hs9 := Lib.hid hs9
    go_upto_region 10 with fail
    refine wp_region_going 38 [] ([fun vq wq => QL wq vq nP0 fP0 gP0,
        fun vq wq => QL wq vq nP1 fP1 gP1,
        fun vq _ => vq = .int .i64 k,
        fun vq wq => QL wq vq nP0 fP0 gP0,
        fun vq wq => QL wq vq nP1 fP1 gP1,
        fun vq _ => vq = .int .i64 k,
        fun vq _ => vq = .bool true,
        fun vq _ => vq = .bool true,
        fun vq wq => QL wq vq nP0 fP0 gP0,
        fun vq _ => vq = .int .i64 j,
        fun vq wq => QL wq vq nP0 fP0 gP0,
        fun vq _ => vq = .int .i64 j,
        fun vq _ => vq = .bool true,
        fun vq _ => vq = .bool true,
        fun vq _ => vq = .bool true,
        fun vq wq => QL wq vq nP0 fP0 gP0,
        fun vq wq => ZV wq vq ((Rat.floor a)),
        fun vq wq => QL wq vq nP0 fP0 gP0,
        fun vq wq => ZV wq vq ((Rat.floor a)),
        fun vq _ => vq = .bool true,
        fun vq _ => vq = .bool true,
        fun vq _ => vq = .bool true,
        fun vq wq => QL wq vq nP0 fP0 gP0,
        fun vq wq => ZV wq vq ((qup a)),
        fun vq wq => QL wq vq nP0 fP0 gP0,
        fun vq wq => ZV wq vq ((qup a)),
        fun vq _ => vq = .bool true,
        fun vq _ => vq = .bool true,
        fun vq _ => vq = .bool true,
        fun vq wq => QL wq vq nP0 fP0 gP0,
        fun vq _ => vq = .string s,
        fun vq wq => QL wq vq nP0 fP0 gP0,
        fun vq _ => vq = .string s,
        fun vq _ => vq = .bool true,
        fun vq _ => vq = .bool true,
        fun vq _ => vq = .bool true,
        fun vq _ => vq = .bool true,
        fun vq _ => vq = .bool true]) (by kernel_rfl) (by kernel_rfl) (by decide) (by kernel_rfl) (by kernel_rfl) ?_ ?_ ?_
    · intro j hj; cases hj
    · refine po rfl (fun lq aq wq hk hr K hK => ?_) ?_
      · have B2 : ev aq (.tmp 2) = .pointer (some ⟨w.heap.size, 0, none⟩) := hk.base 2 (by kernel_rfl) rfl
        have hb := grows_of hk.ext
        exact vc hK (op_load3 2 _ B2 (D0.out.below hb)) (fun w2 h2 => QL.grow ⟨_, _, _, _, rfl, (SN0.out.below hb), (SD0.out.below hb), hlm2, hmm2⟩ h2)
      refine po rfl (fun lq aq wq hk hr K hK => ?_) ?_
      · have B3 : ev aq (.tmp 3) = .pointer (some ⟨w.heap.size + 1, 0, none⟩) := hk.base 3 (by kernel_rfl) rfl
        have hb := grows_of hk.ext
        exact vc hK (op_load3 3 _ B3 (D1.out.below hb)) (fun w2 h2 => QL.grow ⟨_, _, _, _, rfl, (SN1.out.below hb), (SD1.out.below hb), hlm3, hmm3⟩ h2)
      refine po rfl (fun lq aq wq hk hr K hK => ?_) ?_
      · obtain ⟨v0, E0, r0⟩ := hk.dp hr 0 81 (by kernel_rfl)
        have r0 : QL wq v0 nP0 fP0 gP0 := r0
        obtain ⟨v1, E1, r1⟩ := hk.dp hr 1 82 (by kernel_rfl)
        have r1 : QL wq v1 nP1 fP1 gP1 := r1
        exact yc hK (by go_simp) (qcmp_v wq ((r0).qv.to hq0) ((r1).qv.to hq1) (hs0.mono (by decide)) (hs1.mono (by decide)) (k := k) hk1.out) (fun u w1 hu w2 h2 => hu)
      refine po rfl (fun lq aq wq hk hr K hK => ?_) ?_
      · have B2 : ev aq (.tmp 2) = .pointer (some ⟨w.heap.size, 0, none⟩) := hk.base 2 (by kernel_rfl) rfl
        have hb := grows_of hk.ext
        exact vc hK (op_load3 2 _ B2 (D0.out.below hb)) (fun w2 h2 => QL.grow ⟨_, _, _, _, rfl, (SN0.out.below hb), (SD0.out.below hb), hlm2, hmm2⟩ h2)
      refine po rfl (fun lq aq wq hk hr K hK => ?_) ?_
      · have B3 : ev aq (.tmp 3) = .pointer (some ⟨w.heap.size + 1, 0, none⟩) := hk.base 3 (by kernel_rfl) rfl
        have hb := grows_of hk.ext
        exact vc hK (op_load3 3 _ B3 (D1.out.below hb)) (fun w2 h2 => QL.grow ⟨_, _, _, _, rfl, (SN1.out.below hb), (SD1.out.below hb), hlm3, hmm3⟩ h2)
      refine po rfl (fun lq aq wq hk hr K hK => ?_) ?_
      · obtain ⟨v3, E3, r3⟩ := hk.dp hr 3 84 (by kernel_rfl)
        have r3 : QL wq v3 nP0 fP0 gP0 := r3
        obtain ⟨v4, E4, r4⟩ := hk.dp hr 4 85 (by kernel_rfl)
        have r4 : QL wq v4 nP1 fP1 gP1 := r4
        exact yc hK (by go_simp) (rcmpL_v wq r3 r4 hq0 hq1 hp0 hp1 hk1.out) (fun u w1 hu w2 h2 => hu)
      refine po rfl (fun lq aq wq hk hr K hK => ?_) ?_
      · have E2 : ev aq (.tmp 83) = .int .i64 k := hk.dc hr 2 (by kernel_rfl) fun _ _ h => h
        have E5 : ev aq (.tmp 86) = .int .i64 k := hk.dc hr 5 (by kernel_rfl) fun _ _ h => h
        exact vc hK (by go_simp) (fun w2 h2 => rfl)
      refine po rfl (fun lq aq wq hk hr K hK => ?_) ?_
      · have E6 : ev aq (.tmp 87) = .bool true := hk.dc hr 6 (by kernel_rfl) fun _ _ h => h
        exact vc hK (by go_simp) (fun w2 h2 => rfl)
      refine pl 7 88 true rfl (by kernel_rfl) (fun _ _ h => h) (fun lq aq wq hk hr K hK => ?_) ?_
      · have B2 : ev aq (.tmp 2) = .pointer (some ⟨w.heap.size, 0, none⟩) := hk.base 2 (by kernel_rfl) rfl
        have hb := grows_of hk.ext
        exact vc hK (op_load3 2 _ B2 (D0.out.below hb)) (fun w2 h2 => QL.grow ⟨_, _, _, _, rfl, (SN0.out.below hb), (SD0.out.below hb), hlm2, hmm2⟩ h2)
      refine pl 7 88 true rfl (by kernel_rfl) (fun _ _ h => h) (fun lq aq wq hk hr K hK => ?_) ?_
      · obtain ⟨v8, E8, r8⟩ := hk.dp hr 8 89 (by kernel_rfl)
        have r8 : QL wq v8 nP0 fP0 gP0 := r8
        exact yc hK (by go_simp) (qsign_v wq ((r8).qv.to hq0) (k := j) hj1.out) (fun u w1 hu w2 h2 => hu)
      refine pl 7 88 true rfl (by kernel_rfl) (fun _ _ h => h) (fun lq aq wq hk hr K hK => ?_) ?_
      · have B2 : ev aq (.tmp 2) = .pointer (some ⟨w.heap.size, 0, none⟩) := hk.base 2 (by kernel_rfl) rfl
        have hb := grows_of hk.ext
        exact vc hK (op_load3 2 _ B2 (D0.out.below hb)) (fun w2 h2 => QL.grow ⟨_, _, _, _, rfl, (SN0.out.below hb), (SD0.out.below hb), hlm2, hmm2⟩ h2)
      refine pl 7 88 true rfl (by kernel_rfl) (fun _ _ h => h) (fun lq aq wq hk hr K hK => ?_) ?_
      · obtain ⟨v10, E10, r10⟩ := hk.dp hr 10 91 (by kernel_rfl)
        have r10 : QL wq v10 nP0 fP0 gP0 := r10
        exact yc hK (by go_simp) (rsignL_v wq r10 hq0 hj1.out) (fun u w1 hu w2 h2 => hu)
      refine pl 7 88 true rfl (by kernel_rfl) (fun _ _ h => h) (fun lq aq wq hk hr K hK => ?_) ?_
      · have E9 : ev aq (.tmp 90) = .int .i64 j := hk.dc hr 9 (by kernel_rfl) fun _ _ h => h
        have E11 : ev aq (.tmp 92) = .int .i64 j := hk.dc hr 11 (by kernel_rfl) fun _ _ h => h
        exact vc hK (by go_simp) (fun w2 h2 => rfl)
      refine po rfl (fun lq aq wq hk hr K hK => ?_) ?_
      · have E7 : ev aq (.tmp 88) = .bool true := hk.dc hr 7 (by kernel_rfl) fun _ _ h => h
        have E12 : ev aq (.tmp 93) = .bool true := hk.dc hr 12 (by kernel_rfl) fun _ _ h => h
        exact vc hK (by go_simp) (fun w2 h2 => rfl)
      refine po rfl (fun lq aq wq hk hr K hK => ?_) ?_
      · have E13 : ev aq (.tmp 94) = .bool true := hk.dc hr 13 (by kernel_rfl) fun _ _ h => h
        exact vc hK (by go_simp) (fun w2 h2 => rfl)
      refine pl 14 95 true rfl (by kernel_rfl) (fun _ _ h => h) (fun lq aq wq hk hr K hK => ?_) ?_
      · have B2 : ev aq (.tmp 2) = .pointer (some ⟨w.heap.size, 0, none⟩) := hk.base 2 (by kernel_rfl) rfl
        have hb := grows_of hk.ext
        exact vc hK (op_load3 2 _ B2 (D0.out.below hb)) (fun w2 h2 => QL.grow ⟨_, _, _, _, rfl, (SN0.out.below hb), (SD0.out.below hb), hlm2, hmm2⟩ h2)
      refine pl 14 95 true rfl (by kernel_rfl) (fun _ _ h => h) (fun lq aq wq hk hr K hK => ?_) ?_
      · obtain ⟨v15, E15, r15⟩ := hk.dp hr 15 96 (by kernel_rfl)
        have r15 : QL wq v15 nP0 fP0 gP0 := r15
        exact yc hK (by go_simp) (qfloor_v wq ((r15).qv.to hq0) (hs0.mono (by decide)).floor) (fun u w1 hu w2 h2 => (hu).grow h2)
      refine pl 14 95 true rfl (by kernel_rfl) (fun _ _ h => h) (fun lq aq wq hk hr K hK => ?_) ?_
      · have B2 : ev aq (.tmp 2) = .pointer (some ⟨w.heap.size, 0, none⟩) := hk.base 2 (by kernel_rfl) rfl
        have hb := grows_of hk.ext
        exact vc hK (op_load3 2 _ B2 (D0.out.below hb)) (fun w2 h2 => QL.grow ⟨_, _, _, _, rfl, (SN0.out.below hb), (SD0.out.below hb), hlm2, hmm2⟩ h2)
      refine pl 14 95 true rfl (by kernel_rfl) (fun _ _ h => h) (fun lq aq wq hk hr K hK => ?_) ?_
      · obtain ⟨v17, E17, r17⟩ := hk.dp hr 17 98 (by kernel_rfl)
        have r17 : QL wq v17 nP0 fP0 gP0 := r17
        exact yc hK (by go_simp) (rfloor_v wq ((r17).qv.to hq0) (Nat.le_trans hs0.1 (by decide))) (fun u w1 hu w2 h2 => (hu).grow h2)
      refine pl 14 95 true rfl (by kernel_rfl) (fun _ _ h => h) (fun lq aq wq hk hr K hK => ?_) ?_
      · obtain ⟨v16, E16, r16⟩ := hk.dp hr 16 97 (by kernel_rfl)
        have r16 : ZV wq v16 ((Rat.floor a)) := r16
        obtain ⟨v18, E18, r18⟩ := hk.dp hr 18 99 (by kernel_rfl)
        have r18 : ZV wq v18 ((Rat.floor a)) := r18
        exact yc hK (by go_simp) (rsameI_v wq r16 r18 (t := true) (decide_eq_true rfl)) (fun u w1 hu w2 h2 => hu)
      refine po rfl (fun lq aq wq hk hr K hK => ?_) ?_
      · have E14 : ev aq (.tmp 95) = .bool true := hk.dc hr 14 (by kernel_rfl) fun _ _ h => h
        have E19 : ev aq (.tmp 100) = .bool true := hk.dc hr 19 (by kernel_rfl) fun _ _ h => h
        exact vc hK (by go_simp) (fun w2 h2 => rfl)
      refine po rfl (fun lq aq wq hk hr K hK => ?_) ?_
      · have E20 : ev aq (.tmp 101) = .bool true := hk.dc hr 20 (by kernel_rfl) fun _ _ h => h
        exact vc hK (by go_simp) (fun w2 h2 => rfl)
      refine pl 21 102 true rfl (by kernel_rfl) (fun _ _ h => h) (fun lq aq wq hk hr K hK => ?_) ?_
      · have B2 : ev aq (.tmp 2) = .pointer (some ⟨w.heap.size, 0, none⟩) := hk.base 2 (by kernel_rfl) rfl
        have hb := grows_of hk.ext
        exact vc hK (op_load3 2 _ B2 (D0.out.below hb)) (fun w2 h2 => QL.grow ⟨_, _, _, _, rfl, (SN0.out.below hb), (SD0.out.below hb), hlm2, hmm2⟩ h2)
      refine pl 21 102 true rfl (by kernel_rfl) (fun _ _ h => h) (fun lq aq wq hk hr K hK => ?_) ?_
      · obtain ⟨v22, E22, r22⟩ := hk.dp hr 22 103 (by kernel_rfl)
        have r22 : QL wq v22 nP0 fP0 gP0 := r22
        exact yc hK (by go_simp) (qceil_v wq ((r22).qv.to hq0) (hs0.mono (by decide)).neg.floor) (fun u w1 hu w2 h2 => (hu).grow h2)
      refine pl 21 102 true rfl (by kernel_rfl) (fun _ _ h => h) (fun lq aq wq hk hr K hK => ?_) ?_
      · have B2 : ev aq (.tmp 2) = .pointer (some ⟨w.heap.size, 0, none⟩) := hk.base 2 (by kernel_rfl) rfl
        have hb := grows_of hk.ext
        exact vc hK (op_load3 2 _ B2 (D0.out.below hb)) (fun w2 h2 => QL.grow ⟨_, _, _, _, rfl, (SN0.out.below hb), (SD0.out.below hb), hlm2, hmm2⟩ h2)
      refine pl 21 102 true rfl (by kernel_rfl) (fun _ _ h => h) (fun lq aq wq hk hr K hK => ?_) ?_
      · obtain ⟨v24, E24, r24⟩ := hk.dp hr 24 105 (by kernel_rfl)
        have r24 : QL wq v24 nP0 fP0 gP0 := r24
        exact yc hK (by go_simp) (rceil_v wq ((r24).qv.to hq0) (Nat.le_trans hs0.1 (by decide))) (fun u w1 hu w2 h2 => (hu).grow h2)
      refine pl 21 102 true rfl (by kernel_rfl) (fun _ _ h => h) (fun lq aq wq hk hr K hK => ?_) ?_
      · obtain ⟨v23, E23, r23⟩ := hk.dp hr 23 104 (by kernel_rfl)
        have r23 : ZV wq v23 ((qup a)) := r23
        obtain ⟨v25, E25, r25⟩ := hk.dp hr 25 106 (by kernel_rfl)
        have r25 : ZV wq v25 ((qup a)) := r25
        exact yc hK (by go_simp) (rsameI_v wq r23 r25 (t := true) (decide_eq_true rfl)) (fun u w1 hu w2 h2 => hu)
      refine po rfl (fun lq aq wq hk hr K hK => ?_) ?_
      · have E21 : ev aq (.tmp 102) = .bool true := hk.dc hr 21 (by kernel_rfl) fun _ _ h => h
        have E26 : ev aq (.tmp 107) = .bool true := hk.dc hr 26 (by kernel_rfl) fun _ _ h => h
        exact vc hK (by go_simp) (fun w2 h2 => rfl)
      refine po rfl (fun lq aq wq hk hr K hK => ?_) ?_
      · have E27 : ev aq (.tmp 108) = .bool true := hk.dc hr 27 (by kernel_rfl) fun _ _ h => h
        exact vc hK (by go_simp) (fun w2 h2 => rfl)
      refine pl 28 109 true rfl (by kernel_rfl) (fun _ _ h => h) (fun lq aq wq hk hr K hK => ?_) ?_
      · have B2 : ev aq (.tmp 2) = .pointer (some ⟨w.heap.size, 0, none⟩) := hk.base 2 (by kernel_rfl) rfl
        have hb := grows_of hk.ext
        exact vc hK (op_load3 2 _ B2 (D0.out.below hb)) (fun w2 h2 => QL.grow ⟨_, _, _, _, rfl, (SN0.out.below hb), (SD0.out.below hb), hlm2, hmm2⟩ h2)
      refine pl 28 109 true rfl (by kernel_rfl) (fun _ _ h => h) (fun lq aq wq hk hr K hK => ?_) ?_
      · obtain ⟨v29, E29, r29⟩ := hk.dp hr 29 110 (by kernel_rfl)
        have r29 : QL wq v29 nP0 fP0 gP0 := r29
        exact yc hK (by go_simp) (qtext_v wq ((r29).qv.to hq0) (s := s) hs9.out) (fun u w1 hu w2 h2 => hu)
      refine pl 28 109 true rfl (by kernel_rfl) (fun _ _ h => h) (fun lq aq wq hk hr K hK => ?_) ?_
      · have B2 : ev aq (.tmp 2) = .pointer (some ⟨w.heap.size, 0, none⟩) := hk.base 2 (by kernel_rfl) rfl
        have hb := grows_of hk.ext
        exact vc hK (op_load3 2 _ B2 (D0.out.below hb)) (fun w2 h2 => QL.grow ⟨_, _, _, _, rfl, (SN0.out.below hb), (SD0.out.below hb), hlm2, hmm2⟩ h2)
      refine pl 28 109 true rfl (by kernel_rfl) (fun _ _ h => h) (fun lq aq wq hk hr K hK => ?_) ?_
      · obtain ⟨v31, E31, r31⟩ := hk.dp hr 31 112 (by kernel_rfl)
        have r31 : QL wq v31 nP0 fP0 gP0 := r31
        exact yc hK (by go_simp) (rqtext_v wq ((r31).qv.to hq0) hs9.out) (fun u w1 hu w2 h2 => hu)
      refine pl 28 109 true rfl (by kernel_rfl) (fun _ _ h => h) (fun lq aq wq hk hr K hK => ?_) ?_
      · have E30 : ev aq (.tmp 111) = .string s := hk.dc hr 30 (by kernel_rfl) fun _ _ h => h
        have E32 : ev aq (.tmp 113) = .string s := hk.dc hr 32 (by kernel_rfl) fun _ _ h => h
        exact vc hK (by go_simp) (fun w2 h2 => rfl)
      refine po rfl (fun lq aq wq hk hr K hK => ?_) ?_
      · have E28 : ev aq (.tmp 109) = .bool true := hk.dc hr 28 (by kernel_rfl) fun _ _ h => h
        have E33 : ev aq (.tmp 114) = .bool true := hk.dc hr 33 (by kernel_rfl) fun _ _ h => h
        exact vc hK (by go_simp) (fun w2 h2 => rfl)
      refine po rfl (fun lq aq wq hk hr K hK => ?_) ?_
      · have E34 : ev aq (.tmp 115) = .bool true := hk.dc hr 34 (by kernel_rfl) fun _ _ h => h
        exact vc hK (by go_simp) (fun w2 h2 => rfl)
      refine pl 35 116 true rfl (by kernel_rfl) (fun _ _ h => h) (fun lq aq wq hk hr K hK => ?_) ?_
      · exact yc hK (by go_simp) (qworks_v wq (HL.out.below (HB.out.trans (Below.mono (grows_of hk.ext) HB.out.size)))) (fun u w1 hu w2 h2 => hu)
      refine po rfl (fun lq aq wq hk hr K hK => ?_) ?_
      · have E35 : ev aq (.tmp 116) = .bool true := hk.dc hr 35 (by kernel_rfl) fun _ _ h => h
        have E36 : ev aq (.tmp 117) = .bool true := hk.dc hr 36 (by kernel_rfl) fun _ _ h => h
        exact vc hK (by go_simp) (fun w2 h2 => rfl)
      exact AllOps.nil
    intro V x10 hG hV hap
    have r37 : (V 37) = .bool true := hV 37 (by decide)
    clear hV hap
    simp only [List.take_succ_cons, List.take_zero, List.drop_succ_cons, List.drop_zero, putAll, Act.put, List.setIfInBounds_toArray, List.set_cons_zero, List.set_cons_succ]
    have hb := grows_of hG
    replace D0 := Lib.hid (D0.out.below hb)
    replace SN0 := Lib.hid (SN0.out.below hb)
    replace SD0 := Lib.hid (SD0.out.below hb)
    replace D1 := Lib.hid (D1.out.below hb)
    replace SN1 := Lib.hid (SN1.out.below hb)
    replace SD1 := Lib.hid (SD1.out.below hb)
    replace Dq := Lib.hid (Dq.out.below hb)
    replace SNq := Lib.hid (SNq.out.below hb)
    replace SDq := Lib.hid (SDq.out.below hb)
    replace HB := Lib.hid (HB.out.trans (Below.mono hb HB.out.size))
    clear hb hG
    rw [r37]
    clear r37
    go_wp2_with fail
    go_ret
    exact ⟨rfl, HB.out⟩
end Go.Proofs.YtbippecchpaleaaGreatDoor
