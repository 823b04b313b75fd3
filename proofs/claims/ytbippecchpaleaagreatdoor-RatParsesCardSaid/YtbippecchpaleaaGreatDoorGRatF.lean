import Derived.Test.YtbippecchpaleaaGreatDoorRat15
import Derived.Test.YtbippecchpaleaaGreatDoorGRatS
/- litmuslaw03.few, same, of: what each returns; sizes of fractions. -/
namespace Go.Num
open Go Go.RowKit Go.Kp
theorem QV.to {w : World} {v : Value} {q r : Rat} (h : QV w v q) (e : q = r) : QV w v r := e ▸ h
theorem Qsz.int {z : Int} {k : Nat} (h : szz z ≤ k) (hk : 1 ≤ k) : Qsz (z : Rat) k := ⟨h, Nat.le_trans (sz_le (k := 1) (show (1 : Nat) < _ by decide)) hk⟩
theorem Qsz.sub {q r : Rat} {i j : Nat} (h : Qsz q i) (g : Qsz r j) : Qsz (q - r) (i + j + 1) := by
  rw [Rat.sub_eq_add_neg]
  exact h.add g.neg
theorem Qsz.inv {r : Rat} {j : Nat} (g : Qsz r j) : Qsz r⁻¹ j := by
  have hd : szz (r.den : Int) ≤ j := by unfold szz; rw [Int.natAbs_natCast]; exact g.2
  have hk : sz r.num.natAbs ≤ j := g.1
  rw [Rat.inv_def]
  rcases Int.lt_trichotomy r.num 0 with h | h | h
  · rw [← divInt_neg' h]
    exact mkRat_sz (by omega) (szz_neg hd) hk
  · rw [h]
    exact ⟨Nat.le_trans (sz_mono (Nat.zero_le _)) hk, Nat.le_trans (sz_mono (show (1 : Nat) ≤ r.den from r.den_pos)) g.2⟩
  · rw [← divInt_pos h]
    exact mkRat_sz (by omega) hd hk
theorem Qsz.div {q r : Rat} {i j : Nat} (h : Qsz q i) (g : Qsz r j) : Qsz (q / r) (i + j) := by
  rw [Rat.div_def]
  exact h.mul g.inv
theorem Qsz.floor {q : Rat} {i : Nat} (h : Qsz q i) : szz q.floor ≤ i := by
  rw [← qfloor]
  exact szz_fdiv _ h.1
theorem Qsz.up {q : Rat} {i : Nat} (h : Qsz q i) : szz (qup q) ≤ i := szz_neg h.neg.floor
theorem Qsz.lit {q : Rat} {k : Nat} (h1 : q.num.natAbs < 4294967296 ^ k) (h2 : q.den < 4294967296 ^ k) : Qsz q k := ⟨sz_le h1, sz_le h2⟩
theorem few_qsz (n : Bool) (k : Nat) {l r f g : List Nat} (hf : l.take k = f) (hg : r.take k = g) (hL : Lim l) (hM : Lim r) (hk : 1 ≤ k) : Qsz (lrat n f g) k := by
  subst hf; subst hg
  refine mkRat_sz (dn_ne _) (few_szz n k hL) ?_
  have := dn_sz (a := val (r.take k)) (k := k) (by have := few_szz false k hM; unfold szz at this; rwa [sg_natAbs] at this) hk
  unfold szz at this
  rwa [Int.natAbs_natCast] at this
theorem qtext_lit {q : Rat} (p : Int) (d : Nat) (h1 : q.num = p) (h2 : q.den = d) : qtext q = if d = 1 then ztext p else ztext p ++ 47 :: dec d := by subst h1; subst h2; rfl
end Go.Num
namespace Go.Proofs.YtbippecchpaleaaGreatDoor
open Go.RowKit Go.Num Go.Kp
attribute [local go_sem] Oper.semAt_some u64_mask ev_const ev_func ev_global
set_option maxHeartbeats 4000000 in
set_option maxRecDepth 100000 in
theorem few3_slice (w : World) (n : Bool) (A B : Option Addr) (q c p d j : Nat) (_hqc : q ≤ c) (_hpd : p ≤ d) (_hq : q ≤ 9223372036854775807) (_hp : p ≤ 9223372036854775807) (_hj : j ≤ 1000) :
    Calls Tryz.prog 12 #[.agg #[.bool n, .slice A q c, .slice B p d], .int .i64 j] w fun e w' => e = .returned (.agg #[.bool n, .slice A (min q j) c, .slice B (min p j) d]) ∧ Below w.heap.size w w' := by
  rcases Nat.lt_or_ge j q with hj2 | hj2 <;> rcases Nat.lt_or_ge j p with hj3 | hj3
  · have HM := Lib.hid (show min q j = j by omega)
    have HN := Lib.hid (show min p j = j by omega)
    have hm : min (q : Int) (j : Int) = (j : Int) := by omega
    have hn : min (p : Int) (j : Int) = (j : Int) := by omega
    have hjc : j ≤ c := by omega
    have hjd : j ≤ d := by omega
    have HL := Lib.hid (((Below.refl _ w).alloc (Nat.le_refl _) (.cells #[.bool n, .slice A j c, .slice B j d] 26)).alloc (by simp) (.cells #[.bool n, .slice A j c, .slice B j d] 26))
    go_enter Tryz.func12, Tryz.ntmps12
    go_wp2_with fail
    refine bodyPost_ret (v := .agg #[.bool n, .slice A j c, .slice B j d]) (by simp [results, Tryz.results12, go_sem]) rfl ⟨by rw [HM.out, HN.out], HL.out⟩
  · have HM := Lib.hid (show min q j = j by omega)
    have HN := Lib.hid (show min p j = p by omega)
    have hm : min (q : Int) (j : Int) = (j : Int) := by omega
    have hn : min (p : Int) (j : Int) = (p : Int) := by omega
    have hjc : j ≤ c := by omega
    have hjd : p ≤ d := by omega
    have HL := Lib.hid (((Below.refl _ w).alloc (Nat.le_refl _) (.cells #[.bool n, .slice A j c, .slice B p d] 26)).alloc (by simp) (.cells #[.bool n, .slice A j c, .slice B p d] 26))
    go_enter Tryz.func12, Tryz.ntmps12
    go_wp2_with fail
    refine bodyPost_ret (v := .agg #[.bool n, .slice A j c, .slice B p d]) (by simp [results, Tryz.results12, go_sem]) rfl ⟨by rw [HM.out, HN.out], HL.out⟩
  · have HM := Lib.hid (show min q j = q by omega)
    have HN := Lib.hid (show min p j = j by omega)
    have hm : min (q : Int) (j : Int) = (q : Int) := by omega
    have hn : min (p : Int) (j : Int) = (j : Int) := by omega
    have hjc : q ≤ c := by omega
    have hjd : j ≤ d := by omega
    have HL := Lib.hid (((Below.refl _ w).alloc (Nat.le_refl _) (.cells #[.bool n, .slice A q c, .slice B j d] 26)).alloc (by simp) (.cells #[.bool n, .slice A q c, .slice B j d] 26))
    go_enter Tryz.func12, Tryz.ntmps12
    go_wp2_with fail
    refine bodyPost_ret (v := .agg #[.bool n, .slice A q c, .slice B j d]) (by simp [results, Tryz.results12, go_sem]) rfl ⟨by rw [HM.out, HN.out], HL.out⟩
  · have HM := Lib.hid (show min q j = q by omega)
    have HN := Lib.hid (show min p j = p by omega)
    have hm : min (q : Int) (j : Int) = (q : Int) := by omega
    have hn : min (p : Int) (j : Int) = (p : Int) := by omega
    have hjc : q ≤ c := by omega
    have hjd : p ≤ d := by omega
    have HL := Lib.hid (((Below.refl _ w).alloc (Nat.le_refl _) (.cells #[.bool n, .slice A q c, .slice B p d] 26)).alloc (by simp) (.cells #[.bool n, .slice A q c, .slice B p d] 26))
    go_enter Tryz.func12, Tryz.ntmps12
    go_wp2_with fail
    refine bodyPost_ret (v := .agg #[.bool n, .slice A q c, .slice B p d]) (by simp [results, Tryz.results12, go_sem]) rfl ⟨by rw [HM.out, HN.out], HL.out⟩
theorem few3_v (w : World) {n : Bool} {A B : Option Addr} {c d : Nat} {l r f g : List Nat} (j : Nat) {i : Int} (hi : (j : Int) = i) (ha : Arg encU w (.slice A l.length c) l) (hb : Arg encU w (.slice B r.length d) r) (hl : Lim l) (hn : l.length ≤ 9223372036854775807) (hr : Lim r) (hm : r.length ≤ 9223372036854775807) (hj : j ≤ 1000) (hf : l.take j = f) (hg : r.take j = g) :
    Calls Tryz.prog 12 #[.agg #[.bool n, .slice A l.length c, .slice B r.length d], .int .i64 i] w fun e w' => ∃ x, e = .returned x ∧ QL w' x n f g ∧ Grows w w' := by
  subst hi
  obtain ⟨A1, c1, e1, hc, ca⟩ := ha.open_
  obtain ⟨B1, d1, e2, hd, cb⟩ := hb.open_
  simp only [Value.slice.injEq] at e1 e2
  obtain ⟨rfl, -, rfl⟩ := e1
  obtain ⟨rfl, -, rfl⟩ := e2
  refine (few3_slice w n A B l.length c r.length d j hc hd hn hm hj).mono ?_
  rintro e w1 ⟨rfl, hw⟩
  subst hf; subst hg
  have h1 : (l.take j).length = min l.length j := by rw [List.length_take]; omega
  have h2 : (r.take j).length = min r.length j := by rw [List.length_take]; omega
  refine ⟨_, rfl, ⟨A, c, B, d, by rw [h1, h2], ?_, ?_, by omega, by omega⟩, hw⟩
  · exact Num.below ⟨Arg.mk_ rfl (by omega) (ca.take j), fun x hx => hl x (List.mem_of_mem_take hx), by omega, rfl⟩ hw
  · exact Num.below ⟨Arg.mk_ rfl (by omega) (cb.take j), fun x hx => hr x (List.mem_of_mem_take hx), by omega, rfl⟩ hw
set_option maxHeartbeats 4000000 in
set_option maxRecDepth 100000 in
theorem lsameL_v (w : World) {u v : Value} {n n' : Bool} {l m l' m' : List Nat} {t : Bool} (h0 : QL w u n l m) (h1 : QL w v n' l' m') (ht : lsame n l m n' l' m' = t) : Calls Tryz.prog 15 #[u, v] w fun e w' => ∃ r, e = .returned r ∧ r = .bool t ∧ Grows w w' := by
  obtain ⟨A0, c0, B0, d0, rfl, s0, t0, hl0, hm0⟩ := h0
  have hk0 : szz (sg n (val l)) ≤ 1000 := by unfold szz; rw [sg_natAbs]; exact Nat.le_trans (sz_num s0) hl0
  obtain ⟨A1, c1, B1, d1, rfl, s1, t1, hl1, hm1⟩ := h1
  have hk1 : szz (sg n' (val l')) ≤ 1000 := by unfold szz; rw [sg_natAbs]; exact Nat.le_trans (sz_num s1) hl1
  go_enter Tryz.func15, Tryz.ntmps15
  go_upto_region 1 with fail
  obtain ⟨x0, ex0, HB, D0, D1⟩ := st_33 w 26 (.bool n) (.slice A0 l.length c0) (.slice B0 m.length d0) 26 (.bool n') (.slice A1 l'.length c1) (.slice B1 m'.length d1)
  rw [ex0]
  clear ex0
  replace HB := Lib.hid HB
  replace D0 := Lib.hid D0
  replace D1 := Lib.hid D1
  have SN0 := Lib.hid (s0.below HB.out)
  clear s0
  have SD0 := Lib.hid (t0.below HB.out)
  clear t0
  have SN1 := Lib.hid (s1.below HB.out)
  clear s1
  have SD1 := Lib.hid (t1.below HB.out)
  clear t1
  refine wp_region_calm 3 [] ([fun vq wq => QL wq vq n l m,
      fun vq wq => QL wq vq n' l' m',
      fun vq _ => vq = .bool t]) (by kernel_rfl) (by decide) ?_ ?_ ?_
  · intro j hj; cases hj
  · refine po rfl (fun lq aq wq hk hr K hK => ?_) ?_
    · have B2 : ev aq (.tmp 2) = .pointer (some ⟨w.heap.size, 0, none⟩) := hk.base 2 (by kernel_rfl) rfl
      have hb : Below _ _ _ := hk.ext
      exact vc hK (op_load3 2 _ B2 (D0.out.below hb)) (fun w2 h2 => QL.grow ⟨_, _, _, _, rfl, (SN0.out.below hb), (SD0.out.below hb), hl0, hm0⟩ h2)
    refine po rfl (fun lq aq wq hk hr K hK => ?_) ?_
    · have B3 : ev aq (.tmp 3) = .pointer (some ⟨w.heap.size + 1, 0, none⟩) := hk.base 3 (by kernel_rfl) rfl
      have hb : Below _ _ _ := hk.ext
      exact vc hK (op_load3 3 _ B3 (D1.out.below hb)) (fun w2 h2 => QL.grow ⟨_, _, _, _, rfl, (SN1.out.below hb), (SD1.out.below hb), hl1, hm1⟩ h2)
    refine po rfl (fun lq aq wq hk hr K hK => ?_) ?_
    · obtain ⟨v0, E0, r0⟩ := hk.dp hr 0 5 (by kernel_rfl)
      have r0 : QL wq v0 n l m := r0
      obtain ⟨v1, E1, r1⟩ := hk.dp hr 1 6 (by kernel_rfl)
      have r1 : QL wq v1 n' l' m' := r1
      exact yc hK (by go_simp) (rsameL_v wq r0 r1 ht) (fun u w1 hu w2 h2 => hu)
    exact AllOps.nil
  intro V x1 hG hV hap
  have r2 : (V 2) = .bool t := hV 2 (by decide)
  clear hV hap
  simp only [List.take_succ_cons, List.take_zero, List.drop_succ_cons, List.drop_zero, putAll, Act.put, List.setIfInBounds_toArray, List.set_cons_zero, List.set_cons_succ]
  have hb := (show Below _ _ _ from hG)
  replace D0 := Lib.hid (D0.out.below hb)
  replace SN0 := Lib.hid (SN0.out.below hb)
  replace SD0 := Lib.hid (SD0.out.below hb)
  replace D1 := Lib.hid (D1.out.below hb)
  replace SN1 := Lib.hid (SN1.out.below hb)
  replace SD1 := Lib.hid (SD1.out.below hb)
  replace HB := Lib.hid (HB.out.trans (Below.mono hb HB.out.size))
  clear hb hG
  rw [r2]
  clear r2

  go_wp2_with fail
  go_ret
  exact ⟨_, rfl, rfl, HB.out⟩
theorem lsameR_v (w : World) {u v : Value} {q r : Rat} {t : Bool} (h0 : RV w u q) (h1 : RV w v r) (ht : decide (q = r) = t) : Calls Tryz.prog 15 #[u, v] w fun e w' => ∃ r, e = .returned r ∧ r = .bool t ∧ Grows w w' := lsameL_v w h0.ql h1.ql ((lsame_rat q r).trans ht)
theorem qmulK_v (w : World) {u v : Value} {q r : Rat} (h0 : QV w u q) (h1 : QV w v r) (hq : Qsz q 300) (hr : Qsz r 300) : Calls Tryz.prog 26 #[u, v] w fun e w' => ∃ x, e = .returned x ∧ RV w' x (q * r) ∧ Grows w w' :=
  qmul_v w h0 h1 (Nat.le_trans (szz_mul hq.1 hr.1) (by decide)) (Nat.le_trans (sz_mul _ _) (by have := hq.2; have := hr.2; omega))
theorem qdiv_v (w : World) {u v : Value} {q r : Rat} (h0 : QV w u q) (h1 : QV w v r) (hq : Qsz q 300) (hr : Qsz r 300) (hr0 : r.num ≠ 0) : Calls Tryz.prog 13 #[u, v] w fun e w' => ∃ y, e = .returned y ∧ (∃ x, y = .tuple #[x, .int .i64 0] ∧ RV w' x (q / r)) ∧ Grows w w' := by
  rcases Int.lt_or_lt_of_ne hr0 with h | h
  · exact qdiv_neg w h0 h1 hq hr h
  · exact qdiv_pos w h0 h1 hq hr h
set_option maxHeartbeats 4000000 in
set_option maxRecDepth 100000 in
theorem qof2_v (w : World) (n d : Int) (hn1 : -9223372036854775808 ≤ n) (hn2 : n ≤ 9223372036854775807) (hd1 : -9223372036854775808 ≤ d) (hd2 : d ≤ 9223372036854775807) (hd0 : 0 < d) : Calls Tryz.prog 83 #[.int .i64 n, .int .i64 d] w fun e w' => ∃ r, e = .returned r ∧ RV w' r (((n : Int) : Rat) / ((d : Int) : Rat)) ∧ Grows w w' := by
  go_enter Tryz.func83, Tryz.ntmps83
  go_upto_region 1 with fail
  obtain ⟨x0, ex0, HB, DR⟩ := st_3 w 26 (.bool false) (.slice none 0 0) (.slice none 0 0)
  rw [ex0]
  clear ex0
  replace HB := Lib.hid HB
  replace DR := Lib.hid DR
  have hkn := szz_i64 hn1 hn2
  have hkd := szz_i64 hd1 hd2
  have lwR := DR.out.lt
  refine wp_region_calm 9 [8] ([fun vq _ => vq = .int .i64 n,
      fun vq wq => RV wq vq (((n : Int) : Rat)),
      fun vq _ => vq = .int .i64 d,
      fun vq wq => RV wq vq (((d : Int) : Rat)),
      fun vq wq => ∃ u0, vq = .tuple #[u0, .int .i64 0] ∧ RV wq u0 ((((n : Int) : Rat) / ((d : Int) : Rat))),
      fun vq wq => ∃ u0, vq = .tuple #[u0, .int .i64 0] ∧ RV wq u0 ((((n : Int) : Rat) / ((d : Int) : Rat))),
      fun vq wq => RV wq vq ((((n : Int) : Rat) / ((d : Int) : Rat))),
      fun vq _ => vq = .int .i64 0,
      fun vq wq => ∃ bq, vq = .pointer (some ⟨bq, 0, none⟩) ∧ BoxN wq bq 26 #[.bool false, .slice none 0 0, .slice none 0 0] ∧ (x0).heap.size ≤ bq]) (by kernel_rfl) (by decide) ?_ ?_ ?_
  · intro j hj v w h
    simp only [List.mem_cons, List.not_mem_nil, or_false] at hj
    subst hj
    all_goals (obtain ⟨b, rfl, hB, _⟩ := h; exact hB.lt)
  · refine po rfl (fun lq aq wq hk hr K hK => ?_) ?_
    · have B0 : ev aq (.tmp 0) = .int .i64 n := hk.base 0 (by kernel_rfl) rfl
      exact vc hK (by go_simp) (fun w2 h2 => rfl)
    refine po rfl (fun lq aq wq hk hr K hK => ?_) ?_
    · have E0 : ev aq (.tmp 8) = .int .i64 n := hk.dc hr 0 (by kernel_rfl) fun _ _ h => h
      exact yc hK (by go_simp) (rfrom_v wq n hn1 hn2) (fun u w1 hu w2 h2 => (hu).grow h2)
    refine po rfl (fun lq aq wq hk hr K hK => ?_) ?_
    · have B1 : ev aq (.tmp 1) = .int .i64 d := hk.base 1 (by kernel_rfl) rfl
      exact vc hK (by go_simp) (fun w2 h2 => rfl)
    refine po rfl (fun lq aq wq hk hr K hK => ?_) ?_
    · have E2 : ev aq (.tmp 10) = .int .i64 d := hk.dc hr 2 (by kernel_rfl) fun _ _ h => h
      exact yc hK (by go_simp) (rfrom_v wq d hd1 hd2) (fun u w1 hu w2 h2 => (hu).grow h2)
    refine po rfl (fun lq aq wq hk hr K hK => ?_) ?_
    · obtain ⟨v1, E1, r1⟩ := hk.dp hr 1 9 (by kernel_rfl)
      have r1 : RV wq v1 (((n : Int) : Rat)) := r1
      obtain ⟨v3, E3, r3⟩ := hk.dp hr 3 11 (by kernel_rfl)
      have r3 : RV wq v3 (((d : Int) : Rat)) := r3
      exact yc hK (by go_simp) (qdiv_v wq (r1).qv (r3).qv ((Qsz.int (szz_i64 hn1 hn2) (by decide)).mono (by decide)) ((Qsz.int (szz_i64 hd1 hd2) (by decide)).mono (by decide)) (show ((d : Int) : Rat).num ≠ 0 from by show d ≠ 0; omega)) (fun u w1 hu w2 h2 => (let ⟨u0, e0, h0⟩ := hu; ⟨u0, e0, (h0).grow h2⟩))
    refine po rfl (fun lq aq wq hk hr K hK => ?_) ?_
    · obtain ⟨v4, E4, r4⟩ := hk.dp hr 4 12 (by kernel_rfl)
      have r4 : ∃ u0, v4 = .tuple #[u0, .int .i64 0] ∧ RV wq u0 ((((n : Int) : Rat) / ((d : Int) : Rat))) := r4
      exact vc hK (by go_simp) (fun w2 h2 => (let ⟨u0, e0, h0⟩ := r4; ⟨u0, e0, (h0).grow h2⟩))
    refine po rfl (fun lq aq wq hk hr K hK => ?_) ?_
    · obtain ⟨v5, E5, r5⟩ := hk.dp hr 5 7 (by kernel_rfl)
      have r5 : ∃ u0, v5 = .tuple #[u0, .int .i64 0] ∧ RV wq u0 ((((n : Int) : Rat) / ((d : Int) : Rat))) := r5
      obtain ⟨u0, rfl, h0⟩ := r5
      exact vc hK (by go_simp) (fun w2 h2 => (h0).grow h2)
    refine po rfl (fun lq aq wq hk hr K hK => ?_) ?_
    · obtain ⟨v5, E5, r5⟩ := hk.dp hr 5 7 (by kernel_rfl)
      have r5 : ∃ u0, v5 = .tuple #[u0, .int .i64 0] ∧ RV wq u0 ((((n : Int) : Rat) / ((d : Int) : Rat))) := r5
      obtain ⟨u0, rfl, h0⟩ := r5
      exact vc hK (by go_simp) (fun w2 h2 => rfl)
    refine po rfl (fun lq aq wq hk hr K hK => ?_) ?_
    · exact wp_of_value (by go_simp) (hK.out _ _ ((Grows.refl _).alloc _) (fun w2 h2 => ⟨_, rfl, (BoxN.new wq 26 _).below h2, hk.ext.size⟩) (fun _ => Nat.le_refl _))
    exact AllOps.nil
  intro V x1 hG hV hap
  have r0 : (V 0) = .int .i64 n := hV 0 (by decide)
  have r5 : ∃ u0, (V 5) = .tuple #[u0, .int .i64 0] ∧ RV x1 u0 ((((n : Int) : Rat) / ((d : Int) : Rat))) := hV 5 (by decide)
  have r6 : RV x1 (V 6) ((((n : Int) : Rat) / ((d : Int) : Rat))) := hV 6 (by decide)
  have r7 : (V 7) = .int .i64 0 := hV 7 (by decide)
  have r8 : ∃ bq, (V 8) = .pointer (some ⟨bq, 0, none⟩) ∧ BoxN x1 bq 26 #[.bool false, .slice none 0 0, .slice none 0 0] ∧ (x0).heap.size ≤ bq := hV 8 (by decide)
  clear hV
  simp only [List.take_succ_cons, List.take_zero, List.drop_succ_cons, List.drop_zero, putAll, Act.put, List.setIfInBounds_toArray, List.set_cons_zero, List.set_cons_succ]
  have hb := (show Below _ _ _ from hG)
  obtain ⟨bq, eq, Dq, gq⟩ := r8
  obtain ⟨nq, Aq, kq, cq, Bq, jq, dq, eq9, sq, tq, hdq⟩ := r6
  simp only [eq, eq9, r7]
  clear eq eq9 hap hG r7
  replace Dq : Box3 _ bq 26 (.bool false) (.slice none 0 0) (.slice none 0 0) := Dq
  refine wpList_of_skip rfl (op_store3 5 13 _ rfl rfl Dq) ?_
  have hB := put3_below (x' := .bool nq) (y' := .slice Aq kq cq) (z' := .slice Bq jq dq) hb gq
  replace sq := sq.put3 Dq (.bool nq) (.slice Aq kq cq) (.slice Bq jq dq)
  replace tq := tq.put3 Dq (.bool nq) (.slice Aq kq cq) (.slice Bq jq dq)
  replace Dq := put3_own (x' := .bool nq) (y' := .slice Aq kq cq) (z' := .slice Bq jq dq) Dq
  clear hb
  generalize put3 x1 bq (.bool nq) (.slice Aq kq cq) (.slice Bq jq dq) = y2 at *
  replace DR := Lib.hid (DR.out.below hB)
  replace HB := Lib.hid (HB.out.trans (Below.mono hB HB.out.size))
  replace lwR := Nat.lt_of_lt_of_le lwR gq
  replace Dq := Lib.hid Dq
  have SNq := Lib.hid sq
  have SDq := Lib.hid tq
  clear hB gq sq tq
  go_upto_region 2 with fail
  refine wp_region_calm 1 [] ([fun vq wq => RV wq vq ((((n : Int) : Rat) / ((d : Int) : Rat)))]) (by kernel_rfl) (by decide) ?_ ?_ ?_
  · intro j hj; cases hj
  · refine po rfl (fun lq aq wq hk hr K hK => ?_) ?_
    · have B5 : ev aq (.tmp 5) = .pointer (some ⟨bq, 0, none⟩) := hk.base 5 (by kernel_rfl) rfl
      have hb : Below _ _ _ := hk.ext
      exact vc hK (op_load3 5 _ B5 (Dq.out.below hb)) (fun w2 h2 => RV.grow ⟨_, _, _, _, _, _, _, rfl, (SNq.out.below hb), (SDq.out.below hb), hdq⟩ h2)
    exact AllOps.nil
  intro V x3 hG hV hap
  have r0 : RV x3 (V 0) ((((n : Int) : Rat) / ((d : Int) : Rat))) := hV 0 (by decide)
  clear hV hap
  simp only [List.take_succ_cons, List.take_zero, List.drop_succ_cons, List.drop_zero, putAll, Act.put, List.setIfInBounds_toArray, List.set_cons_zero, List.set_cons_succ]
  have hb := (show Below _ _ _ from hG)
  obtain ⟨nR, AR, kR, cR, BR, jR, dR, y9, eR, ey, hQ, HQ, c0, c1, c2⟩ := ret3 r0 (DR.out.below hb) (HB.out.trans (Below.mono hb HB.out.size)) (by omega)
  simp only [eR]
  refine wpList_of_skip rfl (op_store3 4 15 _ rfl rfl (DR.out.below hb)) ?_
  rw [ey]
  clear eR ey hb hG HB DR
  go_wp2_with fail
  refine bodyPost_ret (v := .agg #[.bool nR, .slice AR kR cR, .slice BR jR dR]) (by simp [results, Tryz.results83, go_sem, c0, c1, c2]) rfl ⟨_, rfl, hQ, HQ⟩
theorem Qsz.of2 {n d : Int} (hn1 : -9223372036854775808 ≤ n) (hn2 : n ≤ 9223372036854775807) (hd1 : -9223372036854775808 ≤ d) (hd2 : d ≤ 9223372036854775807) : Qsz (((n : Int) : Rat) / ((d : Int) : Rat)) 4 := (Qsz.int (szz_i64 hn1 hn2) (by decide)).div (Qsz.int (szz_i64 hd1 hd2) (by decide))
end Go.Proofs.YtbippecchpaleaaGreatDoor
/- litmuslaw03.works returns true. -/
namespace Go.Num
open Go Go.RowKit Go.Kp
theorem lit_lv (w : World) (T : TypeId) {cs : Array Value} {n : Nat} (l : List Nat) (a : Nat) (hn : n = l.length) (hc : cs.toList = l.map encU) (h : (l.all (fun x => decide (x < 4294967296)) && decide (l.length ≤ 1000)) = true) (hv : val l = a) : LV (w.alloc (.cells cs T)) (.slice (some ⟨w.heap.size, 0, none⟩) n n) l a := by
  simp only [Bool.and_eq_true, decide_eq_true_eq] at h
  subst hn
  refine ⟨_, _, rfl, arg_lit w cs T _ l rfl hc, fun x hx => by simpa using List.all_eq_true.1 h.1 x hx, Nat.le_trans h.2 (by decide), hv⟩
theorem zv_lv {w : World} {v : Value} {n : Bool} {l : List Nat} {a : Nat} {z : Int} (h : LV w v l a) (hl : (limbs a) = l) (hs : sz a ≤ 1000) (e : z.natAbs = a) (hn : n = decide (z < 0)) : ZV w (.agg #[.bool n, v]) z := by
  obtain ⟨A, c, rfl, q⟩ := h
  subst hl; subst e
  exact ⟨n, A, _, c, rfl, hn, q, hs⟩
end Go.Num
namespace Go.Proofs.YtbippecchpaleaaGreatDoor
open Go.RowKit Go.Num Go.Kp
attribute [local go_sem] Oper.semAt_some u64_mask ev_const ev_func ev_global
theorem sz_le9 {n : Nat} (h : n < 4294967296) : sz n ≤ 1000 := Nat.le_trans (sz_le (k := 1) (by simpa using h)) (by decide)
theorem cf1 : Qsz (Rat.divInt ((6 : Int) : Rat).num (-4)) 1 := Qsz.lit (by decide +kernel) (by decide +kernel)
theorem cf2 : Qsz (mkRat 2 (dn 6)) 1 := Qsz.lit (by decide +kernel) (by decide +kernel)
theorem cf3 : ReadsZ [50] (2) true := .inl ⟨rfl, by first | rfl | simp [ztext, dec, decs, vdig_pos, vdig_zero, Num.byteOf], sz_le (Nat.lt_of_lt_of_le (show _ < 4294967296 ^ 1 by decide) (by decide))⟩
theorem cf4 : ReadsN [52] 4 true := .inl ⟨rfl, by first | rfl | simp [dec, decs, vdig_pos, vdig_zero, Num.byteOf], sz_le (Nat.lt_of_lt_of_le (show _ < 4294967296 ^ 1 by decide) (by decide))⟩
theorem cf5 : ((mkRat (2) (dn 4)) : Rat).num = 1 := by decide +kernel
theorem cf6 : ((mkRat (2) (dn 4)) : Rat).den = 2 := by decide +kernel
theorem cf7 : qtext (mkRat (2) (dn 4)) = [49, 47, 50] := by rw [qtext_lit (1) 2 cf5 cf6]; first | rfl | simp [ztext, dec, decs, vdig_pos, vdig_zero, Num.byteOf]
theorem cf9 : ReadsQ [50, 47, 52] 0 false := reads_no2 (h := [50]) (t := [52]) cf3 cf4 (by decide) (fun _ _ => by rw [cf7]; decide)
theorem cf10 : ReadsZ [45, 53] (-5) true := .inl ⟨rfl, by first | rfl | simp [ztext, dec, decs, vdig_pos, vdig_zero, Num.byteOf], sz_le (Nat.lt_of_lt_of_le (show _ < 4294967296 ^ 1 by decide) (by decide))⟩
theorem cf11 : ReadsN [51] 3 true := .inl ⟨rfl, by first | rfl | simp [dec, decs, vdig_pos, vdig_zero, Num.byteOf], sz_le (Nat.lt_of_lt_of_le (show _ < 4294967296 ^ 1 by decide) (by decide))⟩
theorem cf12 : ((mkRat (-5) (dn 3)) : Rat).num = -5 := by decide +kernel
theorem cf13 : ((mkRat (-5) (dn 3)) : Rat).den = 3 := by decide +kernel
theorem cf14 : qtext (mkRat (-5) (dn 3)) = [45, 53, 47, 51] := by rw [qtext_lit (-5) 3 cf12 cf13]; first | rfl | simp [ztext, dec, decs, vdig_pos, vdig_zero, Num.byteOf]
theorem cf15 : ByteArray.mk (qtext (mkRat (-5) (dn 3))).toArray = ⟨#[45, 53, 47, 51]⟩ := congrArg (fun l : List UInt8 => ByteArray.mk l.toArray) cf14
theorem cf16 : ReadsQ [45, 53, 47, 51] (mkRat (-5) (dn 3)) true := reads_yes cf10.sz cf11.sz cf14
theorem cf18 : ReadsZ [51] (3) true := .inl ⟨rfl, by first | rfl | simp [ztext, dec, decs, vdig_pos, vdig_zero, Num.byteOf], sz_le (Nat.lt_of_lt_of_le (show _ < 4294967296 ^ 1 by decide) (by decide))⟩
theorem cf19 : ReadsN [49] 1 true := .inl ⟨rfl, by first | rfl | simp [dec, decs, vdig_pos, vdig_zero, Num.byteOf], sz_le (Nat.lt_of_lt_of_le (show _ < 4294967296 ^ 1 by decide) (by decide))⟩
theorem cf20 : ((mkRat (3) (dn 1)) : Rat).num = 3 := by decide +kernel
theorem cf21 : ((mkRat (3) (dn 1)) : Rat).den = 1 := by decide +kernel
theorem cf22 : qtext (mkRat (3) (dn 1)) = [51] := by rw [qtext_lit (3) 1 cf20 cf21]; first | rfl | simp [ztext, dec, decs, vdig_pos, vdig_zero, Num.byteOf]
theorem cf24 : ReadsQ [51, 47, 49] 0 false := reads_no2 (h := [51]) (t := [49]) cf18 cf19 (by decide) (fun _ _ => by rw [cf22]; decide)
theorem cf25 : ((Rat.divInt ((6 : Int) : Rat).num (-4)) : Rat).num = -3 := by decide +kernel
theorem cf26 : ((Rat.divInt ((6 : Int) : Rat).num (-4)) : Rat).den = 2 := by decide +kernel
theorem cf27 : qtext (Rat.divInt ((6 : Int) : Rat).num (-4)) = [45, 51, 47, 50] := by rw [qtext_lit (-3) 2 cf25 cf26]; first | rfl | simp [ztext, dec, decs, vdig_pos, vdig_zero, Num.byteOf]
theorem cf28 : ByteArray.mk (qtext (Rat.divInt ((6 : Int) : Rat).num (-4))).toArray = ⟨#[45, 51, 47, 50]⟩ := congrArg (fun l : List UInt8 => ByteArray.mk l.toArray) cf27
theorem cf29 : (((((1 : Int) : Rat) / ((2 : Int) : Rat)) + (((1 : Int) : Rat) / ((3 : Int) : Rat))) : Rat).num = 5 := by decide +kernel
theorem cf30 : (((((1 : Int) : Rat) / ((2 : Int) : Rat)) + (((1 : Int) : Rat) / ((3 : Int) : Rat))) : Rat).den = 6 := by decide +kernel
theorem cf31 : qtext ((((1 : Int) : Rat) / ((2 : Int) : Rat)) + (((1 : Int) : Rat) / ((3 : Int) : Rat))) = [53, 47, 54] := by rw [qtext_lit (5) 6 cf29 cf30]; first | rfl | simp [ztext, dec, decs, vdig_pos, vdig_zero, Num.byteOf]
theorem cf32 : ByteArray.mk (qtext ((((1 : Int) : Rat) / ((2 : Int) : Rat)) + (((1 : Int) : Rat) / ((3 : Int) : Rat)))).toArray = ⟨#[53, 47, 54]⟩ := congrArg (fun l : List UInt8 => ByteArray.mk l.toArray) cf31
theorem cf33 : (((Rat.divInt ((6 : Int) : Rat).num (-4)) * (((2 : Int) : Rat) / ((3 : Int) : Rat))) : Rat).num = -1 := by decide +kernel
theorem cf34 : (((Rat.divInt ((6 : Int) : Rat).num (-4)) * (((2 : Int) : Rat) / ((3 : Int) : Rat))) : Rat).den = 1 := by decide +kernel
theorem cf35 : qtext ((Rat.divInt ((6 : Int) : Rat).num (-4)) * (((2 : Int) : Rat) / ((3 : Int) : Rat))) = [45, 49] := by rw [qtext_lit (-1) 1 cf33 cf34]; first | rfl | simp [ztext, dec, decs, vdig_pos, vdig_zero, Num.byteOf]
theorem cf36 : ByteArray.mk (qtext ((Rat.divInt ((6 : Int) : Rat).num (-4)) * (((2 : Int) : Rat) / ((3 : Int) : Rat)))).toArray = ⟨#[45, 49]⟩ := congrArg (fun l : List UInt8 => ByteArray.mk l.toArray) cf35
theorem cf37 : decide (Rat.floor (Rat.divInt ((6 : Int) : Rat).num (-4)) = -2) = true := by decide +kernel
theorem cf38 : decide (qup (Rat.divInt ((6 : Int) : Rat).num (-4)) = -1) = true := by decide +kernel
theorem cf39 : qs ((((1 : Int) : Rat) / ((3 : Int) : Rat)) - (mkRat 2 (dn 6))) = 0 := by decide +kernel
set_option maxHeartbeats 16000000 in
set_option maxRecDepth 100000 in
theorem qworks_v (w : World)  (hlen : HasLen w) : Calls Tryz.prog 39 #[] w fun e w' => ∃ r, e = .returned r ∧ r = .bool true ∧ Grows w w' := by
  go_enter Tryz.func39, Tryz.ntmps39
  go_upto_region 1 with fail
  have HB := Below.refl w.heap.size w
  have z0 : w.heap.size = w.heap.size := rfl
  clear z0
  replace HB := Lib.hid HB
  have HL := Lib.hid hlen
  clear hlen
  refine wp_region_calm 2 [1] ([fun vq wq => RV wq vq (((6 : Int) : Rat)),
      fun vq wq => ∃ bq, vq = .pointer (some ⟨bq, 0, none⟩) ∧ BoxN wq bq 26 #[.bool false, .slice none 0 0, .slice none 0 0] ∧ (w).heap.size ≤ bq]) (by kernel_rfl) (by decide) ?_ ?_ ?_
  · intro j hj v w h
    simp only [List.mem_cons, List.not_mem_nil, or_false] at hj
    subst hj
    all_goals (obtain ⟨b, rfl, hB, _⟩ := h; exact hB.lt)
  · refine po rfl (fun lq aq wq hk hr K hK => ?_) ?_
    · exact yc hK (by go_simp) (rfrom_v wq 6 (by decide) (by decide)) (fun u w1 hu w2 h2 => (hu).grow h2)
    refine po rfl (fun lq aq wq hk hr K hK => ?_) ?_
    · exact wp_of_value (by go_simp) (hK.out _ _ ((Grows.refl _).alloc _) (fun w2 h2 => ⟨_, rfl, (BoxN.new wq 26 _).below h2, hk.ext.size⟩) (fun _ => Nat.le_refl _))
    exact AllOps.nil
  intro V x1 hG hV hap
  have r0 : RV x1 (V 0) (((6 : Int) : Rat)) := hV 0 (by decide)
  have r1 : ∃ bq, (V 1) = .pointer (some ⟨bq, 0, none⟩) ∧ BoxN x1 bq 26 #[.bool false, .slice none 0 0, .slice none 0 0] ∧ (w).heap.size ≤ bq := hV 1 (by decide)
  clear hV
  simp only [List.take_succ_cons, List.take_zero, List.drop_succ_cons, List.drop_zero, putAll, Act.put, List.setIfInBounds_toArray, List.set_cons_zero, List.set_cons_succ]
  have hb := (show Below _ _ _ from hG)
  obtain ⟨bs, es, Ds, gs⟩ := r1
  obtain ⟨ns, As, ks, cs, Bs, js, ds, es9, ss, ts, hds⟩ := r0
  simp only [es, es9]
  clear es es9 hap hG
  replace Ds : Box3 _ bs 26 (.bool false) (.slice none 0 0) (.slice none 0 0) := Ds
  refine wpList_of_skip rfl (op_store3 1 11 _ rfl rfl Ds) ?_
  have hB := put3_below (x' := .bool ns) (y' := .slice As ks cs) (z' := .slice Bs js ds) hb gs
  replace ss := ss.put3 Ds (.bool ns) (.slice As ks cs) (.slice Bs js ds)
  replace ts := ts.put3 Ds (.bool ns) (.slice As ks cs) (.slice Bs js ds)
  replace Ds := put3_own (x' := .bool ns) (y' := .slice As ks cs) (z' := .slice Bs js ds) Ds
  clear hb
  generalize put3 x1 bs (.bool ns) (.slice As ks cs) (.slice Bs js ds) = y2 at *
  replace HB := Lib.hid (HB.out.trans (Below.mono hB HB.out.size))
  replace Ds := Lib.hid Ds
  have SNs := Lib.hid ss
  have SDs := Lib.hid ts
  clear hB gs ss ts
  go_upto_region 2 with fail
  have lws := Ds.out.lt
  refine wp_region_calm 9 [8] ([fun vq _ => vq = .pointer (some ⟨bs, 0, none⟩),
      fun vq wq => ZV wq vq ((((6 : Int) : Rat)).num),
      fun vq wq => LV wq vq ([4]) 4,
      fun vq wq => WV wq vq ((-4)),
      fun vq wq => ∃ u0, vq = .tuple #[u0, .int .i64 0] ∧ RV wq u0 ((Rat.divInt (((6 : Int) : Rat)).num (-4))),
      fun vq wq => ∃ u0, vq = .tuple #[u0, .int .i64 0] ∧ RV wq u0 ((Rat.divInt (((6 : Int) : Rat)).num (-4))),
      fun vq wq => RV wq vq ((Rat.divInt (((6 : Int) : Rat)).num (-4))),
      fun vq _ => vq = .int .i64 0,
      fun vq wq => ∃ bq, vq = .pointer (some ⟨bq, 0, none⟩) ∧ BoxN wq bq 26 #[.bool false, .slice none 0 0, .slice none 0 0] ∧ (y2).heap.size ≤ bq]) (by kernel_rfl) (by decide) ?_ ?_ ?_
  · intro j hj v w h
    simp only [List.mem_cons, List.not_mem_nil, or_false] at hj
    subst hj
    all_goals (obtain ⟨b, rfl, hB, _⟩ := h; exact hB.lt)
  · refine po rfl (fun lq aq wq hk hr K hK => ?_) ?_
    · have B1 : ev aq (.tmp 1) = .pointer (some ⟨bs, 0, none⟩) := hk.base 1 (by kernel_rfl) rfl
      exact vc hK (by go_simp) (fun w2 h2 => rfl)
    refine po rfl (fun lq aq wq hk hr K hK => ?_) ?_
    · have E0 : ev aq (.tmp 13) = .pointer (some ⟨bs, 0, none⟩) := hk.dc hr 0 (by kernel_rfl) fun _ _ h => h
      have hb : Below _ _ _ := hk.ext
      exact vc hK (op_loadN 13 _ E0 (Ds.out.below hb)) (fun w2 h2 => ⟨_, _, _, _, rfl, (SNs.out.below hb).below h2⟩)
    refine po rfl (fun lq aq wq hk hr K hK => ?_) ?_
    · exact wp_of_value (by go_simp) (hK.out _ _ ((Grows.refl _).alloc _) (fun w2 h2 => (lit_lv wq 43 (cs := #[.int .u32 4]) (n := 1) [4] 4 rfl rfl (by decide) (by decide)).grow h2) (fun h => absurd h (by decide)))
    refine po rfl (fun lq aq wq hk hr K hK => ?_) ?_
    · obtain ⟨v2, E2, r2⟩ := hk.dp hr 2 15 (by kernel_rfl)
      have r2 : LV wq v2 ([4]) 4 := r2
      obtain ⟨A2, c2, rfl, hnd⟩ := r2
      exact vc hK (by go_simp) (fun w2 h2 => (wv_lit true hnd (by decide) (by decide)).grow h2)
    refine po rfl (fun lq aq wq hk hr K hK => ?_) ?_
    · obtain ⟨v1, E1, r1⟩ := hk.dp hr 1 14 (by kernel_rfl)
      have r1 : ZV wq v1 ((((6 : Int) : Rat)).num) := r1
      obtain ⟨v3, E3, r3⟩ := hk.dp hr 3 16 (by kernel_rfl)
      have r3 : WV wq v3 ((-4)) := r3
      exact yc hK (by go_simp) (qof_neg wq (r1).wv r3 (by decide)) (fun u w1 hu w2 h2 => (let ⟨u0, e0, h0⟩ := hu; ⟨u0, e0, (h0).grow h2⟩))
    refine po rfl (fun lq aq wq hk hr K hK => ?_) ?_
    · obtain ⟨v4, E4, r4⟩ := hk.dp hr 4 17 (by kernel_rfl)
      have r4 : ∃ u0, v4 = .tuple #[u0, .int .i64 0] ∧ RV wq u0 ((Rat.divInt (((6 : Int) : Rat)).num (-4))) := r4
      exact vc hK (by go_simp) (fun w2 h2 => (let ⟨u0, e0, h0⟩ := r4; ⟨u0, e0, (h0).grow h2⟩))
    refine po rfl (fun lq aq wq hk hr K hK => ?_) ?_
    · obtain ⟨v5, E5, r5⟩ := hk.dp hr 5 12 (by kernel_rfl)
      have r5 : ∃ u0, v5 = .tuple #[u0, .int .i64 0] ∧ RV wq u0 ((Rat.divInt (((6 : Int) : Rat)).num (-4))) := r5
      obtain ⟨u0, rfl, h0⟩ := r5
      exact vc hK (by go_simp) (fun w2 h2 => (h0).grow h2)
    refine po rfl (fun lq aq wq hk hr K hK => ?_) ?_
    · obtain ⟨v5, E5, r5⟩ := hk.dp hr 5 12 (by kernel_rfl)
      have r5 : ∃ u0, v5 = .tuple #[u0, .int .i64 0] ∧ RV wq u0 ((Rat.divInt (((6 : Int) : Rat)).num (-4))) := r5
      obtain ⟨u0, rfl, h0⟩ := r5
      exact vc hK (by go_simp) (fun w2 h2 => rfl)
    refine po rfl (fun lq aq wq hk hr K hK => ?_) ?_
    · exact wp_of_value (by go_simp) (hK.out _ _ ((Grows.refl _).alloc _) (fun w2 h2 => ⟨_, rfl, (BoxN.new wq 26 _).below h2, hk.ext.size⟩) (fun _ => Nat.le_refl _))
    exact AllOps.nil
  intro V x3 hG hV hap
  have r6 : RV x3 (V 6) ((Rat.divInt (((6 : Int) : Rat)).num (-4))) := hV 6 (by decide)
  have r7 : (V 7) = .int .i64 0 := hV 7 (by decide)
  have r8 : ∃ bq, (V 8) = .pointer (some ⟨bq, 0, none⟩) ∧ BoxN x3 bq 26 #[.bool false, .slice none 0 0, .slice none 0 0] ∧ (y2).heap.size ≤ bq := hV 8 (by decide)
  clear hV
  simp only [List.take_succ_cons, List.take_zero, List.drop_succ_cons, List.drop_zero, putAll, Act.put, List.setIfInBounds_toArray, List.set_cons_zero, List.set_cons_succ]
  have hb := (show Below _ _ _ from hG)
  obtain ⟨ba, ea, Da, ga⟩ := r8
  obtain ⟨na, Aa, ka, ca, Ba, ja, da, ea9, sa, ta, hda⟩ := r6
  simp only [ea, ea9, r7]
  clear ea ea9 hap hG r7
  replace Da : Box3 _ ba 26 (.bool false) (.slice none 0 0) (.slice none 0 0) := Da
  refine wpList_of_skip rfl (op_store3 2 18 _ rfl rfl Da) ?_
  have hB := put3_below (x' := .bool na) (y' := .slice Aa ka ca) (z' := .slice Ba ja da) hb ga
  replace sa := sa.put3 Da (.bool na) (.slice Aa ka ca) (.slice Ba ja da)
  replace ta := ta.put3 Da (.bool na) (.slice Aa ka ca) (.slice Ba ja da)
  replace Da := put3_own (x' := .bool na) (y' := .slice Aa ka ca) (z' := .slice Ba ja da) Da
  clear hb
  generalize put3 x3 ba (.bool na) (.slice Aa ka ca) (.slice Ba ja da) = y4 at *
  replace Ds := Lib.hid (Ds.out.below hB)
  replace SNs := Lib.hid (SNs.out.below hB)
  replace SDs := Lib.hid (SDs.out.below hB)
  replace HB := Lib.hid (HB.out.trans (Below.mono hB HB.out.size))
  replace lws := Nat.lt_of_lt_of_le lws ga
  replace Da := Lib.hid Da
  have SNa := Lib.hid sa
  have SDa := Lib.hid ta
  clear hB ga sa ta
  go_upto_region 3 with fail
  have lws := Ds.out.lt
  have lwa := Da.out.lt
  refine wp_region_calm 5 [4] ([fun vq wq => LV wq vq ([2, 0]) 2,
      fun vq wq => WV wq vq 2,
      fun vq wq => LV wq vq ([6]) 6,
      fun vq wq => QV wq vq ((mkRat 2 (dn 6))),
      fun vq wq => ∃ bq, vq = .pointer (some ⟨bq, 0, none⟩) ∧ BoxN wq bq 26 #[.bool false, .slice none 0 0, .slice none 0 0] ∧ (y4).heap.size ≤ bq]) (by kernel_rfl) (by decide) ?_ ?_ ?_
  · intro j hj v w h
    simp only [List.mem_cons, List.not_mem_nil, or_false] at hj
    subst hj
    all_goals (obtain ⟨b, rfl, hB, _⟩ := h; exact hB.lt)
  · refine po rfl (fun lq aq wq hk hr K hK => ?_) ?_
    · exact wp_of_value (by go_simp) (hK.out _ _ ((Grows.refl _).alloc _) (fun w2 h2 => (lit_lv wq 43 (cs := #[.int .u32 2, .int .u32 0]) (n := 2) [2, 0] 2 rfl rfl (by decide) (by decide)).grow h2) (fun h => absurd h (by decide)))
    refine po rfl (fun lq aq wq hk hr K hK => ?_) ?_
    · obtain ⟨v0, E0, r0⟩ := hk.dp hr 0 20 (by kernel_rfl)
      have r0 : LV wq v0 ([2, 0]) 2 := r0
      obtain ⟨A0, c0, rfl, hnd⟩ := r0
      exact vc hK (by go_simp) (fun w2 h2 => (wv_lit false hnd (by decide) (by decide)).grow h2)
    refine po rfl (fun lq aq wq hk hr K hK => ?_) ?_
    · exact wp_of_value (by go_simp) (hK.out _ _ ((Grows.refl _).alloc _) (fun w2 h2 => (lit_lv wq 43 (cs := #[.int .u32 6]) (n := 1) [6] 6 rfl rfl (by decide) (by decide)).grow h2) (fun h => absurd h (by decide)))
    refine po rfl (fun lq aq wq hk hr K hK => ?_) ?_
    · obtain ⟨v1, E1, r1⟩ := hk.dp hr 1 21 (by kernel_rfl)
      have r1 : WV wq v1 2 := r1
      obtain ⟨v2, E2, r2⟩ := hk.dp hr 2 22 (by kernel_rfl)
      have r2 : LV wq v2 ([6]) 6 := r2
      obtain ⟨n1, A1, k1, c1, rfl, s1⟩ := r1
      obtain ⟨A2, c2, rfl, hnd⟩ := r2
      have hsl : ∃ B j e, Value.slice A2 ([6]).length c2 = Value.slice B j e := ⟨_, _, _, rfl⟩
      exact vc hK (op_rat 21 22 E1 E2 hsl) (fun w2 h2 => QV.grow ⟨_, _, _, _, _, _, _, rfl, _, _, _, s1, hnd, (by decide), rfl⟩ h2)
    refine po rfl (fun lq aq wq hk hr K hK => ?_) ?_
    · exact wp_of_value (by go_simp) (hK.out _ _ ((Grows.refl _).alloc _) (fun w2 h2 => ⟨_, rfl, (BoxN.new wq 26 _).below h2, hk.ext.size⟩) (fun _ => Nat.le_refl _))
    exact AllOps.nil
  intro V x5 hG hV hap
  have r3 : QV x5 (V 3) ((mkRat 2 (dn 6))) := hV 3 (by decide)
  have r4 : ∃ bq, (V 4) = .pointer (some ⟨bq, 0, none⟩) ∧ BoxN x5 bq 26 #[.bool false, .slice none 0 0, .slice none 0 0] ∧ (y4).heap.size ≤ bq := hV 4 (by decide)
  clear hV
  simp only [List.take_succ_cons, List.take_zero, List.drop_succ_cons, List.drop_zero, putAll, Act.put, List.setIfInBounds_toArray, List.set_cons_zero, List.set_cons_succ]
  have hb := (show Below _ _ _ from hG)
  obtain ⟨bw, ew, Dw, gw⟩ := r4
  obtain ⟨nw, Aw, kw, cw, Bw, jw, dw, ew9, zw, lw, aw, sw, tw, hlw, ew8⟩ := r3
  simp only [ew, ew9]
  clear ew ew9 hap hG
  have hkw : szz zw ≤ 1000 := sw.size
  replace Dw : Box3 _ bw 26 (.bool false) (.slice none 0 0) (.slice none 0 0) := Dw
  refine wpList_of_skip rfl (op_store3 4 23 _ rfl rfl Dw) ?_
  have hB := put3_below (x' := .bool nw) (y' := .slice Aw kw cw) (z' := .slice Bw jw dw) hb gw
  replace sw := sw.put3 Dw (.bool nw) (.slice Aw kw cw) (.slice Bw jw dw)
  replace tw := tw.put3 Dw (.bool nw) (.slice Aw kw cw) (.slice Bw jw dw)
  replace Dw := put3_own (x' := .bool nw) (y' := .slice Aw kw cw) (z' := .slice Bw jw dw) Dw
  clear hb
  generalize put3 x5 bw (.bool nw) (.slice Aw kw cw) (.slice Bw jw dw) = y6 at *
  replace Ds := Lib.hid (Ds.out.below hB)
  replace SNs := Lib.hid (SNs.out.below hB)
  replace SDs := Lib.hid (SDs.out.below hB)
  replace Da := Lib.hid (Da.out.below hB)
  replace SNa := Lib.hid (SNa.out.below hB)
  replace SDa := Lib.hid (SDa.out.below hB)
  replace HB := Lib.hid (HB.out.trans (Below.mono hB HB.out.size))
  replace lws := Nat.lt_of_lt_of_le lws gw
  replace lwa := Nat.lt_of_lt_of_le lwa gw
  replace Dw := Lib.hid Dw
  have SNw := Lib.hid sw
  have SDw := Lib.hid tw
  clear hB gw sw tw
  go_upto_region 4 with fail
  have lws := Ds.out.lt
  have lwa := Da.out.lt
  have lww := Dw.out.lt
  refine wp_region_calm 5 [4] ([fun vq wq => ∃ u0, vq = .tuple #[u0, .bool false] ∧ RV wq u0 ((0 : Rat)),
      fun vq wq => ∃ u0, vq = .tuple #[u0, .bool false] ∧ RV wq u0 ((0 : Rat)),
      fun vq wq => RV wq vq ((0 : Rat)),
      fun vq _ => vq = .bool false,
      fun vq wq => ∃ bq, vq = .pointer (some ⟨bq, 0, none⟩) ∧ BoxN wq bq 26 #[.bool false, .slice none 0 0, .slice none 0 0] ∧ (y6).heap.size ≤ bq]) (by kernel_rfl) (by decide) ?_ ?_ ?_
  · intro j hj v w h
    simp only [List.mem_cons, List.not_mem_nil, or_false] at hj
    subst hj
    all_goals (obtain ⟨b, rfl, hB, _⟩ := h; exact hB.lt)
  · refine po rfl (fun lq aq wq hk hr K hK => ?_) ?_
    · exact yc hK (by go_simp) (qparse_v wq (HL.out.below (HB.out.trans (Below.mono hk.ext HB.out.size))) cf9 (by decide) rfl) (fun u w1 hu w2 h2 => (let ⟨u0, e0, h0⟩ := hu; ⟨u0, e0, (h0).grow h2⟩))
    refine po rfl (fun lq aq wq hk hr K hK => ?_) ?_
    · obtain ⟨v0, E0, r0⟩ := hk.dp hr 0 25 (by kernel_rfl)
      have r0 : ∃ u0, v0 = .tuple #[u0, .bool false] ∧ RV wq u0 ((0 : Rat)) := r0
      exact vc hK (by go_simp) (fun w2 h2 => (let ⟨u0, e0, h0⟩ := r0; ⟨u0, e0, (h0).grow h2⟩))
    refine po rfl (fun lq aq wq hk hr K hK => ?_) ?_
    · obtain ⟨v1, E1, r1⟩ := hk.dp hr 1 24 (by kernel_rfl)
      have r1 : ∃ u0, v1 = .tuple #[u0, .bool false] ∧ RV wq u0 ((0 : Rat)) := r1
      obtain ⟨u0, rfl, h0⟩ := r1
      exact vc hK (by go_simp) (fun w2 h2 => (h0).grow h2)
    refine po rfl (fun lq aq wq hk hr K hK => ?_) ?_
    · obtain ⟨v1, E1, r1⟩ := hk.dp hr 1 24 (by kernel_rfl)
      have r1 : ∃ u0, v1 = .tuple #[u0, .bool false] ∧ RV wq u0 ((0 : Rat)) := r1
      obtain ⟨u0, rfl, h0⟩ := r1
      exact vc hK (by go_simp) (fun w2 h2 => rfl)
    refine po rfl (fun lq aq wq hk hr K hK => ?_) ?_
    · exact wp_of_value (by go_simp) (hK.out _ _ ((Grows.refl _).alloc _) (fun w2 h2 => ⟨_, rfl, (BoxN.new wq 26 _).below h2, hk.ext.size⟩) (fun _ => Nat.le_refl _))
    exact AllOps.nil
  intro V x7 hG hV hap
  have r2 : RV x7 (V 2) ((0 : Rat)) := hV 2 (by decide)
  have r3 : (V 3) = .bool false := hV 3 (by decide)
  have r4 : ∃ bq, (V 4) = .pointer (some ⟨bq, 0, none⟩) ∧ BoxN x7 bq 26 #[.bool false, .slice none 0 0, .slice none 0 0] ∧ (y6).heap.size ≤ bq := hV 4 (by decide)
  clear hV
  simp only [List.take_succ_cons, List.take_zero, List.drop_succ_cons, List.drop_zero, putAll, Act.put, List.setIfInBounds_toArray, List.set_cons_zero, List.set_cons_succ]
  have hb := (show Below _ _ _ from hG)
  obtain ⟨bx, ex, Dx, gx⟩ := r4
  obtain ⟨nx, Ax, kx, cx, Bx, jx, dx, ex9, sx, tx, hdx⟩ := r2
  simp only [ex, ex9, r3]
  clear ex ex9 hap hG r3
  replace Dx : Box3 _ bx 26 (.bool false) (.slice none 0 0) (.slice none 0 0) := Dx
  refine wpList_of_skip rfl (op_store3 5 26 _ rfl rfl Dx) ?_
  have hB := put3_below (x' := .bool nx) (y' := .slice Ax kx cx) (z' := .slice Bx jx dx) hb gx
  replace sx := sx.put3 Dx (.bool nx) (.slice Ax kx cx) (.slice Bx jx dx)
  replace tx := tx.put3 Dx (.bool nx) (.slice Ax kx cx) (.slice Bx jx dx)
  replace Dx := put3_own (x' := .bool nx) (y' := .slice Ax kx cx) (z' := .slice Bx jx dx) Dx
  clear hb
  generalize put3 x7 bx (.bool nx) (.slice Ax kx cx) (.slice Bx jx dx) = y8 at *
  replace Ds := Lib.hid (Ds.out.below hB)
  replace SNs := Lib.hid (SNs.out.below hB)
  replace SDs := Lib.hid (SDs.out.below hB)
  replace Da := Lib.hid (Da.out.below hB)
  replace SNa := Lib.hid (SNa.out.below hB)
  replace SDa := Lib.hid (SDa.out.below hB)
  replace Dw := Lib.hid (Dw.out.below hB)
  replace SNw := Lib.hid (SNw.out.below hB)
  replace SDw := Lib.hid (SDw.out.below hB)
  replace HB := Lib.hid (HB.out.trans (Below.mono hB HB.out.size))
  replace lws := Nat.lt_of_lt_of_le lws gx
  replace lwa := Nat.lt_of_lt_of_le lwa gx
  replace lww := Nat.lt_of_lt_of_le lww gx
  replace Dx := Lib.hid Dx
  have SNx := Lib.hid sx
  have SDx := Lib.hid tx
  clear hB gx sx tx
  go_upto_region 5 with fail
  have lws := Ds.out.lt
  have lwa := Da.out.lt
  have lww := Dw.out.lt
  have lwx := Dx.out.lt
  refine wp_region_calm 5 [4] ([fun vq wq => ∃ u0, vq = .tuple #[u0, .bool true] ∧ RV wq u0 ((mkRat (-5) (dn 3))),
      fun vq wq => ∃ u0, vq = .tuple #[u0, .bool true] ∧ RV wq u0 ((mkRat (-5) (dn 3))),
      fun vq wq => RV wq vq ((mkRat (-5) (dn 3))),
      fun vq _ => vq = .bool true,
      fun vq wq => ∃ bq, vq = .pointer (some ⟨bq, 0, none⟩) ∧ BoxN wq bq 26 #[.bool false, .slice none 0 0, .slice none 0 0] ∧ (y8).heap.size ≤ bq]) (by kernel_rfl) (by decide) ?_ ?_ ?_
  · intro j hj v w h
    simp only [List.mem_cons, List.not_mem_nil, or_false] at hj
    subst hj
    all_goals (obtain ⟨b, rfl, hB, _⟩ := h; exact hB.lt)
  · refine po rfl (fun lq aq wq hk hr K hK => ?_) ?_
    · exact yc hK (by go_simp) (qparse_v wq (HL.out.below (HB.out.trans (Below.mono hk.ext HB.out.size))) cf16 (by decide) rfl) (fun u w1 hu w2 h2 => (let ⟨u0, e0, h0⟩ := hu; ⟨u0, e0, (h0).grow h2⟩))
    refine po rfl (fun lq aq wq hk hr K hK => ?_) ?_
    · obtain ⟨v0, E0, r0⟩ := hk.dp hr 0 29 (by kernel_rfl)
      have r0 : ∃ u0, v0 = .tuple #[u0, .bool true] ∧ RV wq u0 ((mkRat (-5) (dn 3))) := r0
      exact vc hK (by go_simp) (fun w2 h2 => (let ⟨u0, e0, h0⟩ := r0; ⟨u0, e0, (h0).grow h2⟩))
    refine po rfl (fun lq aq wq hk hr K hK => ?_) ?_
    · obtain ⟨v1, E1, r1⟩ := hk.dp hr 1 28 (by kernel_rfl)
      have r1 : ∃ u0, v1 = .tuple #[u0, .bool true] ∧ RV wq u0 ((mkRat (-5) (dn 3))) := r1
      obtain ⟨u0, rfl, h0⟩ := r1
      exact vc hK (by go_simp) (fun w2 h2 => (h0).grow h2)
    refine po rfl (fun lq aq wq hk hr K hK => ?_) ?_
    · obtain ⟨v1, E1, r1⟩ := hk.dp hr 1 28 (by kernel_rfl)
      have r1 : ∃ u0, v1 = .tuple #[u0, .bool true] ∧ RV wq u0 ((mkRat (-5) (dn 3))) := r1
      obtain ⟨u0, rfl, h0⟩ := r1
      exact vc hK (by go_simp) (fun w2 h2 => rfl)
    refine po rfl (fun lq aq wq hk hr K hK => ?_) ?_
    · exact wp_of_value (by go_simp) (hK.out _ _ ((Grows.refl _).alloc _) (fun w2 h2 => ⟨_, rfl, (BoxN.new wq 26 _).below h2, hk.ext.size⟩) (fun _ => Nat.le_refl _))
    exact AllOps.nil
  intro V x9 hG hV hap
  have r2 : RV x9 (V 2) ((mkRat (-5) (dn 3))) := hV 2 (by decide)
  have r3 : (V 3) = .bool true := hV 3 (by decide)
  have r4 : ∃ bq, (V 4) = .pointer (some ⟨bq, 0, none⟩) ∧ BoxN x9 bq 26 #[.bool false, .slice none 0 0, .slice none 0 0] ∧ (y8).heap.size ≤ bq := hV 4 (by decide)
  clear hV
  simp only [List.take_succ_cons, List.take_zero, List.drop_succ_cons, List.drop_zero, putAll, Act.put, List.setIfInBounds_toArray, List.set_cons_zero, List.set_cons_succ]
  have hb := (show Below _ _ _ from hG)
  obtain ⟨bc, ec, Dc, gc⟩ := r4
  obtain ⟨nc, Ac, kc, cc, Bc, jc, dc, ec9, sc, tc, hdc⟩ := r2
  simp only [ec, ec9, r3]
  clear ec ec9 hap hG r3
  replace Dc : Box3 _ bc 26 (.bool false) (.slice none 0 0) (.slice none 0 0) := Dc
  refine wpList_of_skip rfl (op_store3 7 30 _ rfl rfl Dc) ?_
  have hB := put3_below (x' := .bool nc) (y' := .slice Ac kc cc) (z' := .slice Bc jc dc) hb gc
  replace sc := sc.put3 Dc (.bool nc) (.slice Ac kc cc) (.slice Bc jc dc)
  replace tc := tc.put3 Dc (.bool nc) (.slice Ac kc cc) (.slice Bc jc dc)
  replace Dc := put3_own (x' := .bool nc) (y' := .slice Ac kc cc) (z' := .slice Bc jc dc) Dc
  clear hb
  generalize put3 x9 bc (.bool nc) (.slice Ac kc cc) (.slice Bc jc dc) = y10 at *
  replace Ds := Lib.hid (Ds.out.below hB)
  replace SNs := Lib.hid (SNs.out.below hB)
  replace SDs := Lib.hid (SDs.out.below hB)
  replace Da := Lib.hid (Da.out.below hB)
  replace SNa := Lib.hid (SNa.out.below hB)
  replace SDa := Lib.hid (SDa.out.below hB)
  replace Dw := Lib.hid (Dw.out.below hB)
  replace SNw := Lib.hid (SNw.out.below hB)
  replace SDw := Lib.hid (SDw.out.below hB)
  replace Dx := Lib.hid (Dx.out.below hB)
  replace SNx := Lib.hid (SNx.out.below hB)
  replace SDx := Lib.hid (SDx.out.below hB)
  replace HB := Lib.hid (HB.out.trans (Below.mono hB HB.out.size))
  replace lws := Nat.lt_of_lt_of_le lws gc
  replace lwa := Nat.lt_of_lt_of_le lwa gc
  replace lww := Nat.lt_of_lt_of_le lww gc
  replace lwx := Nat.lt_of_lt_of_le lwx gc
  replace Dc := Lib.hid Dc
  have SNc := Lib.hid sc
  have SDc := Lib.hid tc
  clear hB gc sc tc
  go_upto_region 6 with fail
  have lws := Ds.out.lt
  have lwa := Da.out.lt
  have lww := Dw.out.lt
  have lwx := Dx.out.lt
  have lwc := Dc.out.lt
  refine wp_region_calm 5 [4] ([fun vq wq => ∃ u0, vq = .tuple #[u0, .bool false] ∧ RV wq u0 ((0 : Rat)),
      fun vq wq => ∃ u0, vq = .tuple #[u0, .bool false] ∧ RV wq u0 ((0 : Rat)),
      fun vq wq => RV wq vq ((0 : Rat)),
      fun vq _ => vq = .bool false,
      fun vq wq => ∃ bq, vq = .pointer (some ⟨bq, 0, none⟩) ∧ BoxN wq bq 26 #[.bool false, .slice none 0 0, .slice none 0 0] ∧ (y10).heap.size ≤ bq]) (by kernel_rfl) (by decide) ?_ ?_ ?_
  · intro j hj v w h
    simp only [List.mem_cons, List.not_mem_nil, or_false] at hj
    subst hj
    all_goals (obtain ⟨b, rfl, hB, _⟩ := h; exact hB.lt)
  · refine po rfl (fun lq aq wq hk hr K hK => ?_) ?_
    · exact yc hK (by go_simp) (qparse_v wq (HL.out.below (HB.out.trans (Below.mono hk.ext HB.out.size))) cf24 (by decide) rfl) (fun u w1 hu w2 h2 => (let ⟨u0, e0, h0⟩ := hu; ⟨u0, e0, (h0).grow h2⟩))
    refine po rfl (fun lq aq wq hk hr K hK => ?_) ?_
    · obtain ⟨v0, E0, r0⟩ := hk.dp hr 0 33 (by kernel_rfl)
      have r0 : ∃ u0, v0 = .tuple #[u0, .bool false] ∧ RV wq u0 ((0 : Rat)) := r0
      exact vc hK (by go_simp) (fun w2 h2 => (let ⟨u0, e0, h0⟩ := r0; ⟨u0, e0, (h0).grow h2⟩))
    refine po rfl (fun lq aq wq hk hr K hK => ?_) ?_
    · obtain ⟨v1, E1, r1⟩ := hk.dp hr 1 32 (by kernel_rfl)
      have r1 : ∃ u0, v1 = .tuple #[u0, .bool false] ∧ RV wq u0 ((0 : Rat)) := r1
      obtain ⟨u0, rfl, h0⟩ := r1
      exact vc hK (by go_simp) (fun w2 h2 => (h0).grow h2)
    refine po rfl (fun lq aq wq hk hr K hK => ?_) ?_
    · obtain ⟨v1, E1, r1⟩ := hk.dp hr 1 32 (by kernel_rfl)
      have r1 : ∃ u0, v1 = .tuple #[u0, .bool false] ∧ RV wq u0 ((0 : Rat)) := r1
      obtain ⟨u0, rfl, h0⟩ := r1
      exact vc hK (by go_simp) (fun w2 h2 => rfl)
    refine po rfl (fun lq aq wq hk hr K hK => ?_) ?_
    · exact wp_of_value (by go_simp) (hK.out _ _ ((Grows.refl _).alloc _) (fun w2 h2 => ⟨_, rfl, (BoxN.new wq 26 _).below h2, hk.ext.size⟩) (fun _ => Nat.le_refl _))
    exact AllOps.nil
  intro V x11 hG hV hap
  have r2 : RV x11 (V 2) ((0 : Rat)) := hV 2 (by decide)
  have r3 : (V 3) = .bool false := hV 3 (by decide)
  have r4 : ∃ bq, (V 4) = .pointer (some ⟨bq, 0, none⟩) ∧ BoxN x11 bq 26 #[.bool false, .slice none 0 0, .slice none 0 0] ∧ (y10).heap.size ≤ bq := hV 4 (by decide)
  clear hV
  simp only [List.take_succ_cons, List.take_zero, List.drop_succ_cons, List.drop_zero, putAll, Act.put, List.setIfInBounds_toArray, List.set_cons_zero, List.set_cons_succ]
  have hb := (show Below _ _ _ from hG)
  obtain ⟨bp, ep, Dp, gp⟩ := r4
  obtain ⟨np, Ap, kp, cp, Bp, jp, dp, ep9, sp, tp, hdp⟩ := r2
  simp only [ep, ep9, r3]
  clear ep ep9 hap hG r3
  replace Dp : Box3 _ bp 26 (.bool false) (.slice none 0 0) (.slice none 0 0) := Dp
  refine wpList_of_skip rfl (op_store3 9 34 _ rfl rfl Dp) ?_
  have hB := put3_below (x' := .bool np) (y' := .slice Ap kp cp) (z' := .slice Bp jp dp) hb gp
  replace sp := sp.put3 Dp (.bool np) (.slice Ap kp cp) (.slice Bp jp dp)
  replace tp := tp.put3 Dp (.bool np) (.slice Ap kp cp) (.slice Bp jp dp)
  replace Dp := put3_own (x' := .bool np) (y' := .slice Ap kp cp) (z' := .slice Bp jp dp) Dp
  clear hb
  generalize put3 x11 bp (.bool np) (.slice Ap kp cp) (.slice Bp jp dp) = y12 at *
  replace Ds := Lib.hid (Ds.out.below hB)
  replace SNs := Lib.hid (SNs.out.below hB)
  replace SDs := Lib.hid (SDs.out.below hB)
  replace Da := Lib.hid (Da.out.below hB)
  replace SNa := Lib.hid (SNa.out.below hB)
  replace SDa := Lib.hid (SDa.out.below hB)
  replace Dw := Lib.hid (Dw.out.below hB)
  replace SNw := Lib.hid (SNw.out.below hB)
  replace SDw := Lib.hid (SDw.out.below hB)
  replace Dx := Lib.hid (Dx.out.below hB)
  replace SNx := Lib.hid (SNx.out.below hB)
  replace SDx := Lib.hid (SDx.out.below hB)
  replace Dc := Lib.hid (Dc.out.below hB)
  replace SNc := Lib.hid (SNc.out.below hB)
  replace SDc := Lib.hid (SDc.out.below hB)
  replace HB := Lib.hid (HB.out.trans (Below.mono hB HB.out.size))
  replace lws := Nat.lt_of_lt_of_le lws gp
  replace lwa := Nat.lt_of_lt_of_le lwa gp
  replace lww := Nat.lt_of_lt_of_le lww gp
  replace lwx := Nat.lt_of_lt_of_le lwx gp
  replace lwc := Nat.lt_of_lt_of_le lwc gp
  replace Dp := Lib.hid Dp
  have SNp := Lib.hid sp
  have SDp := Lib.hid tp
  clear hB gp sp tp
  go_upto_region 7 with fail
  refine wp_region_going 57 [] ([fun vq wq => RV wq vq ((Rat.divInt (((6 : Int) : Rat)).num (-4))),
      fun vq _ => vq = .string (⟨#[45, 51, 47, 50]⟩),
      fun vq _ => vq = .bool true,
      fun vq _ => vq = .bool true,
      fun vq _ => vq = .int .i64 0,
      fun vq _ => vq = .bool true,
      fun vq _ => vq = .bool true,
      fun vq _ => vq = .bool true,
      fun vq wq => RV wq vq ((((1 : Int) : Rat) / ((2 : Int) : Rat))),
      fun vq wq => RV wq vq ((((1 : Int) : Rat) / ((3 : Int) : Rat))),
      fun vq wq => RV wq vq (((((1 : Int) : Rat) / ((2 : Int) : Rat)) + (((1 : Int) : Rat) / ((3 : Int) : Rat)))),
      fun vq _ => vq = .string (⟨#[53, 47, 54]⟩),
      fun vq _ => vq = .bool true,
      fun vq _ => vq = .bool true,
      fun vq _ => vq = .bool true,
      fun vq wq => RV wq vq ((Rat.divInt (((6 : Int) : Rat)).num (-4))),
      fun vq wq => RV wq vq ((((2 : Int) : Rat) / ((3 : Int) : Rat))),
      fun vq wq => RV wq vq (((Rat.divInt (((6 : Int) : Rat)).num (-4)) * (((2 : Int) : Rat) / ((3 : Int) : Rat)))),
      fun vq _ => vq = .string (⟨#[45, 49]⟩),
      fun vq _ => vq = .bool true,
      fun vq _ => vq = .bool true,
      fun vq _ => vq = .bool true,
      fun vq wq => RV wq vq ((Rat.divInt (((6 : Int) : Rat)).num (-4))),
      fun vq wq => ZV wq vq ((Rat.floor ((Rat.divInt (((6 : Int) : Rat)).num (-4))))),
      fun vq wq => LV wq vq ([2]) 2,
      fun vq wq => ZV wq vq ((-2)),
      fun vq _ => vq = .bool true,
      fun vq _ => vq = .bool true,
      fun vq _ => vq = .bool true,
      fun vq wq => RV wq vq ((Rat.divInt (((6 : Int) : Rat)).num (-4))),
      fun vq wq => ZV wq vq ((qup ((Rat.divInt (((6 : Int) : Rat)).num (-4))))),
      fun vq wq => LV wq vq ([1]) 1,
      fun vq wq => ZV wq vq ((-1)),
      fun vq _ => vq = .bool true,
      fun vq _ => vq = .bool true,
      fun vq _ => vq = .bool true,
      fun vq wq => RV wq vq ((((1 : Int) : Rat) / ((3 : Int) : Rat))),
      fun vq wq => QV wq vq ((mkRat 2 (dn 6))),
      fun vq _ => vq = .int .i64 0,
      fun vq _ => vq = .bool true,
      fun vq _ => vq = .bool true,
      fun vq _ => vq = .bool true,
      fun vq _ => vq = .bool false,
      fun vq _ => vq = .bool true,
      fun vq _ => vq = .bool true,
      fun vq _ => vq = .bool true,
      fun vq _ => vq = .bool true,
      fun vq _ => vq = .bool true,
      fun vq _ => vq = .bool true,
      fun vq wq => RV wq vq ((mkRat (-5) (dn 3))),
      fun vq _ => vq = .string (⟨#[45, 53, 47, 51]⟩),
      fun vq _ => vq = .bool true,
      fun vq _ => vq = .bool true,
      fun vq _ => vq = .bool true,
      fun vq _ => vq = .bool false,
      fun vq _ => vq = .bool true,
      fun vq _ => vq = .bool true]) (by kernel_rfl) (by kernel_rfl) (by decide) (by kernel_rfl) (by kernel_rfl) ?_ ?_ ?_
  · intro j hj; cases hj
  · refine po rfl (fun lq aq wq hk hr K hK => ?_) ?_
    · have B2 : ev aq (.tmp 2) = .pointer (some ⟨ba, 0, none⟩) := hk.base 2 (by kernel_rfl) rfl
      have hb := grows_of hk.ext
      exact vc hK (op_load3 2 _ B2 (Da.out.below hb)) (fun w2 h2 => RV.grow ⟨_, _, _, _, _, _, _, rfl, (SNa.out.below hb), (SDa.out.below hb), hda⟩ h2)
    refine po rfl (fun lq aq wq hk hr K hK => ?_) ?_
    · obtain ⟨v0, E0, r0⟩ := hk.dp hr 0 36 (by kernel_rfl)
      have r0 : RV wq v0 ((Rat.divInt (((6 : Int) : Rat)).num (-4))) := r0
      exact yc hK (by go_simp) (qtext_v wq (r0).qv (s := ⟨#[45, 51, 47, 50]⟩) cf28) (fun u w1 hu w2 h2 => hu)
    refine po rfl (fun lq aq wq hk hr K hK => ?_) ?_
    · have E1 : ev aq (.tmp 37) = .string (⟨#[45, 51, 47, 50]⟩) := hk.dc hr 1 (by kernel_rfl) fun _ _ h => h
      exact vc hK (by go_simp) (fun w2 h2 => rfl)
    refine po rfl (fun lq aq wq hk hr K hK => ?_) ?_
    · have E2 : ev aq (.tmp 38) = .bool true := hk.dc hr 2 (by kernel_rfl) fun _ _ h => h
      exact vc hK (by go_simp) (fun w2 h2 => rfl)
    refine pl 3 39 true rfl (by kernel_rfl) (fun _ _ h => h) (fun lq aq wq hk hr K hK => ?_) ?_
    · have B3 : ev aq (.tmp 3) = .int .i64 0 := hk.base 3 (by kernel_rfl) rfl
      exact vc hK (by go_simp) (fun w2 h2 => rfl)
    refine pl 3 39 true rfl (by kernel_rfl) (fun _ _ h => h) (fun lq aq wq hk hr K hK => ?_) ?_
    · have E4 : ev aq (.tmp 40) = .int .i64 0 := hk.dc hr 4 (by kernel_rfl) fun _ _ h => h
      exact vc hK (by go_simp) (fun w2 h2 => rfl)
    refine po rfl (fun lq aq wq hk hr K hK => ?_) ?_
    · have E3 : ev aq (.tmp 39) = .bool true := hk.dc hr 3 (by kernel_rfl) fun _ _ h => h
      have E5 : ev aq (.tmp 41) = .bool true := hk.dc hr 5 (by kernel_rfl) fun _ _ h => h
      exact vc hK (by go_simp) (fun w2 h2 => rfl)
    refine po rfl (fun lq aq wq hk hr K hK => ?_) ?_
    · have E6 : ev aq (.tmp 42) = .bool true := hk.dc hr 6 (by kernel_rfl) fun _ _ h => h
      exact vc hK (by go_simp) (fun w2 h2 => rfl)
    refine pl 7 43 true rfl (by kernel_rfl) (fun _ _ h => h) (fun lq aq wq hk hr K hK => ?_) ?_
    · exact yc hK (by go_simp) (qof2_v wq 1 2 (by decide) (by decide) (by decide) (by decide) (by decide)) (fun u w1 hu w2 h2 => (hu).grow h2)
    refine pl 7 43 true rfl (by kernel_rfl) (fun _ _ h => h) (fun lq aq wq hk hr K hK => ?_) ?_
    · exact yc hK (by go_simp) (qof2_v wq 1 3 (by decide) (by decide) (by decide) (by decide) (by decide)) (fun u w1 hu w2 h2 => (hu).grow h2)
    refine pl 7 43 true rfl (by kernel_rfl) (fun _ _ h => h) (fun lq aq wq hk hr K hK => ?_) ?_
    · obtain ⟨v8, E8, r8⟩ := hk.dp hr 8 44 (by kernel_rfl)
      have r8 : RV wq v8 ((((1 : Int) : Rat) / ((2 : Int) : Rat))) := r8
      obtain ⟨v9, E9, r9⟩ := hk.dp hr 9 45 (by kernel_rfl)
      have r9 : RV wq v9 ((((1 : Int) : Rat) / ((3 : Int) : Rat))) := r9
      exact yc hK (by go_simp) (qadd_v wq (r8).qv (r9).qv ((Go.Proofs.YtbippecchpaleaaGreatDoor.Qsz.of2 (by decide) (by decide) (by decide) (by decide) : Qsz _ 4).mono (by decide)) ((Go.Proofs.YtbippecchpaleaaGreatDoor.Qsz.of2 (by decide) (by decide) (by decide) (by decide) : Qsz _ 4).mono (by decide))) (fun u w1 hu w2 h2 => (hu).grow h2)
    refine pl 7 43 true rfl (by kernel_rfl) (fun _ _ h => h) (fun lq aq wq hk hr K hK => ?_) ?_
    · obtain ⟨v10, E10, r10⟩ := hk.dp hr 10 46 (by kernel_rfl)
      have r10 : RV wq v10 (((((1 : Int) : Rat) / ((2 : Int) : Rat)) + (((1 : Int) : Rat) / ((3 : Int) : Rat)))) := r10
      exact yc hK (by go_simp) (qtext_v wq (r10).qv (s := ⟨#[53, 47, 54]⟩) cf32) (fun u w1 hu w2 h2 => hu)
    refine pl 7 43 true rfl (by kernel_rfl) (fun _ _ h => h) (fun lq aq wq hk hr K hK => ?_) ?_
    · have E11 : ev aq (.tmp 47) = .string (⟨#[53, 47, 54]⟩) := hk.dc hr 11 (by kernel_rfl) fun _ _ h => h
      exact vc hK (by go_simp) (fun w2 h2 => rfl)
    refine po rfl (fun lq aq wq hk hr K hK => ?_) ?_
    · have E7 : ev aq (.tmp 43) = .bool true := hk.dc hr 7 (by kernel_rfl) fun _ _ h => h
      have E12 : ev aq (.tmp 48) = .bool true := hk.dc hr 12 (by kernel_rfl) fun _ _ h => h
      exact vc hK (by go_simp) (fun w2 h2 => rfl)
    refine po rfl (fun lq aq wq hk hr K hK => ?_) ?_
    · have E13 : ev aq (.tmp 49) = .bool true := hk.dc hr 13 (by kernel_rfl) fun _ _ h => h
      exact vc hK (by go_simp) (fun w2 h2 => rfl)
    refine pl 14 50 true rfl (by kernel_rfl) (fun _ _ h => h) (fun lq aq wq hk hr K hK => ?_) ?_
    · have B2 : ev aq (.tmp 2) = .pointer (some ⟨ba, 0, none⟩) := hk.base 2 (by kernel_rfl) rfl
      have hb := grows_of hk.ext
      exact vc hK (op_load3 2 _ B2 (Da.out.below hb)) (fun w2 h2 => RV.grow ⟨_, _, _, _, _, _, _, rfl, (SNa.out.below hb), (SDa.out.below hb), hda⟩ h2)
    refine pl 14 50 true rfl (by kernel_rfl) (fun _ _ h => h) (fun lq aq wq hk hr K hK => ?_) ?_
    · exact yc hK (by go_simp) (qof2_v wq 2 3 (by decide) (by decide) (by decide) (by decide) (by decide)) (fun u w1 hu w2 h2 => (hu).grow h2)
    refine pl 14 50 true rfl (by kernel_rfl) (fun _ _ h => h) (fun lq aq wq hk hr K hK => ?_) ?_
    · obtain ⟨v15, E15, r15⟩ := hk.dp hr 15 51 (by kernel_rfl)
      have r15 : RV wq v15 ((Rat.divInt (((6 : Int) : Rat)).num (-4))) := r15
      obtain ⟨v16, E16, r16⟩ := hk.dp hr 16 52 (by kernel_rfl)
      have r16 : RV wq v16 ((((2 : Int) : Rat) / ((3 : Int) : Rat))) := r16
      exact yc hK (by go_simp) (qmulK_v wq (r15).qv (r16).qv (cf1.mono (by decide)) ((Go.Proofs.YtbippecchpaleaaGreatDoor.Qsz.of2 (by decide) (by decide) (by decide) (by decide) : Qsz _ 4).mono (by decide))) (fun u w1 hu w2 h2 => (hu).grow h2)
    refine pl 14 50 true rfl (by kernel_rfl) (fun _ _ h => h) (fun lq aq wq hk hr K hK => ?_) ?_
    · obtain ⟨v17, E17, r17⟩ := hk.dp hr 17 53 (by kernel_rfl)
      have r17 : RV wq v17 (((Rat.divInt (((6 : Int) : Rat)).num (-4)) * (((2 : Int) : Rat) / ((3 : Int) : Rat)))) := r17
      exact yc hK (by go_simp) (qtext_v wq (r17).qv (s := ⟨#[45, 49]⟩) cf36) (fun u w1 hu w2 h2 => hu)
    refine pl 14 50 true rfl (by kernel_rfl) (fun _ _ h => h) (fun lq aq wq hk hr K hK => ?_) ?_
    · have E18 : ev aq (.tmp 54) = .string (⟨#[45, 49]⟩) := hk.dc hr 18 (by kernel_rfl) fun _ _ h => h
      exact vc hK (by go_simp) (fun w2 h2 => rfl)
    refine po rfl (fun lq aq wq hk hr K hK => ?_) ?_
    · have E14 : ev aq (.tmp 50) = .bool true := hk.dc hr 14 (by kernel_rfl) fun _ _ h => h
      have E19 : ev aq (.tmp 55) = .bool true := hk.dc hr 19 (by kernel_rfl) fun _ _ h => h
      exact vc hK (by go_simp) (fun w2 h2 => rfl)
    refine po rfl (fun lq aq wq hk hr K hK => ?_) ?_
    · have E20 : ev aq (.tmp 56) = .bool true := hk.dc hr 20 (by kernel_rfl) fun _ _ h => h
      exact vc hK (by go_simp) (fun w2 h2 => rfl)
    refine pl 21 57 true rfl (by kernel_rfl) (fun _ _ h => h) (fun lq aq wq hk hr K hK => ?_) ?_
    · have B2 : ev aq (.tmp 2) = .pointer (some ⟨ba, 0, none⟩) := hk.base 2 (by kernel_rfl) rfl
      have hb := grows_of hk.ext
      exact vc hK (op_load3 2 _ B2 (Da.out.below hb)) (fun w2 h2 => RV.grow ⟨_, _, _, _, _, _, _, rfl, (SNa.out.below hb), (SDa.out.below hb), hda⟩ h2)
    refine pl 21 57 true rfl (by kernel_rfl) (fun _ _ h => h) (fun lq aq wq hk hr K hK => ?_) ?_
    · obtain ⟨v22, E22, r22⟩ := hk.dp hr 22 58 (by kernel_rfl)
      have r22 : RV wq v22 ((Rat.divInt (((6 : Int) : Rat)).num (-4))) := r22
      exact yc hK (by go_simp) (qfloor_v wq (r22).qv (cf1.mono (by decide)).floor) (fun u w1 hu w2 h2 => (hu).grow h2)
    refine pl 21 57 true rfl (by kernel_rfl) (fun _ _ h => h) (fun lq aq wq hk hr K hK => ?_) ?_
    · exact wp_of_value (by go_simp) (hK.out _ _ ((Grows.refl _).alloc _) (fun w2 h2 => (lit_lv wq 43 (cs := #[.int .u32 2]) (n := 1) [2] 2 rfl rfl (by decide) (by decide)).grow h2) (fun h => absurd h (by decide)))
    refine pl 21 57 true rfl (by kernel_rfl) (fun _ _ h => h) (fun lq aq wq hk hr K hK => ?_) ?_
    · obtain ⟨v24, E24, r24⟩ := hk.dp hr 24 60 (by kernel_rfl)
      have r24 : LV wq v24 ([2]) 2 := r24
      obtain ⟨A24, c24, rfl, hnd⟩ := r24
      exact vc hK (by go_simp) (fun w2 h2 => (zv_lv ⟨_, _, rfl, hnd⟩ (by rw [limbs_pos (by decide)]; simp [limbs_zero]) (sz_le9 (by decide)) rfl rfl).grow h2)
    refine pl 21 57 true rfl (by kernel_rfl) (fun _ _ h => h) (fun lq aq wq hk hr K hK => ?_) ?_
    · obtain ⟨v23, E23, r23⟩ := hk.dp hr 23 59 (by kernel_rfl)
      have r23 : ZV wq v23 ((Rat.floor ((Rat.divInt (((6 : Int) : Rat)).num (-4))))) := r23
      obtain ⟨v25, E25, r25⟩ := hk.dp hr 25 61 (by kernel_rfl)
      have r25 : ZV wq v25 ((-2)) := r25
      exact yc hK (by go_simp) (rsameI_v wq r23 r25 (t := true) cf37) (fun u w1 hu w2 h2 => hu)
    refine po rfl (fun lq aq wq hk hr K hK => ?_) ?_
    · have E21 : ev aq (.tmp 57) = .bool true := hk.dc hr 21 (by kernel_rfl) fun _ _ h => h
      have E26 : ev aq (.tmp 62) = .bool true := hk.dc hr 26 (by kernel_rfl) fun _ _ h => h
      exact vc hK (by go_simp) (fun w2 h2 => rfl)
    refine po rfl (fun lq aq wq hk hr K hK => ?_) ?_
    · have E27 : ev aq (.tmp 63) = .bool true := hk.dc hr 27 (by kernel_rfl) fun _ _ h => h
      exact vc hK (by go_simp) (fun w2 h2 => rfl)
    refine pl 28 64 true rfl (by kernel_rfl) (fun _ _ h => h) (fun lq aq wq hk hr K hK => ?_) ?_
    · have B2 : ev aq (.tmp 2) = .pointer (some ⟨ba, 0, none⟩) := hk.base 2 (by kernel_rfl) rfl
      have hb := grows_of hk.ext
      exact vc hK (op_load3 2 _ B2 (Da.out.below hb)) (fun w2 h2 => RV.grow ⟨_, _, _, _, _, _, _, rfl, (SNa.out.below hb), (SDa.out.below hb), hda⟩ h2)
    refine pl 28 64 true rfl (by kernel_rfl) (fun _ _ h => h) (fun lq aq wq hk hr K hK => ?_) ?_
    · obtain ⟨v29, E29, r29⟩ := hk.dp hr 29 65 (by kernel_rfl)
      have r29 : RV wq v29 ((Rat.divInt (((6 : Int) : Rat)).num (-4))) := r29
      exact yc hK (by go_simp) (qceil_v wq (r29).qv (cf1.mono (by decide)).neg.floor) (fun u w1 hu w2 h2 => (hu).grow h2)
    refine pl 28 64 true rfl (by kernel_rfl) (fun _ _ h => h) (fun lq aq wq hk hr K hK => ?_) ?_
    · exact wp_of_value (by go_simp) (hK.out _ _ ((Grows.refl _).alloc _) (fun w2 h2 => (lit_lv wq 43 (cs := #[.int .u32 1]) (n := 1) [1] 1 rfl rfl (by decide) (by decide)).grow h2) (fun h => absurd h (by decide)))
    refine pl 28 64 true rfl (by kernel_rfl) (fun _ _ h => h) (fun lq aq wq hk hr K hK => ?_) ?_
    · obtain ⟨v31, E31, r31⟩ := hk.dp hr 31 67 (by kernel_rfl)
      have r31 : LV wq v31 ([1]) 1 := r31
      obtain ⟨A31, c31, rfl, hnd⟩ := r31
      exact vc hK (by go_simp) (fun w2 h2 => (zv_lv ⟨_, _, rfl, hnd⟩ (by rw [limbs_pos (by decide)]; simp [limbs_zero]) (sz_le9 (by decide)) rfl rfl).grow h2)
    refine pl 28 64 true rfl (by kernel_rfl) (fun _ _ h => h) (fun lq aq wq hk hr K hK => ?_) ?_
    · obtain ⟨v30, E30, r30⟩ := hk.dp hr 30 66 (by kernel_rfl)
      have r30 : ZV wq v30 ((qup ((Rat.divInt (((6 : Int) : Rat)).num (-4))))) := r30
      obtain ⟨v32, E32, r32⟩ := hk.dp hr 32 68 (by kernel_rfl)
      have r32 : ZV wq v32 ((-1)) := r32
      exact yc hK (by go_simp) (rsameI_v wq r30 r32 (t := true) cf38) (fun u w1 hu w2 h2 => hu)
    refine po rfl (fun lq aq wq hk hr K hK => ?_) ?_
    · have E28 : ev aq (.tmp 64) = .bool true := hk.dc hr 28 (by kernel_rfl) fun _ _ h => h
      have E33 : ev aq (.tmp 69) = .bool true := hk.dc hr 33 (by kernel_rfl) fun _ _ h => h
      exact vc hK (by go_simp) (fun w2 h2 => rfl)
    refine po rfl (fun lq aq wq hk hr K hK => ?_) ?_
    · have E34 : ev aq (.tmp 70) = .bool true := hk.dc hr 34 (by kernel_rfl) fun _ _ h => h
      exact vc hK (by go_simp) (fun w2 h2 => rfl)
    refine pl 35 71 true rfl (by kernel_rfl) (fun _ _ h => h) (fun lq aq wq hk hr K hK => ?_) ?_
    · exact yc hK (by go_simp) (qof2_v wq 1 3 (by decide) (by decide) (by decide) (by decide) (by decide)) (fun u w1 hu w2 h2 => (hu).grow h2)
    refine pl 35 71 true rfl (by kernel_rfl) (fun _ _ h => h) (fun lq aq wq hk hr K hK => ?_) ?_
    · have B4 : ev aq (.tmp 4) = .pointer (some ⟨bw, 0, none⟩) := hk.base 4 (by kernel_rfl) rfl
      have hb := grows_of hk.ext
      exact vc hK (op_load3 4 _ B4 (Dw.out.below hb)) (fun w2 h2 => QV.grow ⟨_, _, _, _, _, _, _, rfl, _, _, _, (SNw.out.below hb), (SDw.out.below hb), hlw, ew8⟩ h2)
    refine pl 35 71 true rfl (by kernel_rfl) (fun _ _ h => h) (fun lq aq wq hk hr K hK => ?_) ?_
    · obtain ⟨v36, E36, r36⟩ := hk.dp hr 36 72 (by kernel_rfl)
      have r36 : RV wq v36 ((((1 : Int) : Rat) / ((3 : Int) : Rat))) := r36
      obtain ⟨v37, E37, r37⟩ := hk.dp hr 37 73 (by kernel_rfl)
      have r37 : QV wq v37 ((mkRat 2 (dn 6))) := r37
      exact yc hK (by go_simp) (qcmp_v wq (r36).qv r37 ((Go.Proofs.YtbippecchpaleaaGreatDoor.Qsz.of2 (by decide) (by decide) (by decide) (by decide) : Qsz _ 4).mono (by decide)) (cf2.mono (by decide)) (k := 0) cf39) (fun u w1 hu w2 h2 => hu)
    refine pl 35 71 true rfl (by kernel_rfl) (fun _ _ h => h) (fun lq aq wq hk hr K hK => ?_) ?_
    · have E38 : ev aq (.tmp 74) = .int .i64 0 := hk.dc hr 38 (by kernel_rfl) fun _ _ h => h
      exact vc hK (by go_simp) (fun w2 h2 => rfl)
    refine po rfl (fun lq aq wq hk hr K hK => ?_) ?_
    · have E35 : ev aq (.tmp 71) = .bool true := hk.dc hr 35 (by kernel_rfl) fun _ _ h => h
      have E39 : ev aq (.tmp 75) = .bool true := hk.dc hr 39 (by kernel_rfl) fun _ _ h => h
      exact vc hK (by go_simp) (fun w2 h2 => rfl)
    refine po rfl (fun lq aq wq hk hr K hK => ?_) ?_
    · have E40 : ev aq (.tmp 76) = .bool true := hk.dc hr 40 (by kernel_rfl) fun _ _ h => h
      exact vc hK (by go_simp) (fun w2 h2 => rfl)
    refine pl 41 77 true rfl (by kernel_rfl) (fun _ _ h => h) (fun lq aq wq hk hr K hK => ?_) ?_
    · have B6 : ev aq (.tmp 6) = .bool false := hk.base 6 (by kernel_rfl) rfl
      exact vc hK (by go_simp) (fun w2 h2 => rfl)
    refine pl 41 77 true rfl (by kernel_rfl) (fun _ _ h => h) (fun lq aq wq hk hr K hK => ?_) ?_
    · have E42 : ev aq (.tmp 78) = .bool false := hk.dc hr 42 (by kernel_rfl) fun _ _ h => h
      exact vc hK (by go_simp) (fun w2 h2 => rfl)
    refine po rfl (fun lq aq wq hk hr K hK => ?_) ?_
    · have E41 : ev aq (.tmp 77) = .bool true := hk.dc hr 41 (by kernel_rfl) fun _ _ h => h
      have E43 : ev aq (.tmp 79) = .bool true := hk.dc hr 43 (by kernel_rfl) fun _ _ h => h
      exact vc hK (by go_simp) (fun w2 h2 => rfl)
    refine po rfl (fun lq aq wq hk hr K hK => ?_) ?_
    · have E44 : ev aq (.tmp 80) = .bool true := hk.dc hr 44 (by kernel_rfl) fun _ _ h => h
      exact vc hK (by go_simp) (fun w2 h2 => rfl)
    refine pl 45 81 true rfl (by kernel_rfl) (fun _ _ h => h) (fun lq aq wq hk hr K hK => ?_) ?_
    · have B8 : ev aq (.tmp 8) = .bool true := hk.base 8 (by kernel_rfl) rfl
      exact vc hK (by go_simp) (fun w2 h2 => rfl)
    refine po rfl (fun lq aq wq hk hr K hK => ?_) ?_
    · have E45 : ev aq (.tmp 81) = .bool true := hk.dc hr 45 (by kernel_rfl) fun _ _ h => h
      have E46 : ev aq (.tmp 82) = .bool true := hk.dc hr 46 (by kernel_rfl) fun _ _ h => h
      exact vc hK (by go_simp) (fun w2 h2 => rfl)
    refine po rfl (fun lq aq wq hk hr K hK => ?_) ?_
    · have E47 : ev aq (.tmp 83) = .bool true := hk.dc hr 47 (by kernel_rfl) fun _ _ h => h
      exact vc hK (by go_simp) (fun w2 h2 => rfl)
    refine pl 48 84 true rfl (by kernel_rfl) (fun _ _ h => h) (fun lq aq wq hk hr K hK => ?_) ?_
    · have B7 : ev aq (.tmp 7) = .pointer (some ⟨bc, 0, none⟩) := hk.base 7 (by kernel_rfl) rfl
      have hb := grows_of hk.ext
      exact vc hK (op_load3 7 _ B7 (Dc.out.below hb)) (fun w2 h2 => RV.grow ⟨_, _, _, _, _, _, _, rfl, (SNc.out.below hb), (SDc.out.below hb), hdc⟩ h2)
    refine pl 48 84 true rfl (by kernel_rfl) (fun _ _ h => h) (fun lq aq wq hk hr K hK => ?_) ?_
    · obtain ⟨v49, E49, r49⟩ := hk.dp hr 49 85 (by kernel_rfl)
      have r49 : RV wq v49 ((mkRat (-5) (dn 3))) := r49
      exact yc hK (by go_simp) (qtext_v wq (r49).qv (s := ⟨#[45, 53, 47, 51]⟩) cf15) (fun u w1 hu w2 h2 => hu)
    refine pl 48 84 true rfl (by kernel_rfl) (fun _ _ h => h) (fun lq aq wq hk hr K hK => ?_) ?_
    · have E50 : ev aq (.tmp 86) = .string (⟨#[45, 53, 47, 51]⟩) := hk.dc hr 50 (by kernel_rfl) fun _ _ h => h
      exact vc hK (by go_simp) (fun w2 h2 => rfl)
    refine po rfl (fun lq aq wq hk hr K hK => ?_) ?_
    · have E48 : ev aq (.tmp 84) = .bool true := hk.dc hr 48 (by kernel_rfl) fun _ _ h => h
      have E51 : ev aq (.tmp 87) = .bool true := hk.dc hr 51 (by kernel_rfl) fun _ _ h => h
      exact vc hK (by go_simp) (fun w2 h2 => rfl)
    refine po rfl (fun lq aq wq hk hr K hK => ?_) ?_
    · have E52 : ev aq (.tmp 88) = .bool true := hk.dc hr 52 (by kernel_rfl) fun _ _ h => h
      exact vc hK (by go_simp) (fun w2 h2 => rfl)
    refine pl 53 89 true rfl (by kernel_rfl) (fun _ _ h => h) (fun lq aq wq hk hr K hK => ?_) ?_
    · have B10 : ev aq (.tmp 10) = .bool false := hk.base 10 (by kernel_rfl) rfl
      exact vc hK (by go_simp) (fun w2 h2 => rfl)
    refine pl 53 89 true rfl (by kernel_rfl) (fun _ _ h => h) (fun lq aq wq hk hr K hK => ?_) ?_
    · have E54 : ev aq (.tmp 90) = .bool false := hk.dc hr 54 (by kernel_rfl) fun _ _ h => h
      exact vc hK (by go_simp) (fun w2 h2 => rfl)
    refine po rfl (fun lq aq wq hk hr K hK => ?_) ?_
    · have E53 : ev aq (.tmp 89) = .bool true := hk.dc hr 53 (by kernel_rfl) fun _ _ h => h
      have E55 : ev aq (.tmp 91) = .bool true := hk.dc hr 55 (by kernel_rfl) fun _ _ h => h
      exact vc hK (by go_simp) (fun w2 h2 => rfl)
    exact AllOps.nil
  intro V x13 hG hV hap
  have r20 : (V 20) = .bool true := hV 20 (by decide)
  have r56 : (V 56) = .bool true := hV 56 (by decide)
  clear hV hap
  simp only [List.take_succ_cons, List.take_zero, List.drop_succ_cons, List.drop_zero, putAll, Act.put, List.setIfInBounds_toArray, List.set_cons_zero, List.set_cons_succ]
  have hb := grows_of hG
  replace Ds := Lib.hid (Ds.out.below hb)
  replace SNs := Lib.hid (SNs.out.below hb)
  replace SDs := Lib.hid (SDs.out.below hb)
  replace Da := Lib.hid (Da.out.below hb)
  replace SNa := Lib.hid (SNa.out.below hb)
  replace SDa := Lib.hid (SDa.out.below hb)
  replace Dw := Lib.hid (Dw.out.below hb)
  replace SNw := Lib.hid (SNw.out.below hb)
  replace SDw := Lib.hid (SDw.out.below hb)
  replace Dx := Lib.hid (Dx.out.below hb)
  replace SNx := Lib.hid (SNx.out.below hb)
  replace SDx := Lib.hid (SDx.out.below hb)
  replace Dc := Lib.hid (Dc.out.below hb)
  replace SNc := Lib.hid (SNc.out.below hb)
  replace SDc := Lib.hid (SDc.out.below hb)
  replace Dp := Lib.hid (Dp.out.below hb)
  replace SNp := Lib.hid (SNp.out.below hb)
  replace SDp := Lib.hid (SDp.out.below hb)
  replace HB := Lib.hid (HB.out.trans (Below.mono hb HB.out.size))
  clear hb hG
  rw [r56]
  clear r56
  go_wp2_with fail
  go_ret
  exact ⟨_, rfl, rfl, HB.out⟩
end Go.Proofs.YtbippecchpaleaaGreatDoor
