import Derived.Test.YtmajcjdhhnhmmaaDoorVal5
/- litmusref02.Of, Made, Neg, Sub, Mul, Right: what each returns. -/
namespace Go.Num
open Go Go.RowKit Go.Kp
section
variable (w : World) (T : TypeId) (x y x' y' x'' y'' : Value)
theorem start1 : Below w.heap.size w (w.alloc (.cells #[x, y] T)) ∧ Box2 (w.alloc (.cells #[x, y] T)) w.heap.size T x y := ⟨(Below.refl _ w).alloc (Nat.le_refl _) _, Box2.new w T x y⟩
theorem start2 : Below w.heap.size w ((w.alloc (.cells #[x, y] T)).alloc (.cells #[x', y'] T)) ∧ Box2 ((w.alloc (.cells #[x, y] T)).alloc (.cells #[x', y'] T)) w.heap.size T x y ∧ Box2 ((w.alloc (.cells #[x, y] T)).alloc (.cells #[x', y'] T)) (w.heap.size + 1) T x' y' := by
  obtain ⟨h1, h2⟩ := start1 w T x y
  have h3 := Box2.new (w.alloc (.cells #[x, y] T)) T x' y'
  rw [World.size_alloc] at h3
  exact ⟨h1.alloc (by simp) _, h2.alloc _, h3⟩
theorem start3 : Below w.heap.size w (((w.alloc (.cells #[x, y] T)).alloc (.cells #[x', y'] T)).alloc (.cells #[x'', y''] T)) ∧ Box2 (((w.alloc (.cells #[x, y] T)).alloc (.cells #[x', y'] T)).alloc (.cells #[x'', y''] T)) w.heap.size T x y ∧ Box2 (((w.alloc (.cells #[x, y] T)).alloc (.cells #[x', y'] T)).alloc (.cells #[x'', y''] T)) (w.heap.size + 1) T x' y' ∧ Box2 (((w.alloc (.cells #[x, y] T)).alloc (.cells #[x', y'] T)).alloc (.cells #[x'', y''] T)) (w.heap.size + 1 + 1) T x'' y'' := by
  obtain ⟨h1, h2, h3⟩ := start2 w T x y x' y'
  have h4 := Box2.new ((w.alloc (.cells #[x, y] T)).alloc (.cells #[x', y'] T)) T x'' y''
  simp only [World.size_alloc] at h4
  exact ⟨h1.alloc (by simp; omega) _, h2.alloc _, h3.alloc _, h4⟩
end
theorem Num.put {w : World} {g : Nat} {T : TypeId} {n : Bool} {A : Option Addr} {k c : Nat} {m : Value} {l : List Nat} {a : Nat} (h : Num w m l a) (hb : Box2 w g T (.bool n) (.slice A k c)) (u v : Value) : Num (put2 w g u v) m l a := ⟨h.arg.put hb u v, h.lim, h.len, h.val⟩
theorem zv_lit {w : World} {n : Bool} {A : Option Addr} {k c a : Nat} {z : Int} (h : Num w (.slice A k c) (limbs a) a) (hs : sz a ≤ 1000) (e : z.natAbs = a) (hn : n = decide (z < 0)) : ZV w (.agg #[.bool n, .slice A k c]) z := by
  subst e
  exact ⟨n, A, k, c, rfl, hn, h, hs⟩
end Go.Num
namespace Go.Proofs.YtmajcjdhhnhmmaaDoor
open Go.RowKit Go.Num Go.Kp
attribute [local go_sem] Oper.semAt_some u64_mask ev_const ev_func ev_global
set_option maxHeartbeats 4000000 in
set_option maxRecDepth 100000 in
theorem rof_w (w : World) (n : Bool) {m : Value} {l : List Nat} {a : Nat} {z : Int} (h : LV w m l a) (hl : l.length ≤ 1000) (hz : sg n a = z) : Calls Tryd.prog 49 #[.bool n, m] w fun e w' => ∃ r, e = .returned r ∧ ZV w' r z ∧ Grows w w' := by
  have hsz : sz a ≤ 1000 := Nat.le_trans h.sz_le hl
  subst hz
  have hneg := Lib.hid (sg_lt n a)
  have hab := Lib.hid (sg_natAbs n a)
  obtain ⟨A0, c0, rfl, q0⟩ := h
  obtain ⟨HB, DR⟩ := start1 w 24 (.bool false) (.slice none 0 0)
  replace HB := Lib.hid HB
  replace DR := Lib.hid DR
  go_enter Tryd.func49, Tryd.ntmps49
  go_upto_region 1 with fail
  generalize (w.alloc (.cells #[.bool false, .slice none 0 0] 24)) = x0 at *
  have Q0 := Lib.hid (q0.below HB.out)
  clear q0
  refine wp_region_calm 2 [] ([fun vq _ => vq = .slice A0 l.length c0,
      fun vq wq => LV wq vq (limbs a) a]) (by kernel_rfl) (by decide) ?hF ?steps ?fin
  case hF =>
    intro j hj; cases hj
  case steps =>
    refine AllOps.cons (Does.plain rfl fun lq aq wq hk hr K hK => ?_) ?_
    · have B1 : ev aq (.tmp 1) = .slice A0 l.length c0 := hk.base 1 (by kernel_rfl) rfl
      exact wp_of_value (by go_simp) (hK.out _ _ (Grows.refl _) (fun w2 h2 => rfl) (fun h => absurd h (by decide)))
    refine AllOps.cons (Does.plain rfl fun lq aq wq hk hr K hK => ?_) ?_
    · obtain ⟨v0, E0, -, r0⟩ := hk.dep hr 0 6 (by kernel_rfl) (by kernel_rfl)
      replace E0 : ev aq (.tmp 6) = .slice A0 l.length c0 := E0.trans (r0 wq (Grows.refl wq))
      refine wp_of_call (f := 68) (vs := #[.slice A0 l.length c0]) (by go_simp) (rtrim_v wq (Q0.out.below hk.ext).lv hl) ?_
      rintro e w1 ⟨u, rfl, hu, hb⟩
      exact ⟨u, rfl, hK.out _ _ hb (fun w2 h2 => (hu).grow h2) (fun h => absurd h (by decide))⟩
    exact AllOps.nil
  case fin =>
    intro V x1 hG hV hap
    have r1 : LV x1 (V 1) (limbs a) a := hV 1 (by decide)
    clear hV hap
    simp only [List.take_succ_cons, List.take_zero, List.drop_succ_cons, List.drop_zero, putAll, Act.put, List.setIfInBounds_toArray, List.set_cons_zero, List.set_cons_succ]
    have hb := (show Below _ _ _ from hG)
    replace DR := Lib.hid (Box2.below DR.out hb)
    replace Q0 := Lib.hid (Q0.out.below hb)
    replace HB := Lib.hid (HB.out.trans (Below.mono hb HB.out.size))
    clear hb hG
    obtain ⟨A5, c5, e5, q5⟩ := r1
    simp only [e5]
    rw [e5] at q5
    have Q5 := Lib.hid q5
    clear e5 q5
    have ht : n = false ∨ n = true ∧ (limbs a).length = 0 ∨ n = true ∧ ∃ k, (limbs a).length = k + 1 ∧ k < 1000 := by
      cases n
      · exact .inl rfl
      · rcases Nat.eq_zero_or_pos a with h0 | h0
        · exact .inr (.inl ⟨rfl, by rw [h0, limbs_zero]; rfl⟩)
        · obtain ⟨k, hl1⟩ : ∃ k, (limbs a).length = k + 1 := ⟨(limbs a).length - 1, by rw [limbs_pos (by omega)]; simp⟩
          exact .inr (.inr ⟨rfl, k, hl1, by unfold sz at hsz; omega⟩)
    rcases ht with hn | ⟨hn, ha⟩ | ⟨hn, ha⟩
    · skip
      subst hn
      have hd : false = (false && decide (0 < a)) := rfl
      replace hd := Lib.hid hd
      go_upto_region 2 with fail
      refine wp_region_calm 8 [] ([fun vq _ => vq = .bool false,
          fun vq _ => vq = .bool false,
          fun vq _ => vq = undef,
          fun vq _ => vq = undef,
          fun vq _ => vq = undef,
          fun vq _ => vq = .bool false,
          fun vq _ => vq = .slice A5 (limbs a).length c5,
          fun vq wq => ZV wq vq ((sg false a))]) (by kernel_rfl) (by decide) ?hF ?steps ?fin
      case hF =>
        intro j hj; cases hj
      case steps =>
        refine AllOps.cons (Does.plain rfl fun lq aq wq hk hr K hK => ?_) ?_
        · have B0 : ev aq (.tmp 0) = .bool false := hk.base 0 (by kernel_rfl) rfl
          exact wp_of_value (by go_simp) (hK.out _ _ (Grows.refl _) (fun w2 h2 => rfl) (fun h => absurd h (by decide)))
        refine AllOps.cons (Does.plain rfl fun lq aq wq hk hr K hK => ?_) ?_
        · obtain ⟨v0, E0, -, r0⟩ := hk.dep hr 0 8 (by kernel_rfl) (by kernel_rfl)
          replace E0 : ev aq (.tmp 8) = .bool false := E0.trans (r0 wq (Grows.refl wq))
          exact wp_of_value (by go_simp) (hK.out _ _ (Grows.refl _) (fun w2 h2 => rfl) (fun h => absurd h (by decide)))
        refine AllOps.cons (Does.bars (g := 1) (d := 9) (t := true) (u := false) rfl (by kernel_rfl) (by kernel_rfl) (fun vq wq h => h wq (Grows.refl wq)) (by decide) (fun _ _ _ => rfl) rfl) ?_
        refine AllOps.cons (Does.bars (g := 1) (d := 9) (t := true) (u := false) rfl (by kernel_rfl) (by kernel_rfl) (fun vq wq h => h wq (Grows.refl wq)) (by decide) (fun _ _ _ => rfl) rfl) ?_
        refine AllOps.cons (Does.bars (g := 1) (d := 9) (t := true) (u := false) rfl (by kernel_rfl) (by kernel_rfl) (fun vq wq h => h wq (Grows.refl wq)) (by decide) (fun _ _ _ => rfl) rfl) ?_
        refine AllOps.cons (Does.plain rfl fun lq aq wq hk hr K hK => ?_) ?_
        · obtain ⟨v1, E1, -, r1⟩ := hk.dep hr 1 9 (by kernel_rfl) (by kernel_rfl)
          replace E1 : ev aq (.tmp 9) = .bool false := E1.trans (r1 wq (Grows.refl wq))
          exact wp_of_value (by go_simp) (hK.out _ _ (Grows.refl _) (fun w2 h2 => rfl) (fun h => absurd h (by decide)))
        refine AllOps.cons (Does.plain rfl fun lq aq wq hk hr K hK => ?_) ?_
        · have B5 : ev aq (.tmp 5) = .slice A5 (limbs a).length c5 := hk.base 5 (by kernel_rfl) rfl
          exact wp_of_value (by go_simp) (hK.out _ _ (Grows.refl _) (fun w2 h2 => rfl) (fun h => absurd h (by decide)))
        refine AllOps.cons (Does.plain rfl fun lq aq wq hk hr K hK => ?_) ?_
        · obtain ⟨v5, E5, -, r5⟩ := hk.dep hr 5 13 (by kernel_rfl) (by kernel_rfl)
          replace E5 : ev aq (.tmp 13) = .bool false := E5.trans (r5 wq (Grows.refl wq))
          obtain ⟨v6, E6, -, r6⟩ := hk.dep hr 6 14 (by kernel_rfl) (by kernel_rfl)
          replace E6 : ev aq (.tmp 14) = .slice A5 (limbs a).length c5 := E6.trans (r6 wq (Grows.refl wq))
          exact wp_of_value (by go_simp) (hK.out _ _ (Grows.refl _) (fun w2 h2 => (zv_lit (n := false) (Q5.out.below hk.ext) hsz hab.out (by rw [hneg.out]; exact hd.out)).grow h2) (fun h => absurd h (by decide)))
        exact AllOps.nil
      case fin =>
        intro V x2 hG hV hap
        have r7 : ZV x2 (V 7) ((sg false a)) := hV 7 (by decide)
        clear hV hap
        simp only [List.take_succ_cons, List.take_zero, List.drop_succ_cons, List.drop_zero, putAll, Act.put, List.setIfInBounds_toArray, List.set_cons_zero, List.set_cons_succ]
        have hb := (show Below _ _ _ from hG)
        obtain ⟨nR, AR, kR, cR, eR, sR⟩ := r7
        simp only [eR]
        clear eR
        replace DR := Box2.below DR.out hb
        refine wpList_of_skip rfl (op_store 4 15 _ rfl rfl DR) ?_
        have sQ := sR.put DR (.bool nR) (.slice AR kR cR)
        have HQ := put2_below (u := .bool nR) (v := .slice AR kR cR) (HB.out.trans (Below.mono hb HB.out.size)) (show w.heap.size ≤ w.heap.size by omega)
        replace DR := put2_own (u := .bool nR) (v := .slice AR kR cR) DR
        clear hb hG sR HB
        generalize put2 x2 w.heap.size (.bool nR) (.slice AR kR cR) = y9 at *
        have c0 := DR.c0
        have c1 := DR.c1
        clear DR
        go_wp2_with fail
        refine bodyPost_ret (v := .agg #[.bool nR, .slice AR kR cR]) (by simp [results, Tryd.results49, go_sem, c0, c1]) rfl ⟨_, rfl, ⟨_, _, _, _, rfl, sQ⟩, HQ⟩
    · skip
      subst hn
      have hd : false = (true && decide (0 < a)) := by
        rcases Nat.eq_zero_or_pos a with h0 | h0
        · rw [h0]; rfl
        · rw [limbs_pos (by omega)] at ha; simp at ha
      replace hd := Lib.hid hd
      have hlen := ha
      have q5 := Q5.out
      rw [hlen] at q5 ⊢
      clear Q5
      have Q5 := Lib.hid q5
      clear q5
      go_upto_region 2 with fail
      refine wp_region_calm 8 [] ([fun vq _ => vq = .bool true,
          fun vq _ => vq = .bool true,
          fun vq _ => vq = .slice A5 0 c5,
          fun vq _ => vq = .int .i64 0,
          fun vq _ => vq = .bool false,
          fun vq _ => vq = .bool false,
          fun vq _ => vq = .slice A5 0 c5,
          fun vq wq => ZV wq vq ((sg true a))]) (by kernel_rfl) (by decide) ?hF ?steps ?fin
      case hF =>
        intro j hj; cases hj
      case steps =>
        refine AllOps.cons (Does.plain rfl fun lq aq wq hk hr K hK => ?_) ?_
        · have B0 : ev aq (.tmp 0) = .bool true := hk.base 0 (by kernel_rfl) rfl
          exact wp_of_value (by go_simp) (hK.out _ _ (Grows.refl _) (fun w2 h2 => rfl) (fun h => absurd h (by decide)))
        refine AllOps.cons (Does.plain rfl fun lq aq wq hk hr K hK => ?_) ?_
        · obtain ⟨v0, E0, -, r0⟩ := hk.dep hr 0 8 (by kernel_rfl) (by kernel_rfl)
          replace E0 : ev aq (.tmp 8) = .bool true := E0.trans (r0 wq (Grows.refl wq))
          exact wp_of_value (by go_simp) (hK.out _ _ (Grows.refl _) (fun w2 h2 => rfl) (fun h => absurd h (by decide)))
        refine AllOps.cons (Does.lets (g := 1) (d := 9) (t := true) rfl (by kernel_rfl) (by kernel_rfl) (fun vq wq h => h wq (Grows.refl wq)) fun lq aq wq hk hr K hK => ?_) ?_
        · have B5 : ev aq (.tmp 5) = .slice A5 0 c5 := hk.base 5 (by kernel_rfl) rfl
          exact wp_of_value (by go_simp) (hK.out _ _ (Grows.refl _) (fun w2 h2 => rfl) (fun h => absurd h (by decide)))
        refine AllOps.cons (Does.lets (g := 1) (d := 9) (t := true) rfl (by kernel_rfl) (by kernel_rfl) (fun vq wq h => h wq (Grows.refl wq)) fun lq aq wq hk hr K hK => ?_) ?_
        · obtain ⟨v2, E2, -, r2⟩ := hk.dep hr 2 10 (by kernel_rfl) (by kernel_rfl)
          replace E2 : ev aq (.tmp 10) = .slice A5 0 c5 := E2.trans (r2 wq (Grows.refl wq))
          exact wp_of_value (by go_simp) (hK.out _ _ (Grows.refl _) (fun w2 h2 => rfl) (fun h => absurd h (by decide)))
        refine AllOps.cons (Does.lets (g := 1) (d := 9) (t := true) rfl (by kernel_rfl) (by kernel_rfl) (fun vq wq h => h wq (Grows.refl wq)) fun lq aq wq hk hr K hK => ?_) ?_
        · obtain ⟨v3, E3, -, r3⟩ := hk.dep hr 3 11 (by kernel_rfl) (by kernel_rfl)
          replace E3 : ev aq (.tmp 11) = .int .i64 0 := E3.trans (r3 wq (Grows.refl wq))
          exact wp_of_value (by go_simp) (hK.out _ _ (Grows.refl _) (fun w2 h2 => rfl) (fun h => absurd h (by decide)))
        refine AllOps.cons (Does.plain rfl fun lq aq wq hk hr K hK => ?_) ?_
        · obtain ⟨v1, E1, -, r1⟩ := hk.dep hr 1 9 (by kernel_rfl) (by kernel_rfl)
          replace E1 : ev aq (.tmp 9) = .bool true := E1.trans (r1 wq (Grows.refl wq))
          obtain ⟨v4, E4, -, r4⟩ := hk.dep hr 4 12 (by kernel_rfl) (by kernel_rfl)
          replace E4 : ev aq (.tmp 12) = .bool false := E4.trans (r4 wq (Grows.refl wq))
          exact wp_of_value (by go_simp) (hK.out _ _ (Grows.refl _) (fun w2 h2 => rfl) (fun h => absurd h (by decide)))
        refine AllOps.cons (Does.plain rfl fun lq aq wq hk hr K hK => ?_) ?_
        · have B5 : ev aq (.tmp 5) = .slice A5 0 c5 := hk.base 5 (by kernel_rfl) rfl
          exact wp_of_value (by go_simp) (hK.out _ _ (Grows.refl _) (fun w2 h2 => rfl) (fun h => absurd h (by decide)))
        refine AllOps.cons (Does.plain rfl fun lq aq wq hk hr K hK => ?_) ?_
        · obtain ⟨v5, E5, -, r5⟩ := hk.dep hr 5 13 (by kernel_rfl) (by kernel_rfl)
          replace E5 : ev aq (.tmp 13) = .bool false := E5.trans (r5 wq (Grows.refl wq))
          obtain ⟨v6, E6, -, r6⟩ := hk.dep hr 6 14 (by kernel_rfl) (by kernel_rfl)
          replace E6 : ev aq (.tmp 14) = .slice A5 0 c5 := E6.trans (r6 wq (Grows.refl wq))
          exact wp_of_value (by go_simp) (hK.out _ _ (Grows.refl _) (fun w2 h2 => (zv_lit (n := false) (Q5.out.below hk.ext) hsz hab.out (by rw [hneg.out]; exact hd.out)).grow h2) (fun h => absurd h (by decide)))
        exact AllOps.nil
      case fin =>
        intro V x2 hG hV hap
        have r7 : ZV x2 (V 7) ((sg true a)) := hV 7 (by decide)
        clear hV hap
        simp only [List.take_succ_cons, List.take_zero, List.drop_succ_cons, List.drop_zero, putAll, Act.put, List.setIfInBounds_toArray, List.set_cons_zero, List.set_cons_succ]
        have hb := (show Below _ _ _ from hG)
        obtain ⟨nR, AR, kR, cR, eR, sR⟩ := r7
        simp only [eR]
        clear eR
        replace DR := Box2.below DR.out hb
        refine wpList_of_skip rfl (op_store 4 15 _ rfl rfl DR) ?_
        have sQ := sR.put DR (.bool nR) (.slice AR kR cR)
        have HQ := put2_below (u := .bool nR) (v := .slice AR kR cR) (HB.out.trans (Below.mono hb HB.out.size)) (show w.heap.size ≤ w.heap.size by omega)
        replace DR := put2_own (u := .bool nR) (v := .slice AR kR cR) DR
        clear hb hG sR HB
        generalize put2 x2 w.heap.size (.bool nR) (.slice AR kR cR) = y9 at *
        have c0 := DR.c0
        have c1 := DR.c1
        clear DR
        go_wp2_with fail
        refine bodyPost_ret (v := .agg #[.bool nR, .slice AR kR cR]) (by simp [results, Tryd.results49, go_sem, c0, c1]) rfl ⟨_, rfl, ⟨_, _, _, _, rfl, sQ⟩, HQ⟩
    · skip
      subst hn
      have hd : true = (true && decide (0 < a)) := by
        obtain ⟨k, hk, _⟩ := ha
        rcases Nat.eq_zero_or_pos a with h0 | h0
        · rw [h0, limbs_zero] at hk; simp at hk
        · rw [decide_eq_true h0]; rfl
      replace hd := Lib.hid hd
      obtain ⟨k, hlen, hk⟩ := ha
      have q5 := Q5.out
      rw [hlen] at q5 ⊢
      clear Q5
      have Q5 := Lib.hid q5
      clear q5
      go_upto_region 2 with fail
      refine wp_region_calm 8 [] ([fun vq _ => vq = .bool true,
          fun vq _ => vq = .bool true,
          fun vq _ => vq = .slice A5 (k + 1) c5,
          fun vq _ => vq = .int .i64 ((k + 1) : Nat),
          fun vq _ => vq = .bool true,
          fun vq _ => vq = .bool true,
          fun vq _ => vq = .slice A5 (k + 1) c5,
          fun vq wq => ZV wq vq ((sg true a))]) (by kernel_rfl) (by decide) ?hF ?steps ?fin
      case hF =>
        intro j hj; cases hj
      case steps =>
        refine AllOps.cons (Does.plain rfl fun lq aq wq hk hr K hK => ?_) ?_
        · have B0 : ev aq (.tmp 0) = .bool true := hk.base 0 (by kernel_rfl) rfl
          exact wp_of_value (by go_simp) (hK.out _ _ (Grows.refl _) (fun w2 h2 => rfl) (fun h => absurd h (by decide)))
        refine AllOps.cons (Does.plain rfl fun lq aq wq hk hr K hK => ?_) ?_
        · obtain ⟨v0, E0, -, r0⟩ := hk.dep hr 0 8 (by kernel_rfl) (by kernel_rfl)
          replace E0 : ev aq (.tmp 8) = .bool true := E0.trans (r0 wq (Grows.refl wq))
          exact wp_of_value (by go_simp) (hK.out _ _ (Grows.refl _) (fun w2 h2 => rfl) (fun h => absurd h (by decide)))
        refine AllOps.cons (Does.lets (g := 1) (d := 9) (t := true) rfl (by kernel_rfl) (by kernel_rfl) (fun vq wq h => h wq (Grows.refl wq)) fun lq aq wq hk hr K hK => ?_) ?_
        · have B5 : ev aq (.tmp 5) = .slice A5 (k + 1) c5 := hk.base 5 (by kernel_rfl) rfl
          exact wp_of_value (by go_simp) (hK.out _ _ (Grows.refl _) (fun w2 h2 => rfl) (fun h => absurd h (by decide)))
        refine AllOps.cons (Does.lets (g := 1) (d := 9) (t := true) rfl (by kernel_rfl) (by kernel_rfl) (fun vq wq h => h wq (Grows.refl wq)) fun lq aq wq hk hr K hK => ?_) ?_
        · obtain ⟨v2, E2, -, r2⟩ := hk.dep hr 2 10 (by kernel_rfl) (by kernel_rfl)
          replace E2 : ev aq (.tmp 10) = .slice A5 (k + 1) c5 := E2.trans (r2 wq (Grows.refl wq))
          exact wp_of_value (by go_simp) (hK.out _ _ (Grows.refl _) (fun w2 h2 => rfl) (fun h => absurd h (by decide)))
        refine AllOps.cons (Does.lets (g := 1) (d := 9) (t := true) rfl (by kernel_rfl) (by kernel_rfl) (fun vq wq h => h wq (Grows.refl wq)) fun lq aq wq hk hr K hK => ?_) ?_
        · obtain ⟨v3, E3, -, r3⟩ := hk.dep hr 3 11 (by kernel_rfl) (by kernel_rfl)
          replace E3 : ev aq (.tmp 11) = .int .i64 ((k + 1) : Nat) := E3.trans (r3 wq (Grows.refl wq))
          exact wp_of_value (by go_simp) (hK.out _ _ (Grows.refl _) (fun w2 h2 => rfl) (fun h => absurd h (by decide)))
        refine AllOps.cons (Does.plain rfl fun lq aq wq hk hr K hK => ?_) ?_
        · obtain ⟨v1, E1, -, r1⟩ := hk.dep hr 1 9 (by kernel_rfl) (by kernel_rfl)
          replace E1 : ev aq (.tmp 9) = .bool true := E1.trans (r1 wq (Grows.refl wq))
          obtain ⟨v4, E4, -, r4⟩ := hk.dep hr 4 12 (by kernel_rfl) (by kernel_rfl)
          replace E4 : ev aq (.tmp 12) = .bool true := E4.trans (r4 wq (Grows.refl wq))
          exact wp_of_value (by go_simp) (hK.out _ _ (Grows.refl _) (fun w2 h2 => rfl) (fun h => absurd h (by decide)))
        refine AllOps.cons (Does.plain rfl fun lq aq wq hk hr K hK => ?_) ?_
        · have B5 : ev aq (.tmp 5) = .slice A5 (k + 1) c5 := hk.base 5 (by kernel_rfl) rfl
          exact wp_of_value (by go_simp) (hK.out _ _ (Grows.refl _) (fun w2 h2 => rfl) (fun h => absurd h (by decide)))
        refine AllOps.cons (Does.plain rfl fun lq aq wq hk hr K hK => ?_) ?_
        · obtain ⟨v5, E5, -, r5⟩ := hk.dep hr 5 13 (by kernel_rfl) (by kernel_rfl)
          replace E5 : ev aq (.tmp 13) = .bool true := E5.trans (r5 wq (Grows.refl wq))
          obtain ⟨v6, E6, -, r6⟩ := hk.dep hr 6 14 (by kernel_rfl) (by kernel_rfl)
          replace E6 : ev aq (.tmp 14) = .slice A5 (k + 1) c5 := E6.trans (r6 wq (Grows.refl wq))
          exact wp_of_value (by go_simp) (hK.out _ _ (Grows.refl _) (fun w2 h2 => (zv_lit (n := true) (Q5.out.below hk.ext) hsz hab.out (by rw [hneg.out]; exact hd.out)).grow h2) (fun h => absurd h (by decide)))
        exact AllOps.nil
      case fin =>
        intro V x2 hG hV hap
        have r7 : ZV x2 (V 7) ((sg true a)) := hV 7 (by decide)
        clear hV hap
        simp only [List.take_succ_cons, List.take_zero, List.drop_succ_cons, List.drop_zero, putAll, Act.put, List.setIfInBounds_toArray, List.set_cons_zero, List.set_cons_succ]
        have hb := (show Below _ _ _ from hG)
        obtain ⟨nR, AR, kR, cR, eR, sR⟩ := r7
        simp only [eR]
        clear eR
        replace DR := Box2.below DR.out hb
        refine wpList_of_skip rfl (op_store 4 15 _ rfl rfl DR) ?_
        have sQ := sR.put DR (.bool nR) (.slice AR kR cR)
        have HQ := put2_below (u := .bool nR) (v := .slice AR kR cR) (HB.out.trans (Below.mono hb HB.out.size)) (show w.heap.size ≤ w.heap.size by omega)
        replace DR := put2_own (u := .bool nR) (v := .slice AR kR cR) DR
        clear hb hG sR HB
        generalize put2 x2 w.heap.size (.bool nR) (.slice AR kR cR) = y9 at *
        have c0 := DR.c0
        have c1 := DR.c1
        clear DR
        go_wp2_with fail
        refine bodyPost_ret (v := .agg #[.bool nR, .slice AR kR cR]) (by simp [results, Tryd.results49, go_sem, c0, c1]) rfl ⟨_, rfl, ⟨_, _, _, _, rfl, sQ⟩, HQ⟩
theorem rof_v (w : World) (n : Bool) {m : Value} {l : List Nat} {a : Nat} {z : Int} (h : LV w m l a) (hl : l.length ≤ 1000) (hz : sg n a = z) (_ : szz z ≤ 1000) : Calls Tryd.prog 49 #[.bool n, m] w fun e w' => ∃ r, e = .returned r ∧ ZV w' r z ∧ Grows w w' := rof_w w n h hl hz
set_option maxHeartbeats 4000000 in
set_option maxRecDepth 100000 in
theorem rmade_v (w : World) {u : Value} {x : Int} (h0 : WV w u x) : Calls Tryd.prog 46 #[u] w fun e w' => ∃ r, e = .returned r ∧ ZV w' r x ∧ Grows w w' := by
  obtain ⟨n0, A0, k0, c0, rfl, s0⟩ := h0
  have hk0 : szz x ≤ 1000 := s0.size
  obtain ⟨HB, D0, DR⟩ := start2 w 24 (.bool n0) (.slice A0 k0 c0) (.bool false) (.slice none 0 0)
  replace HB := Lib.hid HB
  replace D0 := Lib.hid D0
  replace DR := Lib.hid DR
  have S0 := Lib.hid (s0.below HB.out)
  clear s0
  go_enter Tryd.func46, Tryd.ntmps46
  go_upto_region 1 with fail
  generalize ((w.alloc (.cells #[.bool n0, .slice A0 k0 c0] 24)).alloc (.cells #[.bool false, .slice none 0 0] 24)) = x0 at *
  obtain ⟨l0, a0, q0, hl0, e0⟩ := S0.out
  have Q0 := Lib.hid q0
  clear q0
  refine wp_region_calm 5 [] ([fun vq _ => vq = .pointer (some ⟨w.heap.size, 0, none⟩),
      fun vq _ => vq = .bool n0,
      fun vq _ => vq = .pointer (some ⟨w.heap.size, 1, none⟩),
      fun vq _ => vq = .slice A0 k0 c0,
      fun vq wq => ZV wq vq x]) (by kernel_rfl) (by decide) ?hF ?steps ?fin
  case hF =>
    intro j hj; cases hj
  case steps =>
    refine AllOps.cons (Does.plain rfl fun lq aq wq hk hr K hK => ?_) ?_
    · have B1 : ev aq (.tmp 1) = .pointer (some ⟨w.heap.size, 0, none⟩) := hk.base 1 (by kernel_rfl) rfl
      exact wp_of_value (by go_simp) (hK.out _ _ (Grows.refl _) (fun w2 h2 => rfl) (fun h => absurd h (by decide)))
    refine AllOps.cons (Does.plain rfl fun lq aq wq hk hr K hK => ?_) ?_
    · obtain ⟨v0, E0, -, r0⟩ := hk.dep hr 0 3 (by kernel_rfl) (by kernel_rfl)
      replace E0 : ev aq (.tmp 3) = .pointer (some ⟨w.heap.size, 0, none⟩) := E0.trans (r0 wq (Grows.refl wq))
      have hb : Below _ _ _ := hk.ext
      have c0 := (Box2.below D0.out hb).c0
      exact wp_of_value (by go_simp) (hK.out _ _ (Grows.refl _) (fun w2 h2 => rfl) (fun h => absurd h (by decide)))
    refine AllOps.cons (Does.plain rfl fun lq aq wq hk hr K hK => ?_) ?_
    · have B1 : ev aq (.tmp 1) = .pointer (some ⟨w.heap.size, 0, none⟩) := hk.base 1 (by kernel_rfl) rfl
      exact wp_of_value (by go_simp) (hK.out _ _ (Grows.refl _) (fun w2 h2 => rfl) (fun h => absurd h (by decide)))
    refine AllOps.cons (Does.plain rfl fun lq aq wq hk hr K hK => ?_) ?_
    · obtain ⟨v2, E2, -, r2⟩ := hk.dep hr 2 5 (by kernel_rfl) (by kernel_rfl)
      replace E2 : ev aq (.tmp 5) = .pointer (some ⟨w.heap.size, 1, none⟩) := E2.trans (r2 wq (Grows.refl wq))
      have hb : Below _ _ _ := hk.ext
      have c1 := (Box2.below D0.out hb).c1
      exact wp_of_value (by go_simp) (hK.out _ _ (Grows.refl _) (fun w2 h2 => rfl) (fun h => absurd h (by decide)))
    refine AllOps.cons (Does.plain rfl fun lq aq wq hk hr K hK => ?_) ?_
    · obtain ⟨v1, E1, -, r1⟩ := hk.dep hr 1 4 (by kernel_rfl) (by kernel_rfl)
      replace E1 : ev aq (.tmp 4) = .bool n0 := E1.trans (r1 wq (Grows.refl wq))
      obtain ⟨v3, E3, -, r3⟩ := hk.dep hr 3 6 (by kernel_rfl) (by kernel_rfl)
      replace E3 : ev aq (.tmp 6) = .slice A0 k0 c0 := E3.trans (r3 wq (Grows.refl wq))
      refine wp_of_call (f := 49) (vs := #[.bool n0, .slice A0 k0 c0]) (by go_simp) (rof_v wq n0 (Q0.out.below hk.ext).lv hl0 e0.symm hk0) ?_
      rintro e w1 ⟨u, rfl, hu, hb⟩
      exact ⟨u, rfl, hK.out _ _ hb (fun w2 h2 => (hu).grow h2) (fun h => absurd h (by decide))⟩
    exact AllOps.nil
  case fin =>
    intro V x1 hG hV hap
    have r1 : (V 1) = .bool n0 := hV 1 (by decide)
    have r4 : ZV x1 (V 4) x := hV 4 (by decide)
    clear hV hap
    simp only [List.take_succ_cons, List.take_zero, List.drop_succ_cons, List.drop_zero, putAll, Act.put, List.setIfInBounds_toArray, List.set_cons_zero, List.set_cons_succ]
    have hb := (show Below _ _ _ from hG)
    obtain ⟨nR, AR, kR, cR, eR, sR⟩ := r4
    simp only [eR]
    clear eR
    replace DR := Box2.below DR.out hb
    refine wpList_of_skip rfl (op_store 2 7 _ rfl rfl DR) ?_
    have sQ := sR.put DR (.bool nR) (.slice AR kR cR)
    have HQ := put2_below (u := .bool nR) (v := .slice AR kR cR) (HB.out.trans (Below.mono hb HB.out.size)) (show w.heap.size ≤ w.heap.size + 1 by omega)
    replace DR := put2_own (u := .bool nR) (v := .slice AR kR cR) DR
    clear hb hG sR HB
    generalize put2 x1 (w.heap.size + 1) (.bool nR) (.slice AR kR cR) = y9 at *
    have c0 := DR.c0
    have c1 := DR.c1
    clear DR
    go_wp2_with fail
    refine bodyPost_ret (v := .agg #[.bool nR, .slice AR kR cR]) (by simp [results, Tryd.results46, go_sem, c0, c1]) rfl ⟨_, rfl, ⟨_, _, _, _, rfl, sQ⟩, HQ⟩
set_option maxHeartbeats 4000000 in
set_option maxRecDepth 100000 in
theorem rneg_v (w : World) {u : Value} {x : Int} (h0 : WV w u x) : Calls Tryd.prog 45 #[u] w fun e w' => ∃ r, e = .returned r ∧ ZV w' r (-x) ∧ Grows w w' := by
  obtain ⟨n0, A0, k0, c0, rfl, s0⟩ := h0
  have hk0 : szz x ≤ 1000 := s0.size
  obtain ⟨HB, D0, DR⟩ := start2 w 24 (.bool n0) (.slice A0 k0 c0) (.bool false) (.slice none 0 0)
  replace HB := Lib.hid HB
  replace D0 := Lib.hid D0
  replace DR := Lib.hid DR
  have S0 := Lib.hid (s0.below HB.out)
  clear s0
  go_enter Tryd.func45, Tryd.ntmps45
  go_upto_region 1 with fail
  generalize ((w.alloc (.cells #[.bool n0, .slice A0 k0 c0] 24)).alloc (.cells #[.bool false, .slice none 0 0] 24)) = x0 at *
  obtain ⟨l0, a0, q0, hl0, e0⟩ := S0.out
  have Q0 := Lib.hid q0
  clear q0
  refine wp_region_calm 6 [] ([fun vq _ => vq = .pointer (some ⟨w.heap.size, 0, none⟩),
      fun vq _ => vq = .bool n0,
      fun vq _ => vq = .bool (!n0),
      fun vq _ => vq = .pointer (some ⟨w.heap.size, 1, none⟩),
      fun vq _ => vq = .slice A0 k0 c0,
      fun vq wq => ZV wq vq ((-x))]) (by kernel_rfl) (by decide) ?hF ?steps ?fin
  case hF =>
    intro j hj; cases hj
  case steps =>
    refine AllOps.cons (Does.plain rfl fun lq aq wq hk hr K hK => ?_) ?_
    · have B1 : ev aq (.tmp 1) = .pointer (some ⟨w.heap.size, 0, none⟩) := hk.base 1 (by kernel_rfl) rfl
      exact wp_of_value (by go_simp) (hK.out _ _ (Grows.refl _) (fun w2 h2 => rfl) (fun h => absurd h (by decide)))
    refine AllOps.cons (Does.plain rfl fun lq aq wq hk hr K hK => ?_) ?_
    · obtain ⟨v0, E0, -, r0⟩ := hk.dep hr 0 3 (by kernel_rfl) (by kernel_rfl)
      replace E0 : ev aq (.tmp 3) = .pointer (some ⟨w.heap.size, 0, none⟩) := E0.trans (r0 wq (Grows.refl wq))
      have hb : Below _ _ _ := hk.ext
      have c0 := (Box2.below D0.out hb).c0
      exact wp_of_value (by go_simp) (hK.out _ _ (Grows.refl _) (fun w2 h2 => rfl) (fun h => absurd h (by decide)))
    refine AllOps.cons (Does.plain rfl fun lq aq wq hk hr K hK => ?_) ?_
    · obtain ⟨v1, E1, -, r1⟩ := hk.dep hr 1 4 (by kernel_rfl) (by kernel_rfl)
      replace E1 : ev aq (.tmp 4) = .bool n0 := E1.trans (r1 wq (Grows.refl wq))
      exact wp_of_value (by go_simp) (hK.out _ _ (Grows.refl _) (fun w2 h2 => rfl) (fun h => absurd h (by decide)))
    refine AllOps.cons (Does.plain rfl fun lq aq wq hk hr K hK => ?_) ?_
    · have B1 : ev aq (.tmp 1) = .pointer (some ⟨w.heap.size, 0, none⟩) := hk.base 1 (by kernel_rfl) rfl
      exact wp_of_value (by go_simp) (hK.out _ _ (Grows.refl _) (fun w2 h2 => rfl) (fun h => absurd h (by decide)))
    refine AllOps.cons (Does.plain rfl fun lq aq wq hk hr K hK => ?_) ?_
    · obtain ⟨v3, E3, -, r3⟩ := hk.dep hr 3 6 (by kernel_rfl) (by kernel_rfl)
      replace E3 : ev aq (.tmp 6) = .pointer (some ⟨w.heap.size, 1, none⟩) := E3.trans (r3 wq (Grows.refl wq))
      have hb : Below _ _ _ := hk.ext
      have c1 := (Box2.below D0.out hb).c1
      exact wp_of_value (by go_simp) (hK.out _ _ (Grows.refl _) (fun w2 h2 => rfl) (fun h => absurd h (by decide)))
    refine AllOps.cons (Does.plain rfl fun lq aq wq hk hr K hK => ?_) ?_
    · obtain ⟨v2, E2, -, r2⟩ := hk.dep hr 2 5 (by kernel_rfl) (by kernel_rfl)
      replace E2 : ev aq (.tmp 5) = .bool (!n0) := E2.trans (r2 wq (Grows.refl wq))
      obtain ⟨v4, E4, -, r4⟩ := hk.dep hr 4 7 (by kernel_rfl) (by kernel_rfl)
      replace E4 : ev aq (.tmp 7) = .slice A0 k0 c0 := E4.trans (r4 wq (Grows.refl wq))
      refine wp_of_call (f := 49) (vs := #[.bool (!n0), .slice A0 k0 c0]) (by go_simp) (rof_v wq ((!n0)) (Q0.out.below hk.ext).lv hl0 (by rw [sg_not, e0]) (szz_neg hk0)) ?_
      rintro e w1 ⟨u, rfl, hu, hb⟩
      exact ⟨u, rfl, hK.out _ _ hb (fun w2 h2 => (hu).grow h2) (fun h => absurd h (by decide))⟩
    exact AllOps.nil
  case fin =>
    intro V x1 hG hV hap
    have r2 : (V 2) = .bool (!n0) := hV 2 (by decide)
    have r5 : ZV x1 (V 5) ((-x)) := hV 5 (by decide)
    clear hV hap
    simp only [List.take_succ_cons, List.take_zero, List.drop_succ_cons, List.drop_zero, putAll, Act.put, List.setIfInBounds_toArray, List.set_cons_zero, List.set_cons_succ]
    have hb := (show Below _ _ _ from hG)
    obtain ⟨nR, AR, kR, cR, eR, sR⟩ := r5
    simp only [eR]
    clear eR
    replace DR := Box2.below DR.out hb
    refine wpList_of_skip rfl (op_store 2 8 _ rfl rfl DR) ?_
    have sQ := sR.put DR (.bool nR) (.slice AR kR cR)
    have HQ := put2_below (u := .bool nR) (v := .slice AR kR cR) (HB.out.trans (Below.mono hb HB.out.size)) (show w.heap.size ≤ w.heap.size + 1 by omega)
    replace DR := put2_own (u := .bool nR) (v := .slice AR kR cR) DR
    clear hb hG sR HB
    generalize put2 x1 (w.heap.size + 1) (.bool nR) (.slice AR kR cR) = y9 at *
    have c0 := DR.c0
    have c1 := DR.c1
    clear DR
    go_wp2_with fail
    refine bodyPost_ret (v := .agg #[.bool nR, .slice AR kR cR]) (by simp [results, Tryd.results45, go_sem, c0, c1]) rfl ⟨_, rfl, ⟨_, _, _, _, rfl, sQ⟩, HQ⟩
set_option maxHeartbeats 4000000 in
set_option maxRecDepth 100000 in
theorem rmul_v (w : World) {u v : Value} {x y : Int} (h0 : WV w u x) (h1 : WV w v y) (hs : szz (x * y) ≤ 1000) : Calls Tryd.prog 15 #[u, v] w fun e w' => ∃ r, e = .returned r ∧ ZV w' r (x * y) ∧ Grows w w' := by
  obtain ⟨n0, A0, k0, c0, rfl, s0⟩ := h0
  have hk0 : szz x ≤ 1000 := s0.size
  obtain ⟨n1, A1, k1, c1, rfl, s1⟩ := h1
  have hk1 : szz y ≤ 1000 := s1.size
  obtain ⟨HB, D0, D1, DR⟩ := start3 w 24 (.bool n0) (.slice A0 k0 c0) (.bool n1) (.slice A1 k1 c1) (.bool false) (.slice none 0 0)
  replace HB := Lib.hid HB
  replace D0 := Lib.hid D0
  replace D1 := Lib.hid D1
  replace DR := Lib.hid DR
  have S0 := Lib.hid (s0.below HB.out)
  clear s0
  have S1 := Lib.hid (s1.below HB.out)
  clear s1
  go_enter Tryd.func15, Tryd.ntmps15
  go_upto_region 1 with fail
  generalize (((w.alloc (.cells #[.bool n0, .slice A0 k0 c0] 24)).alloc (.cells #[.bool n1, .slice A1 k1 c1] 24)).alloc (.cells #[.bool false, .slice none 0 0] 24)) = x0 at *
  obtain ⟨l0, a0, q0, hl0, e0⟩ := S0.out
  have Q0 := Lib.hid q0
  clear q0
  obtain ⟨l1, a1, q1, hl1, e1⟩ := S1.out
  have Q1 := Lib.hid q1
  clear q1
  have hm : sz (a0 * a1) ≤ 1000 := by have h := hs; rw [e0, e1, ← sg_mul] at h; unfold szz at h; rwa [sg_natAbs] at h
  refine wp_region_going 11 [] ([fun vq _ => vq = .pointer (some ⟨w.heap.size, 0, none⟩),
      fun vq _ => vq = .bool n0,
      fun vq _ => vq = .pointer (some ⟨w.heap.size + 1, 0, none⟩),
      fun vq _ => vq = .bool n1,
      fun vq _ => vq = .bool (n0 != n1),
      fun vq _ => vq = .pointer (some ⟨w.heap.size, 1, none⟩),
      fun vq _ => vq = .slice A0 k0 c0,
      fun vq _ => vq = .pointer (some ⟨w.heap.size + 1, 1, none⟩),
      fun vq _ => vq = .slice A1 k1 c1,
      fun vq wq => LV wq vq ((limbs (a0 * a1))) ((a0 * a1)),
      fun vq wq => ZV wq vq ((x * y))]) (by kernel_rfl) (by kernel_rfl) (by decide) (by kernel_rfl) (by kernel_rfl) ?hF ?steps ?fin
  case hF =>
    intro j hj; cases hj
  case steps =>
    refine AllOps.cons (Does.plain rfl fun lq aq wq hk hr K hK => ?_) ?_
    · have B2 : ev aq (.tmp 2) = .pointer (some ⟨w.heap.size, 0, none⟩) := hk.base 2 (by kernel_rfl) rfl
      exact wp_of_value (by go_simp) (hK.out _ _ (Grows.refl _) (fun w2 h2 => rfl) (fun h => absurd h (by decide)))
    refine AllOps.cons (Does.plain rfl fun lq aq wq hk hr K hK => ?_) ?_
    · obtain ⟨v0, E0, -, r0⟩ := hk.dep hr 0 5 (by kernel_rfl) (by kernel_rfl)
      replace E0 : ev aq (.tmp 5) = .pointer (some ⟨w.heap.size, 0, none⟩) := E0.trans (r0 wq (Grows.refl wq))
      have hb := grows_of hk.ext
      have c0 := (Box2.below D0.out hb).c0
      exact wp_of_value (by go_simp) (hK.out _ _ (Grows.refl _) (fun w2 h2 => rfl) (fun h => absurd h (by decide)))
    refine AllOps.cons (Does.plain rfl fun lq aq wq hk hr K hK => ?_) ?_
    · have B3 : ev aq (.tmp 3) = .pointer (some ⟨w.heap.size + 1, 0, none⟩) := hk.base 3 (by kernel_rfl) rfl
      exact wp_of_value (by go_simp) (hK.out _ _ (Grows.refl _) (fun w2 h2 => rfl) (fun h => absurd h (by decide)))
    refine AllOps.cons (Does.plain rfl fun lq aq wq hk hr K hK => ?_) ?_
    · obtain ⟨v2, E2, -, r2⟩ := hk.dep hr 2 7 (by kernel_rfl) (by kernel_rfl)
      replace E2 : ev aq (.tmp 7) = .pointer (some ⟨w.heap.size + 1, 0, none⟩) := E2.trans (r2 wq (Grows.refl wq))
      have hb := grows_of hk.ext
      have c0 := (Box2.below D1.out hb).c0
      exact wp_of_value (by go_simp) (hK.out _ _ (Grows.refl _) (fun w2 h2 => rfl) (fun h => absurd h (by decide)))
    refine AllOps.cons (Does.plain rfl fun lq aq wq hk hr K hK => ?_) ?_
    · obtain ⟨v1, E1, -, r1⟩ := hk.dep hr 1 6 (by kernel_rfl) (by kernel_rfl)
      replace E1 : ev aq (.tmp 6) = .bool n0 := E1.trans (r1 wq (Grows.refl wq))
      obtain ⟨v3, E3, -, r3⟩ := hk.dep hr 3 8 (by kernel_rfl) (by kernel_rfl)
      replace E3 : ev aq (.tmp 8) = .bool n1 := E3.trans (r3 wq (Grows.refl wq))
      exact wp_of_value (by go_simp; cases n0 <;> cases n1 <;> rfl) (hK.out _ _ (Grows.refl _) (fun w2 h2 => rfl) (fun h => absurd h (by decide)))
    refine AllOps.cons (Does.plain rfl fun lq aq wq hk hr K hK => ?_) ?_
    · have B2 : ev aq (.tmp 2) = .pointer (some ⟨w.heap.size, 0, none⟩) := hk.base 2 (by kernel_rfl) rfl
      exact wp_of_value (by go_simp) (hK.out _ _ (Grows.refl _) (fun w2 h2 => rfl) (fun h => absurd h (by decide)))
    refine AllOps.cons (Does.plain rfl fun lq aq wq hk hr K hK => ?_) ?_
    · obtain ⟨v5, E5, -, r5⟩ := hk.dep hr 5 10 (by kernel_rfl) (by kernel_rfl)
      replace E5 : ev aq (.tmp 10) = .pointer (some ⟨w.heap.size, 1, none⟩) := E5.trans (r5 wq (Grows.refl wq))
      have hb := grows_of hk.ext
      have c1 := (Box2.below D0.out hb).c1
      exact wp_of_value (by go_simp) (hK.out _ _ (Grows.refl _) (fun w2 h2 => rfl) (fun h => absurd h (by decide)))
    refine AllOps.cons (Does.plain rfl fun lq aq wq hk hr K hK => ?_) ?_
    · have B3 : ev aq (.tmp 3) = .pointer (some ⟨w.heap.size + 1, 0, none⟩) := hk.base 3 (by kernel_rfl) rfl
      exact wp_of_value (by go_simp) (hK.out _ _ (Grows.refl _) (fun w2 h2 => rfl) (fun h => absurd h (by decide)))
    refine AllOps.cons (Does.plain rfl fun lq aq wq hk hr K hK => ?_) ?_
    · obtain ⟨v7, E7, -, r7⟩ := hk.dep hr 7 12 (by kernel_rfl) (by kernel_rfl)
      replace E7 : ev aq (.tmp 12) = .pointer (some ⟨w.heap.size + 1, 1, none⟩) := E7.trans (r7 wq (Grows.refl wq))
      have hb := grows_of hk.ext
      have c1 := (Box2.below D1.out hb).c1
      exact wp_of_value (by go_simp) (hK.out _ _ (Grows.refl _) (fun w2 h2 => rfl) (fun h => absurd h (by decide)))
    refine AllOps.cons (Does.plain rfl fun lq aq wq hk hr K hK => ?_) ?_
    · obtain ⟨v6, E6, -, r6⟩ := hk.dep hr 6 11 (by kernel_rfl) (by kernel_rfl)
      replace E6 : ev aq (.tmp 11) = .slice A0 k0 c0 := E6.trans (r6 wq (Grows.refl wq))
      obtain ⟨v8, E8, -, r8⟩ := hk.dep hr 8 13 (by kernel_rfl) (by kernel_rfl)
      replace E8 : ev aq (.tmp 13) = .slice A1 k1 c1 := E8.trans (r8 wq (Grows.refl wq))
      refine wp_of_call (f := 50) (vs := #[.slice A0 k0 c0, .slice A1 k1 c1]) (by go_simp) (rmuln_v wq (Q0.out.below (grows_of hk.ext)).lv (Q1.out.below (grows_of hk.ext)).lv hl0 hl1 hm) ?_
      rintro e w1 ⟨u, rfl, hu, hb⟩
      exact ⟨u, rfl, hK.out _ _ hb (fun w2 h2 => (hu).grow h2) (fun h => absurd h (by decide))⟩
    refine AllOps.cons (Does.plain rfl fun lq aq wq hk hr K hK => ?_) ?_
    · obtain ⟨v4, E4, -, r4⟩ := hk.dep hr 4 9 (by kernel_rfl) (by kernel_rfl)
      replace E4 : ev aq (.tmp 9) = .bool (n0 != n1) := E4.trans (r4 wq (Grows.refl wq))
      obtain ⟨v9, E9, -, r9⟩ := hk.dep hr 9 14 (by kernel_rfl) (by kernel_rfl)
      have r9 : LV wq v9 ((limbs (a0 * a1))) ((a0 * a1)) := r9 wq (Grows.refl wq)
      refine wp_of_call (f := 49) (vs := #[.bool (n0 != n1), v9]) (by go_simp) (rof_v wq ((n0 != n1)) r9 hm (by rw [sg_mul, e0, e1]) hs) ?_
      rintro e w1 ⟨u, rfl, hu, hb⟩
      exact ⟨u, rfl, hK.out _ _ hb (fun w2 h2 => (hu).grow h2) (fun h => absurd h (by decide))⟩
    exact AllOps.nil
  case fin =>
    intro V x1 hG hV hap
    have r5 : (V 5) = .pointer (some ⟨w.heap.size, 1, none⟩) := hV 5 (by decide)
    have r10 : ZV x1 (V 10) ((x * y)) := hV 10 (by decide)
    clear hV hap
    simp only [List.take_succ_cons, List.take_zero, List.drop_succ_cons, List.drop_zero, putAll, Act.put, List.setIfInBounds_toArray, List.set_cons_zero, List.set_cons_succ]
    have hb := grows_of hG
    obtain ⟨nR, AR, kR, cR, eR, sR⟩ := r10
    simp only [eR]
    clear eR
    replace DR := Box2.below DR.out hb
    refine wpList_of_skip rfl (op_store 4 15 _ rfl rfl DR) ?_
    have sQ := sR.put DR (.bool nR) (.slice AR kR cR)
    have HQ := put2_below (u := .bool nR) (v := .slice AR kR cR) (HB.out.trans (Below.mono hb HB.out.size)) (show w.heap.size ≤ w.heap.size + 1 + 1 by omega)
    replace DR := put2_own (u := .bool nR) (v := .slice AR kR cR) DR
    clear hb hG sR HB
    generalize put2 x1 (w.heap.size + 1 + 1) (.bool nR) (.slice AR kR cR) = y9 at *
    have c0 := DR.c0
    have c1 := DR.c1
    clear DR
    go_wp2_with fail
    refine bodyPost_ret (v := .agg #[.bool nR, .slice AR kR cR]) (by simp [results, Tryd.results15, go_sem, c0, c1]) rfl ⟨_, rfl, ⟨_, _, _, _, rfl, sQ⟩, HQ⟩
end Go.Proofs.YtmajcjdhhnhmmaaDoor
/- litmusref02.Add, Sub, Sign, Cmp, Same, Right: what each returns. -/
namespace Go.Proofs.YtmajcjdhhnhmmaaDoor
open Go.RowKit Go.Num Go.Kp
attribute [local go_sem] Oper.semAt_some u64_mask ev_const ev_func ev_global
set_option maxHeartbeats 16000000 in
set_option maxRecDepth 100000 in
theorem radd_v (w : World) {u v : Value} {x y : Int} (h0 : WV w u x) (h1 : WV w v y) (hs : szz (x + y) ≤ 1000) : Calls Tryd.prog 39 #[u, v] w fun e w' => ∃ r, e = .returned r ∧ ZV w' r (x + y) ∧ Grows w w' := by
  obtain ⟨n0, A0, k0, c0, rfl, s0⟩ := h0
  have hk0 : szz x ≤ 1000 := s0.size
  obtain ⟨n1, A1, k1, c1, rfl, s1⟩ := h1
  have hk1 : szz y ≤ 1000 := s1.size
  obtain ⟨HB, D0, D1, DR⟩ := start3 w 24 (.bool n0) (.slice A0 k0 c0) (.bool n1) (.slice A1 k1 c1) (.bool false) (.slice none 0 0)
  replace HB := Lib.hid HB
  replace D0 := Lib.hid D0
  replace D1 := Lib.hid D1
  replace DR := Lib.hid DR
  have S0 := Lib.hid (s0.below HB.out)
  clear s0
  have S1 := Lib.hid (s1.below HB.out)
  clear s1
  go_enter Tryd.func39, Tryd.ntmps39
  go_upto_region 1 with fail
  generalize (((w.alloc (.cells #[.bool n0, .slice A0 k0 c0] 24)).alloc (.cells #[.bool n1, .slice A1 k1 c1] 24)).alloc (.cells #[.bool false, .slice none 0 0] 24)) = x0 at *
  refine wp_region_calm 2 [] ([fun vq wq => WV wq vq x,
      fun vq wq => ZV wq vq x]) (by kernel_rfl) (by decide) ?hF ?steps ?fin
  case hF =>
    intro j hj; cases hj
  case steps =>
    refine AllOps.cons (Does.plain rfl fun lq aq wq hk hr K hK => ?_) ?_
    · have B2 : ev aq (.tmp 2) = .pointer (some ⟨w.heap.size, 0, none⟩) := hk.base 2 (by kernel_rfl) rfl
      have hb : Below _ _ _ := hk.ext
      exact wp_of_value (op_load 2 _ B2 (Box2.below D0.out hb)) (hK.out _ _ (Grows.refl _) (fun w2 h2 => ⟨_, _, _, _, rfl, (S0.out.below hb).below h2⟩) (fun h => absurd h (by decide)))
    refine AllOps.cons (Does.plain rfl fun lq aq wq hk hr K hK => ?_) ?_
    · obtain ⟨v0, E0, -, r0⟩ := hk.dep hr 0 7 (by kernel_rfl) (by kernel_rfl)
      have r0 : WV wq v0 x := r0 wq (Grows.refl wq)
      refine wp_of_call (f := 46) (vs := #[v0]) (by go_simp) (rmade_v wq r0) ?_
      rintro e w1 ⟨u, rfl, hu, hb⟩
      exact ⟨u, rfl, hK.out _ _ hb (fun w2 h2 => (hu).grow h2) (fun h => absurd h (by decide))⟩
    exact AllOps.nil
  case fin =>
    intro V x1 hG hV hap
    have r1 : ZV x1 (V 1) x := hV 1 (by decide)
    clear hV hap
    simp only [List.take_succ_cons, List.take_zero, List.drop_succ_cons, List.drop_zero, putAll, Act.put, List.setIfInBounds_toArray, List.set_cons_zero, List.set_cons_succ]
    have hb := (show Below _ _ _ from hG)
    obtain ⟨nm2, Am2, km2, cm2, em2, sm2⟩ := r1
    simp only [em2]
    clear em2
    replace D0 := Box2.below D0.out hb
    refine wpList_of_skip rfl (op_store 2 8 _ rfl rfl D0) ?_
    replace D1 := Lib.hid (put2_far (u := .bool nm2) (v := .slice Am2 km2 cm2) (Box2.below D1.out hb) (show w.heap.size + 1 ≠ w.heap.size by omega))
    replace S1 := Lib.hid ((S1.out.below hb).put D0 (.bool nm2) (.slice Am2 km2 cm2))
    replace DR := Lib.hid (put2_far (u := .bool nm2) (v := .slice Am2 km2 cm2) (Box2.below DR.out hb) (show w.heap.size + 1 + 1 ≠ w.heap.size by omega))
    have S0' := Lib.hid (sm2.put D0 (.bool nm2) (.slice Am2 km2 cm2))
    replace HB := Lib.hid (put2_below (u := .bool nm2) (v := .slice Am2 km2 cm2) (HB.out.trans (Below.mono hb HB.out.size)) (show w.heap.size ≤ w.heap.size by omega))
    replace D0 := Lib.hid (put2_own (u := .bool nm2) (v := .slice Am2 km2 cm2) D0)
    clear hb hG sm2 S0
    have S0 := S0'
    clear S0'
    generalize put2 x1 w.heap.size (.bool nm2) (.slice Am2 km2 cm2) = y3 at *
    go_upto_region 2 with fail
    refine wp_region_calm 2 [] ([fun vq wq => WV wq vq y,
        fun vq wq => ZV wq vq y]) (by kernel_rfl) (by decide) ?hF ?steps ?fin
    case hF =>
      intro j hj; cases hj
    case steps =>
      refine AllOps.cons (Does.plain rfl fun lq aq wq hk hr K hK => ?_) ?_
      · have B3 : ev aq (.tmp 3) = .pointer (some ⟨w.heap.size + 1, 0, none⟩) := hk.base 3 (by kernel_rfl) rfl
        have hb : Below _ _ _ := hk.ext
        exact wp_of_value (op_load 3 _ B3 (Box2.below D1.out hb)) (hK.out _ _ (Grows.refl _) (fun w2 h2 => ⟨_, _, _, _, rfl, (S1.out.below hb).below h2⟩) (fun h => absurd h (by decide)))
      refine AllOps.cons (Does.plain rfl fun lq aq wq hk hr K hK => ?_) ?_
      · obtain ⟨v0, E0, -, r0⟩ := hk.dep hr 0 9 (by kernel_rfl) (by kernel_rfl)
        have r0 : WV wq v0 y := r0 wq (Grows.refl wq)
        refine wp_of_call (f := 46) (vs := #[v0]) (by go_simp) (rmade_v wq r0) ?_
        rintro e w1 ⟨u, rfl, hu, hb⟩
        exact ⟨u, rfl, hK.out _ _ hb (fun w2 h2 => (hu).grow h2) (fun h => absurd h (by decide))⟩
      exact AllOps.nil
    case fin =>
      intro V x4 hG hV hap
      have r1 : ZV x4 (V 1) y := hV 1 (by decide)
      clear hV hap
      simp only [List.take_succ_cons, List.take_zero, List.drop_succ_cons, List.drop_zero, putAll, Act.put, List.setIfInBounds_toArray, List.set_cons_zero, List.set_cons_succ]
      have hb := (show Below _ _ _ from hG)
      obtain ⟨nm5, Am5, km5, cm5, em5, sm5⟩ := r1
      simp only [em5]
      clear em5
      replace D1 := Box2.below D1.out hb
      refine wpList_of_skip rfl (op_store 3 10 _ rfl rfl D1) ?_
      replace D0 := Lib.hid (put2_far (u := .bool nm5) (v := .slice Am5 km5 cm5) (Box2.below D0.out hb) (show w.heap.size ≠ w.heap.size + 1 by omega))
      replace S0 := Lib.hid ((S0.out.below hb).put D1 (.bool nm5) (.slice Am5 km5 cm5))
      replace DR := Lib.hid (put2_far (u := .bool nm5) (v := .slice Am5 km5 cm5) (Box2.below DR.out hb) (show w.heap.size + 1 + 1 ≠ w.heap.size + 1 by omega))
      have S1' := Lib.hid (sm5.put D1 (.bool nm5) (.slice Am5 km5 cm5))
      replace HB := Lib.hid (put2_below (u := .bool nm5) (v := .slice Am5 km5 cm5) (HB.out.trans (Below.mono hb HB.out.size)) (show w.heap.size ≤ w.heap.size + 1 by omega))
      replace D1 := Lib.hid (put2_own (u := .bool nm5) (v := .slice Am5 km5 cm5) D1)
      clear hb hG sm5 S1
      have S1 := S1'
      clear S1'
      generalize put2 x4 (w.heap.size + 1) (.bool nm5) (.slice Am5 km5 cm5) = y6 at *
      have hg0 := Lib.hid S0.out.sign
      have hg1 := Lib.hid S1.out.sign
      rcases ht : (nm2 == nm5) with _ | _
      · skip
        rcases Nat.lt_or_ge x.natAbs y.natAbs with hl | hl
        · skip
          go_upto_region 3 with fail
          refine wp_region_calm 5 [] ([fun vq _ => vq = .pointer (some ⟨w.heap.size, 0, none⟩),
              fun vq _ => vq = .bool nm2,
              fun vq _ => vq = .pointer (some ⟨w.heap.size + 1, 0, none⟩),
              fun vq _ => vq = .bool nm5,
              fun vq _ => vq = .bool false]) (by kernel_rfl) (by decide) ?hF ?steps ?fin
          case hF =>
            intro j hj; cases hj
          case steps =>
            refine AllOps.cons (Does.plain rfl fun lq aq wq hk hr K hK => ?_) ?_
            · have B2 : ev aq (.tmp 2) = .pointer (some ⟨w.heap.size, 0, none⟩) := hk.base 2 (by kernel_rfl) rfl
              exact wp_of_value (by go_simp) (hK.out _ _ (Grows.refl _) (fun w2 h2 => rfl) (fun h => absurd h (by decide)))
            refine AllOps.cons (Does.plain rfl fun lq aq wq hk hr K hK => ?_) ?_
            · obtain ⟨v0, E0, -, r0⟩ := hk.dep hr 0 11 (by kernel_rfl) (by kernel_rfl)
              replace E0 : ev aq (.tmp 11) = .pointer (some ⟨w.heap.size, 0, none⟩) := E0.trans (r0 wq (Grows.refl wq))
              have hb : Below _ _ _ := hk.ext
              have c0 := (Box2.below D0.out hb).c0
              exact wp_of_value (by go_simp) (hK.out _ _ (Grows.refl _) (fun w2 h2 => rfl) (fun h => absurd h (by decide)))
            refine AllOps.cons (Does.plain rfl fun lq aq wq hk hr K hK => ?_) ?_
            · have B3 : ev aq (.tmp 3) = .pointer (some ⟨w.heap.size + 1, 0, none⟩) := hk.base 3 (by kernel_rfl) rfl
              exact wp_of_value (by go_simp) (hK.out _ _ (Grows.refl _) (fun w2 h2 => rfl) (fun h => absurd h (by decide)))
            refine AllOps.cons (Does.plain rfl fun lq aq wq hk hr K hK => ?_) ?_
            · obtain ⟨v2, E2, -, r2⟩ := hk.dep hr 2 13 (by kernel_rfl) (by kernel_rfl)
              replace E2 : ev aq (.tmp 13) = .pointer (some ⟨w.heap.size + 1, 0, none⟩) := E2.trans (r2 wq (Grows.refl wq))
              have hb : Below _ _ _ := hk.ext
              have c0 := (Box2.below D1.out hb).c0
              exact wp_of_value (by go_simp) (hK.out _ _ (Grows.refl _) (fun w2 h2 => rfl) (fun h => absurd h (by decide)))
            refine AllOps.cons (Does.plain rfl fun lq aq wq hk hr K hK => ?_) ?_
            · obtain ⟨v1, E1, -, r1⟩ := hk.dep hr 1 12 (by kernel_rfl) (by kernel_rfl)
              replace E1 : ev aq (.tmp 12) = .bool nm2 := E1.trans (r1 wq (Grows.refl wq))
              obtain ⟨v3, E3, -, r3⟩ := hk.dep hr 3 14 (by kernel_rfl) (by kernel_rfl)
              replace E3 : ev aq (.tmp 14) = .bool nm5 := E3.trans (r3 wq (Grows.refl wq))
              exact wp_of_value (by go_simp) (hK.out _ _ (Grows.refl _) (fun w2 h2 => rfl) (fun h => absurd h (by decide)))
            exact AllOps.nil
          case fin =>
            intro V x7 hG hV hap
            have r4 : (V 4) = .bool false := hV 4 (by decide)
            clear hV hap
            simp only [List.take_succ_cons, List.take_nil, List.drop_succ_cons, List.drop_nil, putAll, Act.put, List.setIfInBounds_toArray, List.set_cons_zero, List.set_cons_succ]
            have hb := (show Below _ _ _ from hG)
            replace D0 := Lib.hid (Box2.below D0.out hb)
            replace S0 := Lib.hid (S0.out.below hb)
            replace D1 := Lib.hid (Box2.below D1.out hb)
            replace S1 := Lib.hid (S1.out.below hb)
            replace DR := Lib.hid (Box2.below DR.out hb)
            replace HB := Lib.hid (HB.out.trans (Below.mono hb HB.out.size))
            clear hb hG
            rw [r4]
            clear r4
            go_upto_region 5 with fail
            refine wp_region_calm 8 [] ([fun vq _ => vq = .pointer (some ⟨w.heap.size, 1, none⟩),
                fun vq _ => vq = .slice Am2 km2 cm2,
                fun vq _ => vq = .pointer (some ⟨w.heap.size + 1, 1, none⟩),
                fun vq _ => vq = .slice Am5 km5 cm5,
                fun vq wq => vq = .tuple #[.slice none 0 0, .bool false],
                fun vq wq => vq = .tuple #[.slice none 0 0, .bool false],
                fun vq _ => vq = .slice none 0 0,
                fun vq _ => vq = .bool false]) (by kernel_rfl) (by decide) ?hF ?steps ?fin
            case hF =>
              intro j hj; cases hj
            case steps =>
              refine AllOps.cons (Does.plain rfl fun lq aq wq hk hr K hK => ?_) ?_
              · have B2 : ev aq (.tmp 2) = .pointer (some ⟨w.heap.size, 0, none⟩) := hk.base 2 (by kernel_rfl) rfl
                exact wp_of_value (by go_simp) (hK.out _ _ (Grows.refl _) (fun w2 h2 => rfl) (fun h => absurd h (by decide)))
              refine AllOps.cons (Does.plain rfl fun lq aq wq hk hr K hK => ?_) ?_
              · obtain ⟨v0, E0, -, r0⟩ := hk.dep hr 0 25 (by kernel_rfl) (by kernel_rfl)
                replace E0 : ev aq (.tmp 25) = .pointer (some ⟨w.heap.size, 1, none⟩) := E0.trans (r0 wq (Grows.refl wq))
                have hb : Below _ _ _ := hk.ext
                have c1 := (Box2.below D0.out hb).c1
                exact wp_of_value (by go_simp) (hK.out _ _ (Grows.refl _) (fun w2 h2 => rfl) (fun h => absurd h (by decide)))
              refine AllOps.cons (Does.plain rfl fun lq aq wq hk hr K hK => ?_) ?_
              · have B3 : ev aq (.tmp 3) = .pointer (some ⟨w.heap.size + 1, 0, none⟩) := hk.base 3 (by kernel_rfl) rfl
                exact wp_of_value (by go_simp) (hK.out _ _ (Grows.refl _) (fun w2 h2 => rfl) (fun h => absurd h (by decide)))
              refine AllOps.cons (Does.plain rfl fun lq aq wq hk hr K hK => ?_) ?_
              · obtain ⟨v2, E2, -, r2⟩ := hk.dep hr 2 27 (by kernel_rfl) (by kernel_rfl)
                replace E2 : ev aq (.tmp 27) = .pointer (some ⟨w.heap.size + 1, 1, none⟩) := E2.trans (r2 wq (Grows.refl wq))
                have hb : Below _ _ _ := hk.ext
                have c1 := (Box2.below D1.out hb).c1
                exact wp_of_value (by go_simp) (hK.out _ _ (Grows.refl _) (fun w2 h2 => rfl) (fun h => absurd h (by decide)))
              refine AllOps.cons (Does.plain rfl fun lq aq wq hk hr K hK => ?_) ?_
              · obtain ⟨v1, E1, -, r1⟩ := hk.dep hr 1 26 (by kernel_rfl) (by kernel_rfl)
                replace E1 : ev aq (.tmp 26) = .slice Am2 km2 cm2 := E1.trans (r1 wq (Grows.refl wq))
                obtain ⟨v3, E3, -, r3⟩ := hk.dep hr 3 28 (by kernel_rfl) (by kernel_rfl)
                replace E3 : ev aq (.tmp 28) = .slice Am5 km5 cm5 := E3.trans (r3 wq (Grows.refl wq))
                refine wp_of_call (f := 67) (vs := #[.slice Am2 km2 cm2, .slice Am5 km5 cm5]) (by go_simp) (rsubn0_v wq (S0.out.num.below hk.ext).lv (S1.out.num.below hk.ext).lv S0.out.short S1.out.short hl) ?_
                rintro e w1 ⟨u, rfl, hu, hb⟩
                exact ⟨u, rfl, hK.out _ _ hb (fun w2 h2 => hu) (fun h => absurd h (by decide))⟩
              refine AllOps.cons (Does.plain rfl fun lq aq wq hk hr K hK => ?_) ?_
              · obtain ⟨v4, E4, -, r4⟩ := hk.dep hr 4 29 (by kernel_rfl) (by kernel_rfl)
                have r4 : v4 = .tuple #[.slice none 0 0, .bool false] := r4 wq (Grows.refl wq)
                exact wp_of_value (by go_simp) (hK.out _ _ (Grows.refl _) (fun w2 h2 => r4) (fun h => absurd h (by decide)))
              refine AllOps.cons (Does.plain rfl fun lq aq wq hk hr K hK => ?_) ?_
              · obtain ⟨v5, E5, -, r5⟩ := hk.dep hr 5 24 (by kernel_rfl) (by kernel_rfl)
                have r5 : v5 = .tuple #[.slice none 0 0, .bool false] := r5 wq (Grows.refl wq)
                obtain ⟨rfl⟩ := r5
                exact wp_of_value (by go_simp) (hK.out _ _ (Grows.refl _) (fun w2 h2 => rfl) (fun h => absurd h (by decide)))
              refine AllOps.cons (Does.plain rfl fun lq aq wq hk hr K hK => ?_) ?_
              · obtain ⟨v5, E5, -, r5⟩ := hk.dep hr 5 24 (by kernel_rfl) (by kernel_rfl)
                have r5 : v5 = .tuple #[.slice none 0 0, .bool false] := r5 wq (Grows.refl wq)
                obtain ⟨rfl⟩ := r5
                exact wp_of_value (by go_simp) (hK.out _ _ (Grows.refl _) (fun w2 h2 => rfl) (fun h => absurd h (by decide)))
              exact AllOps.nil
            case fin =>
              intro V x8 hG hV hap
              have r6 : (V 6) = .slice none 0 0 := hV 6 (by decide)
              have r7 : (V 7) = .bool false := hV 7 (by decide)
              clear hV hap
              simp only [List.take_succ_cons, List.take_zero, List.drop_succ_cons, List.drop_zero, putAll, Act.put, List.setIfInBounds_toArray, List.set_cons_zero, List.set_cons_succ]
              have hb := (show Below _ _ _ from hG)
              replace D0 := Lib.hid (Box2.below D0.out hb)
              replace S0 := Lib.hid (S0.out.below hb)
              replace D1 := Lib.hid (Box2.below D1.out hb)
              replace S1 := Lib.hid (S1.out.below hb)
              replace DR := Lib.hid (Box2.below DR.out hb)
              replace HB := Lib.hid (HB.out.trans (Below.mono hb HB.out.size))
              clear hb hG
              rw [r6, r7]
              clear r6 r7
              go_upto_region 8 with fail
              refine wp_region_calm 8 [] ([fun vq _ => vq = .pointer (some ⟨w.heap.size + 1, 1, none⟩),
                  fun vq _ => vq = .slice Am5 km5 cm5,
                  fun vq _ => vq = .pointer (some ⟨w.heap.size, 1, none⟩),
                  fun vq _ => vq = .slice Am2 km2 cm2,
                  fun vq wq => ∃ u0, vq = .tuple #[u0, .bool true] ∧ LV wq u0 ((limbs (y.natAbs - x.natAbs))) ((y.natAbs - x.natAbs)),
                  fun vq wq => ∃ u0, vq = .tuple #[u0, .bool true] ∧ LV wq u0 ((limbs (y.natAbs - x.natAbs))) ((y.natAbs - x.natAbs)),
                  fun vq wq => LV wq vq ((limbs (y.natAbs - x.natAbs))) ((y.natAbs - x.natAbs)),
                  fun vq _ => vq = .bool true]) (by kernel_rfl) (by decide) ?hF ?steps ?fin
              case hF =>
                intro j hj; cases hj
              case steps =>
                refine AllOps.cons (Does.plain rfl fun lq aq wq hk hr K hK => ?_) ?_
                · have B3 : ev aq (.tmp 3) = .pointer (some ⟨w.heap.size + 1, 0, none⟩) := hk.base 3 (by kernel_rfl) rfl
                  exact wp_of_value (by go_simp) (hK.out _ _ (Grows.refl _) (fun w2 h2 => rfl) (fun h => absurd h (by decide)))
                refine AllOps.cons (Does.plain rfl fun lq aq wq hk hr K hK => ?_) ?_
                · obtain ⟨v0, E0, -, r0⟩ := hk.dep hr 0 38 (by kernel_rfl) (by kernel_rfl)
                  replace E0 : ev aq (.tmp 38) = .pointer (some ⟨w.heap.size + 1, 1, none⟩) := E0.trans (r0 wq (Grows.refl wq))
                  have hb : Below _ _ _ := hk.ext
                  have c1 := (Box2.below D1.out hb).c1
                  exact wp_of_value (by go_simp) (hK.out _ _ (Grows.refl _) (fun w2 h2 => rfl) (fun h => absurd h (by decide)))
                refine AllOps.cons (Does.plain rfl fun lq aq wq hk hr K hK => ?_) ?_
                · have B2 : ev aq (.tmp 2) = .pointer (some ⟨w.heap.size, 0, none⟩) := hk.base 2 (by kernel_rfl) rfl
                  exact wp_of_value (by go_simp) (hK.out _ _ (Grows.refl _) (fun w2 h2 => rfl) (fun h => absurd h (by decide)))
                refine AllOps.cons (Does.plain rfl fun lq aq wq hk hr K hK => ?_) ?_
                · obtain ⟨v2, E2, -, r2⟩ := hk.dep hr 2 40 (by kernel_rfl) (by kernel_rfl)
                  replace E2 : ev aq (.tmp 40) = .pointer (some ⟨w.heap.size, 1, none⟩) := E2.trans (r2 wq (Grows.refl wq))
                  have hb : Below _ _ _ := hk.ext
                  have c1 := (Box2.below D0.out hb).c1
                  exact wp_of_value (by go_simp) (hK.out _ _ (Grows.refl _) (fun w2 h2 => rfl) (fun h => absurd h (by decide)))
                refine AllOps.cons (Does.plain rfl fun lq aq wq hk hr K hK => ?_) ?_
                · obtain ⟨v1, E1, -, r1⟩ := hk.dep hr 1 39 (by kernel_rfl) (by kernel_rfl)
                  replace E1 : ev aq (.tmp 39) = .slice Am5 km5 cm5 := E1.trans (r1 wq (Grows.refl wq))
                  obtain ⟨v3, E3, -, r3⟩ := hk.dep hr 3 41 (by kernel_rfl) (by kernel_rfl)
                  replace E3 : ev aq (.tmp 41) = .slice Am2 km2 cm2 := E3.trans (r3 wq (Grows.refl wq))
                  refine wp_of_call (f := 67) (vs := #[.slice Am5 km5 cm5, .slice Am2 km2 cm2]) (by go_simp) (rsubn_v wq (S1.out.num.below hk.ext).lv (S0.out.num.below hk.ext).lv S1.out.short S0.out.short (Nat.le_of_lt hl)) ?_
                  rintro e w1 ⟨u, rfl, hu, hb⟩
                  exact ⟨u, rfl, hK.out _ _ hb (fun w2 h2 => (let ⟨u0, e0, h0⟩ := hu; ⟨u0, e0, (h0).grow h2⟩)) (fun h => absurd h (by decide))⟩
                refine AllOps.cons (Does.plain rfl fun lq aq wq hk hr K hK => ?_) ?_
                · obtain ⟨v4, E4, -, r4⟩ := hk.dep hr 4 42 (by kernel_rfl) (by kernel_rfl)
                  have r4 : ∃ u0, v4 = .tuple #[u0, .bool true] ∧ LV wq u0 ((limbs (y.natAbs - x.natAbs))) ((y.natAbs - x.natAbs)) := r4 wq (Grows.refl wq)
                  exact wp_of_value (by go_simp) (hK.out _ _ (Grows.refl _) (fun w2 h2 => (let ⟨u0, e0, h0⟩ := r4; ⟨u0, e0, (h0).grow h2⟩)) (fun h => absurd h (by decide)))
                refine AllOps.cons (Does.plain rfl fun lq aq wq hk hr K hK => ?_) ?_
                · obtain ⟨v5, E5, -, r5⟩ := hk.dep hr 5 37 (by kernel_rfl) (by kernel_rfl)
                  have r5 : ∃ u0, v5 = .tuple #[u0, .bool true] ∧ LV wq u0 ((limbs (y.natAbs - x.natAbs))) ((y.natAbs - x.natAbs)) := r5 wq (Grows.refl wq)
                  obtain ⟨u0, rfl, h0⟩ := r5
                  exact wp_of_value (by go_simp) (hK.out _ _ (Grows.refl _) (fun w2 h2 => (h0).grow h2) (fun h => absurd h (by decide)))
                refine AllOps.cons (Does.plain rfl fun lq aq wq hk hr K hK => ?_) ?_
                · obtain ⟨v5, E5, -, r5⟩ := hk.dep hr 5 37 (by kernel_rfl) (by kernel_rfl)
                  have r5 : ∃ u0, v5 = .tuple #[u0, .bool true] ∧ LV wq u0 ((limbs (y.natAbs - x.natAbs))) ((y.natAbs - x.natAbs)) := r5 wq (Grows.refl wq)
                  obtain ⟨u0, rfl, h0⟩ := r5
                  exact wp_of_value (by go_simp) (hK.out _ _ (Grows.refl _) (fun w2 h2 => rfl) (fun h => absurd h (by decide)))
                exact AllOps.nil
              case fin =>
                intro V x9 hG hV hap
                have r6 : LV x9 (V 6) ((limbs (y.natAbs - x.natAbs))) ((y.natAbs - x.natAbs)) := hV 6 (by decide)
                clear hV hap
                simp only [List.take_succ_cons, List.take_zero, List.drop_succ_cons, List.drop_zero, putAll, Act.put, List.setIfInBounds_toArray, List.set_cons_zero, List.set_cons_succ]
                have hb := (show Below _ _ _ from hG)
                replace D0 := Lib.hid (Box2.below D0.out hb)
                replace S0 := Lib.hid (S0.out.below hb)
                replace D1 := Lib.hid (Box2.below D1.out hb)
                replace S1 := Lib.hid (S1.out.below hb)
                replace DR := Lib.hid (Box2.below DR.out hb)
                replace HB := Lib.hid (HB.out.trans (Below.mono hb HB.out.size))
                clear hb hG
                obtain ⟨A5, c5, e5, q5⟩ := r6
                simp only [e5]
                rw [e5] at q5
                have Q5 := Lib.hid q5
                clear e5 q5
                have h5 : sz (y.natAbs - x.natAbs) ≤ 1000 := Nat.le_trans (sz_mono (Nat.sub_le _ _)) hk1
                go_upto_region 9 with fail
                refine wp_region_calm 4 [] ([fun vq _ => vq = .pointer (some ⟨w.heap.size + 1, 0, none⟩),
                    fun vq _ => vq = .bool nm5,
                    fun vq _ => vq = .slice A5 (limbs (y.natAbs - x.natAbs)).length c5,
                    fun vq wq => ZV wq vq ((x + y))]) (by kernel_rfl) (by decide) ?hF ?steps ?fin
                case hF =>
                  intro j hj; cases hj
                case steps =>
                  refine AllOps.cons (Does.plain rfl fun lq aq wq hk hr K hK => ?_) ?_
                  · have B3 : ev aq (.tmp 3) = .pointer (some ⟨w.heap.size + 1, 0, none⟩) := hk.base 3 (by kernel_rfl) rfl
                    exact wp_of_value (by go_simp) (hK.out _ _ (Grows.refl _) (fun w2 h2 => rfl) (fun h => absurd h (by decide)))
                  refine AllOps.cons (Does.plain rfl fun lq aq wq hk hr K hK => ?_) ?_
                  · obtain ⟨v0, E0, -, r0⟩ := hk.dep hr 0 45 (by kernel_rfl) (by kernel_rfl)
                    replace E0 : ev aq (.tmp 45) = .pointer (some ⟨w.heap.size + 1, 0, none⟩) := E0.trans (r0 wq (Grows.refl wq))
                    have hb : Below _ _ _ := hk.ext
                    have c0 := (Box2.below D1.out hb).c0
                    exact wp_of_value (by go_simp) (hK.out _ _ (Grows.refl _) (fun w2 h2 => rfl) (fun h => absurd h (by decide)))
                  refine AllOps.cons (Does.plain rfl fun lq aq wq hk hr K hK => ?_) ?_
                  · have B5 : ev aq (.tmp 5) = .slice A5 (limbs (y.natAbs - x.natAbs)).length c5 := hk.base 5 (by kernel_rfl) rfl
                    exact wp_of_value (by go_simp) (hK.out _ _ (Grows.refl _) (fun w2 h2 => rfl) (fun h => absurd h (by decide)))
                  refine AllOps.cons (Does.plain rfl fun lq aq wq hk hr K hK => ?_) ?_
                  · obtain ⟨v1, E1, -, r1⟩ := hk.dep hr 1 46 (by kernel_rfl) (by kernel_rfl)
                    replace E1 : ev aq (.tmp 46) = .bool nm5 := E1.trans (r1 wq (Grows.refl wq))
                    obtain ⟨v2, E2, -, r2⟩ := hk.dep hr 2 47 (by kernel_rfl) (by kernel_rfl)
                    replace E2 : ev aq (.tmp 47) = .slice A5 (limbs (y.natAbs - x.natAbs)).length c5 := E2.trans (r2 wq (Grows.refl wq))
                    refine wp_of_call (f := 49) (vs := #[.bool nm5, .slice A5 (limbs (y.natAbs - x.natAbs)).length c5]) (by go_simp) (rof_v wq nm5 (Q5.out.below hk.ext).lv h5 (add_apart' hg0.out hg1.out ht (Nat.le_of_lt hl)) hs) ?_
                    rintro e w1 ⟨u, rfl, hu, hb⟩
                    exact ⟨u, rfl, hK.out _ _ hb (fun w2 h2 => (hu).grow h2) (fun h => absurd h (by decide))⟩
                  exact AllOps.nil
                case fin =>
                  intro V x10 hG hV hap
                  have r3 : ZV x10 (V 3) ((x + y)) := hV 3 (by decide)
                  clear hV hap
                  simp only [List.take_succ_cons, List.take_zero, List.drop_succ_cons, List.drop_zero, putAll, Act.put, List.setIfInBounds_toArray, List.set_cons_zero, List.set_cons_succ]
                  have hb := (show Below _ _ _ from hG)
                  obtain ⟨nR, AR, kR, cR, eR, sR⟩ := r3
                  simp only [eR]
                  clear eR
                  replace DR := Box2.below DR.out hb
                  refine wpList_of_skip rfl (op_store 4 48 _ rfl rfl DR) ?_
                  have sQ := sR.put DR (.bool nR) (.slice AR kR cR)
                  have HQ := put2_below (u := .bool nR) (v := .slice AR kR cR) (HB.out.trans (Below.mono hb HB.out.size)) (show w.heap.size ≤ w.heap.size + 1 + 1 by omega)
                  replace DR := put2_own (u := .bool nR) (v := .slice AR kR cR) DR
                  clear hb hG sR HB
                  generalize put2 x10 (w.heap.size + 1 + 1) (.bool nR) (.slice AR kR cR) = y9 at *
                  have c0 := DR.c0
                  have c1 := DR.c1
                  clear DR
                  go_wp2_with fail
                  refine bodyPost_ret (v := .agg #[.bool nR, .slice AR kR cR]) (by simp [results, Tryd.results39, go_sem, c0, c1]) rfl ⟨_, rfl, ⟨_, _, _, _, rfl, sQ⟩, HQ⟩
        · skip
          go_upto_region 3 with fail
          refine wp_region_calm 5 [] ([fun vq _ => vq = .pointer (some ⟨w.heap.size, 0, none⟩),
              fun vq _ => vq = .bool nm2,
              fun vq _ => vq = .pointer (some ⟨w.heap.size + 1, 0, none⟩),
              fun vq _ => vq = .bool nm5,
              fun vq _ => vq = .bool false]) (by kernel_rfl) (by decide) ?hF ?steps ?fin
          case hF =>
            intro j hj; cases hj
          case steps =>
            refine AllOps.cons (Does.plain rfl fun lq aq wq hk hr K hK => ?_) ?_
            · have B2 : ev aq (.tmp 2) = .pointer (some ⟨w.heap.size, 0, none⟩) := hk.base 2 (by kernel_rfl) rfl
              exact wp_of_value (by go_simp) (hK.out _ _ (Grows.refl _) (fun w2 h2 => rfl) (fun h => absurd h (by decide)))
            refine AllOps.cons (Does.plain rfl fun lq aq wq hk hr K hK => ?_) ?_
            · obtain ⟨v0, E0, -, r0⟩ := hk.dep hr 0 11 (by kernel_rfl) (by kernel_rfl)
              replace E0 : ev aq (.tmp 11) = .pointer (some ⟨w.heap.size, 0, none⟩) := E0.trans (r0 wq (Grows.refl wq))
              have hb : Below _ _ _ := hk.ext
              have c0 := (Box2.below D0.out hb).c0
              exact wp_of_value (by go_simp) (hK.out _ _ (Grows.refl _) (fun w2 h2 => rfl) (fun h => absurd h (by decide)))
            refine AllOps.cons (Does.plain rfl fun lq aq wq hk hr K hK => ?_) ?_
            · have B3 : ev aq (.tmp 3) = .pointer (some ⟨w.heap.size + 1, 0, none⟩) := hk.base 3 (by kernel_rfl) rfl
              exact wp_of_value (by go_simp) (hK.out _ _ (Grows.refl _) (fun w2 h2 => rfl) (fun h => absurd h (by decide)))
            refine AllOps.cons (Does.plain rfl fun lq aq wq hk hr K hK => ?_) ?_
            · obtain ⟨v2, E2, -, r2⟩ := hk.dep hr 2 13 (by kernel_rfl) (by kernel_rfl)
              replace E2 : ev aq (.tmp 13) = .pointer (some ⟨w.heap.size + 1, 0, none⟩) := E2.trans (r2 wq (Grows.refl wq))
              have hb : Below _ _ _ := hk.ext
              have c0 := (Box2.below D1.out hb).c0
              exact wp_of_value (by go_simp) (hK.out _ _ (Grows.refl _) (fun w2 h2 => rfl) (fun h => absurd h (by decide)))
            refine AllOps.cons (Does.plain rfl fun lq aq wq hk hr K hK => ?_) ?_
            · obtain ⟨v1, E1, -, r1⟩ := hk.dep hr 1 12 (by kernel_rfl) (by kernel_rfl)
              replace E1 : ev aq (.tmp 12) = .bool nm2 := E1.trans (r1 wq (Grows.refl wq))
              obtain ⟨v3, E3, -, r3⟩ := hk.dep hr 3 14 (by kernel_rfl) (by kernel_rfl)
              replace E3 : ev aq (.tmp 14) = .bool nm5 := E3.trans (r3 wq (Grows.refl wq))
              exact wp_of_value (by go_simp) (hK.out _ _ (Grows.refl _) (fun w2 h2 => rfl) (fun h => absurd h (by decide)))
            exact AllOps.nil
          case fin =>
            intro V x7 hG hV hap
            have r4 : (V 4) = .bool false := hV 4 (by decide)
            clear hV hap
            simp only [List.take_succ_cons, List.take_nil, List.drop_succ_cons, List.drop_nil, putAll, Act.put, List.setIfInBounds_toArray, List.set_cons_zero, List.set_cons_succ]
            have hb := (show Below _ _ _ from hG)
            replace D0 := Lib.hid (Box2.below D0.out hb)
            replace S0 := Lib.hid (S0.out.below hb)
            replace D1 := Lib.hid (Box2.below D1.out hb)
            replace S1 := Lib.hid (S1.out.below hb)
            replace DR := Lib.hid (Box2.below DR.out hb)
            replace HB := Lib.hid (HB.out.trans (Below.mono hb HB.out.size))
            clear hb hG
            rw [r4]
            clear r4
            go_upto_region 5 with fail
            refine wp_region_calm 8 [] ([fun vq _ => vq = .pointer (some ⟨w.heap.size, 1, none⟩),
                fun vq _ => vq = .slice Am2 km2 cm2,
                fun vq _ => vq = .pointer (some ⟨w.heap.size + 1, 1, none⟩),
                fun vq _ => vq = .slice Am5 km5 cm5,
                fun vq wq => ∃ u0, vq = .tuple #[u0, .bool true] ∧ LV wq u0 ((limbs (x.natAbs - y.natAbs))) ((x.natAbs - y.natAbs)),
                fun vq wq => ∃ u0, vq = .tuple #[u0, .bool true] ∧ LV wq u0 ((limbs (x.natAbs - y.natAbs))) ((x.natAbs - y.natAbs)),
                fun vq wq => LV wq vq ((limbs (x.natAbs - y.natAbs))) ((x.natAbs - y.natAbs)),
                fun vq _ => vq = .bool true]) (by kernel_rfl) (by decide) ?hF ?steps ?fin
            case hF =>
              intro j hj; cases hj
            case steps =>
              refine AllOps.cons (Does.plain rfl fun lq aq wq hk hr K hK => ?_) ?_
              · have B2 : ev aq (.tmp 2) = .pointer (some ⟨w.heap.size, 0, none⟩) := hk.base 2 (by kernel_rfl) rfl
                exact wp_of_value (by go_simp) (hK.out _ _ (Grows.refl _) (fun w2 h2 => rfl) (fun h => absurd h (by decide)))
              refine AllOps.cons (Does.plain rfl fun lq aq wq hk hr K hK => ?_) ?_
              · obtain ⟨v0, E0, -, r0⟩ := hk.dep hr 0 25 (by kernel_rfl) (by kernel_rfl)
                replace E0 : ev aq (.tmp 25) = .pointer (some ⟨w.heap.size, 1, none⟩) := E0.trans (r0 wq (Grows.refl wq))
                have hb : Below _ _ _ := hk.ext
                have c1 := (Box2.below D0.out hb).c1
                exact wp_of_value (by go_simp) (hK.out _ _ (Grows.refl _) (fun w2 h2 => rfl) (fun h => absurd h (by decide)))
              refine AllOps.cons (Does.plain rfl fun lq aq wq hk hr K hK => ?_) ?_
              · have B3 : ev aq (.tmp 3) = .pointer (some ⟨w.heap.size + 1, 0, none⟩) := hk.base 3 (by kernel_rfl) rfl
                exact wp_of_value (by go_simp) (hK.out _ _ (Grows.refl _) (fun w2 h2 => rfl) (fun h => absurd h (by decide)))
              refine AllOps.cons (Does.plain rfl fun lq aq wq hk hr K hK => ?_) ?_
              · obtain ⟨v2, E2, -, r2⟩ := hk.dep hr 2 27 (by kernel_rfl) (by kernel_rfl)
                replace E2 : ev aq (.tmp 27) = .pointer (some ⟨w.heap.size + 1, 1, none⟩) := E2.trans (r2 wq (Grows.refl wq))
                have hb : Below _ _ _ := hk.ext
                have c1 := (Box2.below D1.out hb).c1
                exact wp_of_value (by go_simp) (hK.out _ _ (Grows.refl _) (fun w2 h2 => rfl) (fun h => absurd h (by decide)))
              refine AllOps.cons (Does.plain rfl fun lq aq wq hk hr K hK => ?_) ?_
              · obtain ⟨v1, E1, -, r1⟩ := hk.dep hr 1 26 (by kernel_rfl) (by kernel_rfl)
                replace E1 : ev aq (.tmp 26) = .slice Am2 km2 cm2 := E1.trans (r1 wq (Grows.refl wq))
                obtain ⟨v3, E3, -, r3⟩ := hk.dep hr 3 28 (by kernel_rfl) (by kernel_rfl)
                replace E3 : ev aq (.tmp 28) = .slice Am5 km5 cm5 := E3.trans (r3 wq (Grows.refl wq))
                refine wp_of_call (f := 67) (vs := #[.slice Am2 km2 cm2, .slice Am5 km5 cm5]) (by go_simp) (rsubn_v wq (S0.out.num.below hk.ext).lv (S1.out.num.below hk.ext).lv S0.out.short S1.out.short hl) ?_
                rintro e w1 ⟨u, rfl, hu, hb⟩
                exact ⟨u, rfl, hK.out _ _ hb (fun w2 h2 => (let ⟨u0, e0, h0⟩ := hu; ⟨u0, e0, (h0).grow h2⟩)) (fun h => absurd h (by decide))⟩
              refine AllOps.cons (Does.plain rfl fun lq aq wq hk hr K hK => ?_) ?_
              · obtain ⟨v4, E4, -, r4⟩ := hk.dep hr 4 29 (by kernel_rfl) (by kernel_rfl)
                have r4 : ∃ u0, v4 = .tuple #[u0, .bool true] ∧ LV wq u0 ((limbs (x.natAbs - y.natAbs))) ((x.natAbs - y.natAbs)) := r4 wq (Grows.refl wq)
                exact wp_of_value (by go_simp) (hK.out _ _ (Grows.refl _) (fun w2 h2 => (let ⟨u0, e0, h0⟩ := r4; ⟨u0, e0, (h0).grow h2⟩)) (fun h => absurd h (by decide)))
              refine AllOps.cons (Does.plain rfl fun lq aq wq hk hr K hK => ?_) ?_
              · obtain ⟨v5, E5, -, r5⟩ := hk.dep hr 5 24 (by kernel_rfl) (by kernel_rfl)
                have r5 : ∃ u0, v5 = .tuple #[u0, .bool true] ∧ LV wq u0 ((limbs (x.natAbs - y.natAbs))) ((x.natAbs - y.natAbs)) := r5 wq (Grows.refl wq)
                obtain ⟨u0, rfl, h0⟩ := r5
                exact wp_of_value (by go_simp) (hK.out _ _ (Grows.refl _) (fun w2 h2 => (h0).grow h2) (fun h => absurd h (by decide)))
              refine AllOps.cons (Does.plain rfl fun lq aq wq hk hr K hK => ?_) ?_
              · obtain ⟨v5, E5, -, r5⟩ := hk.dep hr 5 24 (by kernel_rfl) (by kernel_rfl)
                have r5 : ∃ u0, v5 = .tuple #[u0, .bool true] ∧ LV wq u0 ((limbs (x.natAbs - y.natAbs))) ((x.natAbs - y.natAbs)) := r5 wq (Grows.refl wq)
                obtain ⟨u0, rfl, h0⟩ := r5
                exact wp_of_value (by go_simp) (hK.out _ _ (Grows.refl _) (fun w2 h2 => rfl) (fun h => absurd h (by decide)))
              exact AllOps.nil
            case fin =>
              intro V x8 hG hV hap
              have r6 : LV x8 (V 6) ((limbs (x.natAbs - y.natAbs))) ((x.natAbs - y.natAbs)) := hV 6 (by decide)
              have r7 : (V 7) = .bool true := hV 7 (by decide)
              clear hV hap
              simp only [List.take_succ_cons, List.take_zero, List.drop_succ_cons, List.drop_zero, putAll, Act.put, List.setIfInBounds_toArray, List.set_cons_zero, List.set_cons_succ]
              have hb := (show Below _ _ _ from hG)
              replace D0 := Lib.hid (Box2.below D0.out hb)
              replace S0 := Lib.hid (S0.out.below hb)
              replace D1 := Lib.hid (Box2.below D1.out hb)
              replace S1 := Lib.hid (S1.out.below hb)
              replace DR := Lib.hid (Box2.below DR.out hb)
              replace HB := Lib.hid (HB.out.trans (Below.mono hb HB.out.size))
              clear hb hG
              rw [r7]
              clear r7
              obtain ⟨A5, c5, e5, q5⟩ := r6
              simp only [e5]
              rw [e5] at q5
              have Q5 := Lib.hid q5
              clear e5 q5
              have h5 : sz (x.natAbs - y.natAbs) ≤ 1000 := Nat.le_trans (sz_mono (Nat.sub_le _ _)) hk0
              go_upto_region 7 with fail
              refine wp_region_calm 4 [] ([fun vq _ => vq = .pointer (some ⟨w.heap.size, 0, none⟩),
                  fun vq _ => vq = .bool nm2,
                  fun vq _ => vq = .slice A5 (limbs (x.natAbs - y.natAbs)).length c5,
                  fun vq wq => ZV wq vq ((x + y))]) (by kernel_rfl) (by decide) ?hF ?steps ?fin
              case hF =>
                intro j hj; cases hj
              case steps =>
                refine AllOps.cons (Does.plain rfl fun lq aq wq hk hr K hK => ?_) ?_
                · have B2 : ev aq (.tmp 2) = .pointer (some ⟨w.heap.size, 0, none⟩) := hk.base 2 (by kernel_rfl) rfl
                  exact wp_of_value (by go_simp) (hK.out _ _ (Grows.refl _) (fun w2 h2 => rfl) (fun h => absurd h (by decide)))
                refine AllOps.cons (Does.plain rfl fun lq aq wq hk hr K hK => ?_) ?_
                · obtain ⟨v0, E0, -, r0⟩ := hk.dep hr 0 33 (by kernel_rfl) (by kernel_rfl)
                  replace E0 : ev aq (.tmp 33) = .pointer (some ⟨w.heap.size, 0, none⟩) := E0.trans (r0 wq (Grows.refl wq))
                  have hb : Below _ _ _ := hk.ext
                  have c0 := (Box2.below D0.out hb).c0
                  exact wp_of_value (by go_simp) (hK.out _ _ (Grows.refl _) (fun w2 h2 => rfl) (fun h => absurd h (by decide)))
                refine AllOps.cons (Does.plain rfl fun lq aq wq hk hr K hK => ?_) ?_
                · have B5 : ev aq (.tmp 5) = .slice A5 (limbs (x.natAbs - y.natAbs)).length c5 := hk.base 5 (by kernel_rfl) rfl
                  exact wp_of_value (by go_simp) (hK.out _ _ (Grows.refl _) (fun w2 h2 => rfl) (fun h => absurd h (by decide)))
                refine AllOps.cons (Does.plain rfl fun lq aq wq hk hr K hK => ?_) ?_
                · obtain ⟨v1, E1, -, r1⟩ := hk.dep hr 1 34 (by kernel_rfl) (by kernel_rfl)
                  replace E1 : ev aq (.tmp 34) = .bool nm2 := E1.trans (r1 wq (Grows.refl wq))
                  obtain ⟨v2, E2, -, r2⟩ := hk.dep hr 2 35 (by kernel_rfl) (by kernel_rfl)
                  replace E2 : ev aq (.tmp 35) = .slice A5 (limbs (x.natAbs - y.natAbs)).length c5 := E2.trans (r2 wq (Grows.refl wq))
                  refine wp_of_call (f := 49) (vs := #[.bool nm2, .slice A5 (limbs (x.natAbs - y.natAbs)).length c5]) (by go_simp) (rof_v wq nm2 (Q5.out.below hk.ext).lv h5 (add_apart hg0.out hg1.out ht hl) hs) ?_
                  rintro e w1 ⟨u, rfl, hu, hb⟩
                  exact ⟨u, rfl, hK.out _ _ hb (fun w2 h2 => (hu).grow h2) (fun h => absurd h (by decide))⟩
                exact AllOps.nil
              case fin =>
                intro V x9 hG hV hap
                have r3 : ZV x9 (V 3) ((x + y)) := hV 3 (by decide)
                clear hV hap
                simp only [List.take_succ_cons, List.take_zero, List.drop_succ_cons, List.drop_zero, putAll, Act.put, List.setIfInBounds_toArray, List.set_cons_zero, List.set_cons_succ]
                have hb := (show Below _ _ _ from hG)
                obtain ⟨nR, AR, kR, cR, eR, sR⟩ := r3
                simp only [eR]
                clear eR
                replace DR := Box2.below DR.out hb
                refine wpList_of_skip rfl (op_store 4 36 _ rfl rfl DR) ?_
                have sQ := sR.put DR (.bool nR) (.slice AR kR cR)
                have HQ := put2_below (u := .bool nR) (v := .slice AR kR cR) (HB.out.trans (Below.mono hb HB.out.size)) (show w.heap.size ≤ w.heap.size + 1 + 1 by omega)
                replace DR := put2_own (u := .bool nR) (v := .slice AR kR cR) DR
                clear hb hG sR HB
                generalize put2 x9 (w.heap.size + 1 + 1) (.bool nR) (.slice AR kR cR) = y9 at *
                have c0 := DR.c0
                have c1 := DR.c1
                clear DR
                go_wp2_with fail
                refine bodyPost_ret (v := .agg #[.bool nR, .slice AR kR cR]) (by simp [results, Tryd.results39, go_sem, c0, c1]) rfl ⟨_, rfl, ⟨_, _, _, _, rfl, sQ⟩, HQ⟩
      · skip
        go_upto_region 3 with fail
        refine wp_region_calm 5 [] ([fun vq _ => vq = .pointer (some ⟨w.heap.size, 0, none⟩),
            fun vq _ => vq = .bool nm2,
            fun vq _ => vq = .pointer (some ⟨w.heap.size + 1, 0, none⟩),
            fun vq _ => vq = .bool nm5,
            fun vq _ => vq = .bool true]) (by kernel_rfl) (by decide) ?hF ?steps ?fin
        case hF =>
          intro j hj; cases hj
        case steps =>
          refine AllOps.cons (Does.plain rfl fun lq aq wq hk hr K hK => ?_) ?_
          · have B2 : ev aq (.tmp 2) = .pointer (some ⟨w.heap.size, 0, none⟩) := hk.base 2 (by kernel_rfl) rfl
            exact wp_of_value (by go_simp) (hK.out _ _ (Grows.refl _) (fun w2 h2 => rfl) (fun h => absurd h (by decide)))
          refine AllOps.cons (Does.plain rfl fun lq aq wq hk hr K hK => ?_) ?_
          · obtain ⟨v0, E0, -, r0⟩ := hk.dep hr 0 11 (by kernel_rfl) (by kernel_rfl)
            replace E0 : ev aq (.tmp 11) = .pointer (some ⟨w.heap.size, 0, none⟩) := E0.trans (r0 wq (Grows.refl wq))
            have hb : Below _ _ _ := hk.ext
            have c0 := (Box2.below D0.out hb).c0
            exact wp_of_value (by go_simp) (hK.out _ _ (Grows.refl _) (fun w2 h2 => rfl) (fun h => absurd h (by decide)))
          refine AllOps.cons (Does.plain rfl fun lq aq wq hk hr K hK => ?_) ?_
          · have B3 : ev aq (.tmp 3) = .pointer (some ⟨w.heap.size + 1, 0, none⟩) := hk.base 3 (by kernel_rfl) rfl
            exact wp_of_value (by go_simp) (hK.out _ _ (Grows.refl _) (fun w2 h2 => rfl) (fun h => absurd h (by decide)))
          refine AllOps.cons (Does.plain rfl fun lq aq wq hk hr K hK => ?_) ?_
          · obtain ⟨v2, E2, -, r2⟩ := hk.dep hr 2 13 (by kernel_rfl) (by kernel_rfl)
            replace E2 : ev aq (.tmp 13) = .pointer (some ⟨w.heap.size + 1, 0, none⟩) := E2.trans (r2 wq (Grows.refl wq))
            have hb : Below _ _ _ := hk.ext
            have c0 := (Box2.below D1.out hb).c0
            exact wp_of_value (by go_simp) (hK.out _ _ (Grows.refl _) (fun w2 h2 => rfl) (fun h => absurd h (by decide)))
          refine AllOps.cons (Does.plain rfl fun lq aq wq hk hr K hK => ?_) ?_
          · obtain ⟨v1, E1, -, r1⟩ := hk.dep hr 1 12 (by kernel_rfl) (by kernel_rfl)
            replace E1 : ev aq (.tmp 12) = .bool nm2 := E1.trans (r1 wq (Grows.refl wq))
            obtain ⟨v3, E3, -, r3⟩ := hk.dep hr 3 14 (by kernel_rfl) (by kernel_rfl)
            replace E3 : ev aq (.tmp 14) = .bool nm5 := E3.trans (r3 wq (Grows.refl wq))
            exact wp_of_value (by go_simp) (hK.out _ _ (Grows.refl _) (fun w2 h2 => rfl) (fun h => absurd h (by decide)))
          exact AllOps.nil
        case fin =>
          intro V x7 hG hV hap
          have r4 : (V 4) = .bool true := hV 4 (by decide)
          clear hV hap
          simp only [List.take_succ_cons, List.take_nil, List.drop_succ_cons, List.drop_nil, putAll, Act.put, List.setIfInBounds_toArray, List.set_cons_zero, List.set_cons_succ]
          have hb := (show Below _ _ _ from hG)
          replace D0 := Lib.hid (Box2.below D0.out hb)
          replace S0 := Lib.hid (S0.out.below hb)
          replace D1 := Lib.hid (Box2.below D1.out hb)
          replace S1 := Lib.hid (S1.out.below hb)
          replace DR := Lib.hid (Box2.below DR.out hb)
          replace HB := Lib.hid (HB.out.trans (Below.mono hb HB.out.size))
          clear hb hG
          rw [r4]
          clear r4
          have h6 : sz (x.natAbs + y.natAbs) ≤ 1000 := by have h := hs; rw [← add_alike hg0.out hg1.out ht] at h; unfold szz at h; rwa [sg_natAbs] at h
          go_upto_region 4 with fail
          refine wp_region_going 8 [] ([fun vq _ => vq = .pointer (some ⟨w.heap.size, 0, none⟩),
              fun vq _ => vq = .bool nm2,
              fun vq _ => vq = .pointer (some ⟨w.heap.size, 1, none⟩),
              fun vq _ => vq = .slice Am2 km2 cm2,
              fun vq _ => vq = .pointer (some ⟨w.heap.size + 1, 1, none⟩),
              fun vq _ => vq = .slice Am5 km5 cm5,
              fun vq wq => LV wq vq ((limbs (x.natAbs + y.natAbs))) ((x.natAbs + y.natAbs)),
              fun vq wq => ZV wq vq ((x + y))]) (by kernel_rfl) (by kernel_rfl) (by decide) (by kernel_rfl) (by kernel_rfl) ?hF ?steps ?fin
          case hF =>
            intro j hj; cases hj
          case steps =>
            refine AllOps.cons (Does.plain rfl fun lq aq wq hk hr K hK => ?_) ?_
            · have B2 : ev aq (.tmp 2) = .pointer (some ⟨w.heap.size, 0, none⟩) := hk.base 2 (by kernel_rfl) rfl
              exact wp_of_value (by go_simp) (hK.out _ _ (Grows.refl _) (fun w2 h2 => rfl) (fun h => absurd h (by decide)))
            refine AllOps.cons (Does.plain rfl fun lq aq wq hk hr K hK => ?_) ?_
            · obtain ⟨v0, E0, -, r0⟩ := hk.dep hr 0 16 (by kernel_rfl) (by kernel_rfl)
              replace E0 : ev aq (.tmp 16) = .pointer (some ⟨w.heap.size, 0, none⟩) := E0.trans (r0 wq (Grows.refl wq))
              have hb := grows_of hk.ext
              have c0 := (Box2.below D0.out hb).c0
              exact wp_of_value (by go_simp) (hK.out _ _ (Grows.refl _) (fun w2 h2 => rfl) (fun h => absurd h (by decide)))
            refine AllOps.cons (Does.plain rfl fun lq aq wq hk hr K hK => ?_) ?_
            · have B2 : ev aq (.tmp 2) = .pointer (some ⟨w.heap.size, 0, none⟩) := hk.base 2 (by kernel_rfl) rfl
              exact wp_of_value (by go_simp) (hK.out _ _ (Grows.refl _) (fun w2 h2 => rfl) (fun h => absurd h (by decide)))
            refine AllOps.cons (Does.plain rfl fun lq aq wq hk hr K hK => ?_) ?_
            · obtain ⟨v2, E2, -, r2⟩ := hk.dep hr 2 18 (by kernel_rfl) (by kernel_rfl)
              replace E2 : ev aq (.tmp 18) = .pointer (some ⟨w.heap.size, 1, none⟩) := E2.trans (r2 wq (Grows.refl wq))
              have hb := grows_of hk.ext
              have c1 := (Box2.below D0.out hb).c1
              exact wp_of_value (by go_simp) (hK.out _ _ (Grows.refl _) (fun w2 h2 => rfl) (fun h => absurd h (by decide)))
            refine AllOps.cons (Does.plain rfl fun lq aq wq hk hr K hK => ?_) ?_
            · have B3 : ev aq (.tmp 3) = .pointer (some ⟨w.heap.size + 1, 0, none⟩) := hk.base 3 (by kernel_rfl) rfl
              exact wp_of_value (by go_simp) (hK.out _ _ (Grows.refl _) (fun w2 h2 => rfl) (fun h => absurd h (by decide)))
            refine AllOps.cons (Does.plain rfl fun lq aq wq hk hr K hK => ?_) ?_
            · obtain ⟨v4, E4, -, r4⟩ := hk.dep hr 4 20 (by kernel_rfl) (by kernel_rfl)
              replace E4 : ev aq (.tmp 20) = .pointer (some ⟨w.heap.size + 1, 1, none⟩) := E4.trans (r4 wq (Grows.refl wq))
              have hb := grows_of hk.ext
              have c1 := (Box2.below D1.out hb).c1
              exact wp_of_value (by go_simp) (hK.out _ _ (Grows.refl _) (fun w2 h2 => rfl) (fun h => absurd h (by decide)))
            refine AllOps.cons (Does.plain rfl fun lq aq wq hk hr K hK => ?_) ?_
            · obtain ⟨v3, E3, -, r3⟩ := hk.dep hr 3 19 (by kernel_rfl) (by kernel_rfl)
              replace E3 : ev aq (.tmp 19) = .slice Am2 km2 cm2 := E3.trans (r3 wq (Grows.refl wq))
              obtain ⟨v5, E5, -, r5⟩ := hk.dep hr 5 21 (by kernel_rfl) (by kernel_rfl)
              replace E5 : ev aq (.tmp 21) = .slice Am5 km5 cm5 := E5.trans (r5 wq (Grows.refl wq))
              refine wp_of_call (f := 66) (vs := #[.slice Am2 km2 cm2, .slice Am5 km5 cm5]) (by go_simp) (raddn_v wq (S0.out.num.below (grows_of hk.ext)).lv (S1.out.num.below (grows_of hk.ext)).lv S0.out.short S1.out.short h6) ?_
              rintro e w1 ⟨u, rfl, hu, hb⟩
              exact ⟨u, rfl, hK.out _ _ hb (fun w2 h2 => (hu).grow h2) (fun h => absurd h (by decide))⟩
            refine AllOps.cons (Does.plain rfl fun lq aq wq hk hr K hK => ?_) ?_
            · obtain ⟨v1, E1, -, r1⟩ := hk.dep hr 1 17 (by kernel_rfl) (by kernel_rfl)
              replace E1 : ev aq (.tmp 17) = .bool nm2 := E1.trans (r1 wq (Grows.refl wq))
              obtain ⟨v6, E6, -, r6⟩ := hk.dep hr 6 22 (by kernel_rfl) (by kernel_rfl)
              have r6 : LV wq v6 ((limbs (x.natAbs + y.natAbs))) ((x.natAbs + y.natAbs)) := r6 wq (Grows.refl wq)
              refine wp_of_call (f := 49) (vs := #[.bool nm2, v6]) (by go_simp) (rof_v wq nm2 r6 h6 (add_alike hg0.out hg1.out ht) hs) ?_
              rintro e w1 ⟨u, rfl, hu, hb⟩
              exact ⟨u, rfl, hK.out _ _ hb (fun w2 h2 => (hu).grow h2) (fun h => absurd h (by decide))⟩
            exact AllOps.nil
          case fin =>
            intro V x8 hG hV hap
            have r7 : ZV x8 (V 7) ((x + y)) := hV 7 (by decide)
            clear hV hap
            simp only [List.take_succ_cons, List.take_zero, List.drop_succ_cons, List.drop_zero, putAll, Act.put, List.setIfInBounds_toArray, List.set_cons_zero, List.set_cons_succ]
            have hb := grows_of hG
            obtain ⟨nR, AR, kR, cR, eR, sR⟩ := r7
            simp only [eR]
            clear eR
            replace DR := Box2.below DR.out hb
            refine wpList_of_skip rfl (op_store 4 23 _ rfl rfl DR) ?_
            have sQ := sR.put DR (.bool nR) (.slice AR kR cR)
            have HQ := put2_below (u := .bool nR) (v := .slice AR kR cR) (HB.out.trans (Below.mono hb HB.out.size)) (show w.heap.size ≤ w.heap.size + 1 + 1 by omega)
            replace DR := put2_own (u := .bool nR) (v := .slice AR kR cR) DR
            clear hb hG sR HB
            generalize put2 x8 (w.heap.size + 1 + 1) (.bool nR) (.slice AR kR cR) = y9 at *
            have c0 := DR.c0
            have c1 := DR.c1
            clear DR
            go_wp2_with fail
            refine bodyPost_ret (v := .agg #[.bool nR, .slice AR kR cR]) (by simp [results, Tryd.results39, go_sem, c0, c1]) rfl ⟨_, rfl, ⟨_, _, _, _, rfl, sQ⟩, HQ⟩
set_option maxHeartbeats 4000000 in
set_option maxRecDepth 100000 in
theorem rsub_v (w : World) {u v : Value} {x y : Int} (h0 : WV w u x) (h1 : WV w v y) (hs : szz (x - y) ≤ 1000) : Calls Tryd.prog 40 #[u, v] w fun e w' => ∃ r, e = .returned r ∧ ZV w' r (x - y) ∧ Grows w w' := by
  obtain ⟨n0, A0, k0, c0, rfl, s0⟩ := h0
  have hk0 : szz x ≤ 1000 := s0.size
  obtain ⟨n1, A1, k1, c1, rfl, s1⟩ := h1
  have hk1 : szz y ≤ 1000 := s1.size
  obtain ⟨HB, D0, D1, DR⟩ := start3 w 24 (.bool n0) (.slice A0 k0 c0) (.bool n1) (.slice A1 k1 c1) (.bool false) (.slice none 0 0)
  replace HB := Lib.hid HB
  replace D0 := Lib.hid D0
  replace D1 := Lib.hid D1
  replace DR := Lib.hid DR
  have S0 := Lib.hid (s0.below HB.out)
  clear s0
  have S1 := Lib.hid (s1.below HB.out)
  clear s1
  go_enter Tryd.func40, Tryd.ntmps40
  go_upto_region 1 with fail
  generalize (((w.alloc (.cells #[.bool n0, .slice A0 k0 c0] 24)).alloc (.cells #[.bool n1, .slice A1 k1 c1] 24)).alloc (.cells #[.bool false, .slice none 0 0] 24)) = x0 at *
  refine wp_region_going 4 [] ([fun vq wq => WV wq vq x,
      fun vq wq => WV wq vq y,
      fun vq wq => ZV wq vq ((-y)),
      fun vq wq => ZV wq vq ((x + (-y)))]) (by kernel_rfl) (by kernel_rfl) (by decide) (by kernel_rfl) (by kernel_rfl) ?hF ?steps ?fin
  case hF =>
    intro j hj; cases hj
  case steps =>
    refine AllOps.cons (Does.plain rfl fun lq aq wq hk hr K hK => ?_) ?_
    · have B2 : ev aq (.tmp 2) = .pointer (some ⟨w.heap.size, 0, none⟩) := hk.base 2 (by kernel_rfl) rfl
      have hb := grows_of hk.ext
      exact wp_of_value (op_load 2 _ B2 (Box2.below D0.out hb)) (hK.out _ _ (Grows.refl _) (fun w2 h2 => ⟨_, _, _, _, rfl, (S0.out.below hb).below h2⟩) (fun h => absurd h (by decide)))
    refine AllOps.cons (Does.plain rfl fun lq aq wq hk hr K hK => ?_) ?_
    · have B3 : ev aq (.tmp 3) = .pointer (some ⟨w.heap.size + 1, 0, none⟩) := hk.base 3 (by kernel_rfl) rfl
      have hb := grows_of hk.ext
      exact wp_of_value (op_load 3 _ B3 (Box2.below D1.out hb)) (hK.out _ _ (Grows.refl _) (fun w2 h2 => ⟨_, _, _, _, rfl, (S1.out.below hb).below h2⟩) (fun h => absurd h (by decide)))
    refine AllOps.cons (Does.plain rfl fun lq aq wq hk hr K hK => ?_) ?_
    · obtain ⟨v1, E1, -, r1⟩ := hk.dep hr 1 6 (by kernel_rfl) (by kernel_rfl)
      have r1 : WV wq v1 y := r1 wq (Grows.refl wq)
      refine wp_of_call (f := 45) (vs := #[v1]) (by go_simp) (rneg_v wq r1) ?_
      rintro e w1 ⟨u, rfl, hu, hb⟩
      exact ⟨u, rfl, hK.out _ _ hb (fun w2 h2 => (hu).grow h2) (fun h => absurd h (by decide))⟩
    refine AllOps.cons (Does.plain rfl fun lq aq wq hk hr K hK => ?_) ?_
    · obtain ⟨v0, E0, -, r0⟩ := hk.dep hr 0 5 (by kernel_rfl) (by kernel_rfl)
      have r0 : WV wq v0 x := r0 wq (Grows.refl wq)
      obtain ⟨v2, E2, -, r2⟩ := hk.dep hr 2 7 (by kernel_rfl) (by kernel_rfl)
      have r2 : ZV wq v2 ((-y)) := r2 wq (Grows.refl wq)
      refine wp_of_call (f := 39) (vs := #[v0, v2]) (by go_simp) (radd_v wq r0 (r2).wv (by rw [← Int.sub_eq_add_neg]; exact hs)) ?_
      rintro e w1 ⟨u, rfl, hu, hb⟩
      exact ⟨u, rfl, hK.out _ _ hb (fun w2 h2 => (hu).grow h2) (fun h => absurd h (by decide))⟩
    exact AllOps.nil
  case fin =>
    intro V x1 hG hV hap
    have r3 : ZV x1 (V 3) ((x + (-y))) := hV 3 (by decide)
    clear hV hap
    simp only [List.take_succ_cons, List.take_zero, List.drop_succ_cons, List.drop_zero, putAll, Act.put, List.setIfInBounds_toArray, List.set_cons_zero, List.set_cons_succ]
    have hb := grows_of hG
    obtain ⟨nR, AR, kR, cR, eR, sR⟩ := r3
    simp only [eR]
    clear eR
    replace DR := Box2.below DR.out hb
    refine wpList_of_skip rfl (op_store 4 8 _ rfl rfl DR) ?_
    have sQ := sR.put DR (.bool nR) (.slice AR kR cR)
    have HQ := put2_below (u := .bool nR) (v := .slice AR kR cR) (HB.out.trans (Below.mono hb HB.out.size)) (show w.heap.size ≤ w.heap.size + 1 + 1 by omega)
    replace DR := put2_own (u := .bool nR) (v := .slice AR kR cR) DR
    clear hb hG sR HB
    generalize put2 x1 (w.heap.size + 1 + 1) (.bool nR) (.slice AR kR cR) = y9 at *
    have c0 := DR.c0
    have c1 := DR.c1
    clear DR
    go_wp2_with fail
    refine bodyPost_ret (v := .agg #[.bool nR, .slice AR kR cR]) (by simp [results, Tryd.results40, go_sem, c0, c1]) rfl ⟨_, rfl, ZV.to ⟨_, _, _, _, rfl, sQ⟩ Int.sub_eq_add_neg.symm, HQ⟩
set_option maxHeartbeats 4000000 in
set_option maxRecDepth 100000 in
theorem rsign_v (w : World) {u : Value} {x k : Int} (h0 : WV w u x) (hsg : Int.sign x = k) : Calls Tryd.prog 44 #[u] w fun e w' => ∃ r, e = .returned r ∧ r = .int .i64 k ∧ Grows w w' := by
  obtain ⟨n0, A0, k0, c0, rfl, s0⟩ := h0
  have hk0 : szz x ≤ 1000 := s0.size
  obtain ⟨HB, D0⟩ := start1 w 24 (.bool n0) (.slice A0 k0 c0)
  replace HB := Lib.hid HB
  replace D0 := Lib.hid D0
  have S0 := Lib.hid (s0.below HB.out)
  clear s0
  go_enter Tryd.func44, Tryd.ntmps44
  go_upto_region 1 with fail
  generalize (w.alloc (.cells #[.bool n0, .slice A0 k0 c0] 24)) = x0 at *
  refine wp_region_calm 2 [] ([fun vq wq => WV wq vq x,
      fun vq wq => ZV wq vq x]) (by kernel_rfl) (by decide) ?hF ?steps ?fin
  case hF =>
    intro j hj; cases hj
  case steps =>
    refine AllOps.cons (Does.plain rfl fun lq aq wq hk hr K hK => ?_) ?_
    · have B1 : ev aq (.tmp 1) = .pointer (some ⟨w.heap.size, 0, none⟩) := hk.base 1 (by kernel_rfl) rfl
      have hb : Below _ _ _ := hk.ext
      exact wp_of_value (op_load 1 _ B1 (Box2.below D0.out hb)) (hK.out _ _ (Grows.refl _) (fun w2 h2 => ⟨_, _, _, _, rfl, (S0.out.below hb).below h2⟩) (fun h => absurd h (by decide)))
    refine AllOps.cons (Does.plain rfl fun lq aq wq hk hr K hK => ?_) ?_
    · obtain ⟨v0, E0, -, r0⟩ := hk.dep hr 0 3 (by kernel_rfl) (by kernel_rfl)
      have r0 : WV wq v0 x := r0 wq (Grows.refl wq)
      refine wp_of_call (f := 46) (vs := #[v0]) (by go_simp) (rmade_v wq r0) ?_
      rintro e w1 ⟨u, rfl, hu, hb⟩
      exact ⟨u, rfl, hK.out _ _ hb (fun w2 h2 => (hu).grow h2) (fun h => absurd h (by decide))⟩
    exact AllOps.nil
  case fin =>
    intro V x1 hG hV hap
    have r1 : ZV x1 (V 1) x := hV 1 (by decide)
    clear hV hap
    simp only [List.take_succ_cons, List.take_zero, List.drop_succ_cons, List.drop_zero, putAll, Act.put, List.setIfInBounds_toArray, List.set_cons_zero, List.set_cons_succ]
    have hb := (show Below _ _ _ from hG)
    obtain ⟨nm2, Am2, km2, cm2, em2, sm2⟩ := r1
    simp only [em2]
    clear em2
    replace D0 := Box2.below D0.out hb
    refine wpList_of_skip rfl (op_store 1 4 _ rfl rfl D0) ?_
    have S0' := Lib.hid (sm2.put D0 (.bool nm2) (.slice Am2 km2 cm2))
    replace HB := Lib.hid (put2_below (u := .bool nm2) (v := .slice Am2 km2 cm2) (HB.out.trans (Below.mono hb HB.out.size)) (show w.heap.size ≤ w.heap.size by omega))
    replace D0 := Lib.hid (put2_own (u := .bool nm2) (v := .slice Am2 km2 cm2) D0)
    clear hb hG sm2 S0
    have S0 := S0'
    clear S0'
    generalize put2 x1 w.heap.size (.bool nm2) (.slice Am2 km2 cm2) = y3 at *
    rcases Int.lt_trichotomy x 0 with hx | hx | hx
    · skip
      obtain rfl : nm2 = true := by rw [S0.out.sign]; simp; omega
      skip
      go_upto_region 2 with fail
      refine wp_region_calm 2 [] ([fun vq _ => vq = .pointer (some ⟨w.heap.size, 0, none⟩),
          fun vq _ => vq = .bool true]) (by kernel_rfl) (by decide) ?hF ?steps ?fin
      case hF =>
        intro j hj; cases hj
      case steps =>
        refine AllOps.cons (Does.plain rfl fun lq aq wq hk hr K hK => ?_) ?_
        · have B1 : ev aq (.tmp 1) = .pointer (some ⟨w.heap.size, 0, none⟩) := hk.base 1 (by kernel_rfl) rfl
          exact wp_of_value (by go_simp) (hK.out _ _ (Grows.refl _) (fun w2 h2 => rfl) (fun h => absurd h (by decide)))
        refine AllOps.cons (Does.plain rfl fun lq aq wq hk hr K hK => ?_) ?_
        · obtain ⟨v0, E0, -, r0⟩ := hk.dep hr 0 5 (by kernel_rfl) (by kernel_rfl)
          replace E0 : ev aq (.tmp 5) = .pointer (some ⟨w.heap.size, 0, none⟩) := E0.trans (r0 wq (Grows.refl wq))
          have hb : Below _ _ _ := hk.ext
          have c0 := (Box2.below D0.out hb).c0
          exact wp_of_value (by go_simp) (hK.out _ _ (Grows.refl _) (fun w2 h2 => rfl) (fun h => absurd h (by decide)))
        exact AllOps.nil
      case fin =>
        intro V x4 hG hV hap
        have r1 : (V 1) = .bool true := hV 1 (by decide)
        clear hV hap
        simp only [List.take_succ_cons, List.take_nil, List.drop_succ_cons, List.drop_nil, putAll, Act.put, List.setIfInBounds_toArray, List.set_cons_zero, List.set_cons_succ]
        have hb := (show Below _ _ _ from hG)
        replace D0 := Lib.hid (Box2.below D0.out hb)
        replace S0 := Lib.hid (S0.out.below hb)
        replace HB := Lib.hid (HB.out.trans (Below.mono hb HB.out.size))
        clear hb hG
        rw [r1]
        clear r1
        go_wp2_with fail
        go_ret
        exact ⟨_, rfl, by rw [← hsg, Int.sign_eq_neg_one_of_neg hx]; rfl, HB.out⟩
    · skip
      obtain rfl : nm2 = false := by rw [S0.out.sign]; simp; omega
      skip
      obtain ⟨A9, c9, e9, _⟩ := S0.out.num.arg
      obtain ⟨rfl, rfl, rfl⟩ : Am2 = A9 ∧ km2 = (limbs x.natAbs).length ∧ cm2 = c9 := by injection e9 with h1 h2 h3; exact ⟨h1, h2, h3⟩
      clear e9
      have hlen := len_zero' hx
      rw [hlen] at D0 S0
      go_upto_region 2 with fail
      refine wp_region_calm 2 [] ([fun vq _ => vq = .pointer (some ⟨w.heap.size, 0, none⟩),
          fun vq _ => vq = .bool false]) (by kernel_rfl) (by decide) ?hF ?steps ?fin
      case hF =>
        intro j hj; cases hj
      case steps =>
        refine AllOps.cons (Does.plain rfl fun lq aq wq hk hr K hK => ?_) ?_
        · have B1 : ev aq (.tmp 1) = .pointer (some ⟨w.heap.size, 0, none⟩) := hk.base 1 (by kernel_rfl) rfl
          exact wp_of_value (by go_simp) (hK.out _ _ (Grows.refl _) (fun w2 h2 => rfl) (fun h => absurd h (by decide)))
        refine AllOps.cons (Does.plain rfl fun lq aq wq hk hr K hK => ?_) ?_
        · obtain ⟨v0, E0, -, r0⟩ := hk.dep hr 0 5 (by kernel_rfl) (by kernel_rfl)
          replace E0 : ev aq (.tmp 5) = .pointer (some ⟨w.heap.size, 0, none⟩) := E0.trans (r0 wq (Grows.refl wq))
          have hb : Below _ _ _ := hk.ext
          have c0 := (Box2.below D0.out hb).c0
          exact wp_of_value (by go_simp) (hK.out _ _ (Grows.refl _) (fun w2 h2 => rfl) (fun h => absurd h (by decide)))
        exact AllOps.nil
      case fin =>
        intro V x4 hG hV hap
        have r1 : (V 1) = .bool false := hV 1 (by decide)
        clear hV hap
        simp only [List.take_succ_cons, List.take_nil, List.drop_succ_cons, List.drop_nil, putAll, Act.put, List.setIfInBounds_toArray, List.set_cons_zero, List.set_cons_succ]
        have hb := (show Below _ _ _ from hG)
        replace D0 := Lib.hid (Box2.below D0.out hb)
        replace S0 := Lib.hid (S0.out.below hb)
        replace HB := Lib.hid (HB.out.trans (Below.mono hb HB.out.size))
        clear hb hG
        rw [r1]
        clear r1
        go_upto_region 4 with fail
        refine wp_region_calm 4 [] ([fun vq _ => vq = .pointer (some ⟨w.heap.size, 1, none⟩),
            fun vq _ => vq = .slice Am2 (0) cm2,
            fun vq _ => vq = .int .i64 0,
            fun vq _ => vq = .int .i64 0]) (by kernel_rfl) (by decide) ?hF ?steps ?fin
        case hF =>
          intro j hj; cases hj
        case steps =>
          refine AllOps.cons (Does.plain rfl fun lq aq wq hk hr K hK => ?_) ?_
          · have B1 : ev aq (.tmp 1) = .pointer (some ⟨w.heap.size, 0, none⟩) := hk.base 1 (by kernel_rfl) rfl
            exact wp_of_value (by go_simp) (hK.out _ _ (Grows.refl _) (fun w2 h2 => rfl) (fun h => absurd h (by decide)))
          refine AllOps.cons (Does.plain rfl fun lq aq wq hk hr K hK => ?_) ?_
          · obtain ⟨v0, E0, -, r0⟩ := hk.dep hr 0 7 (by kernel_rfl) (by kernel_rfl)
            replace E0 : ev aq (.tmp 7) = .pointer (some ⟨w.heap.size, 1, none⟩) := E0.trans (r0 wq (Grows.refl wq))
            have hb : Below _ _ _ := hk.ext
            have c1 := (Box2.below D0.out hb).c1
            exact wp_of_value (by go_simp) (hK.out _ _ (Grows.refl _) (fun w2 h2 => rfl) (fun h => absurd h (by decide)))
          refine AllOps.cons (Does.plain rfl fun lq aq wq hk hr K hK => ?_) ?_
          · obtain ⟨v1, E1, -, r1⟩ := hk.dep hr 1 8 (by kernel_rfl) (by kernel_rfl)
            replace E1 : ev aq (.tmp 8) = .slice Am2 (0) cm2 := E1.trans (r1 wq (Grows.refl wq))
            exact wp_of_value (by go_simp) (hK.out _ _ (Grows.refl _) (fun w2 h2 => rfl) (fun h => absurd h (by decide)))
          refine AllOps.cons (Does.plain rfl fun lq aq wq hk hr K hK => ?_) ?_
          · obtain ⟨v2, E2, -, r2⟩ := hk.dep hr 2 9 (by kernel_rfl) (by kernel_rfl)
            replace E2 : ev aq (.tmp 9) = .int .i64 0 := E2.trans (r2 wq (Grows.refl wq))
            exact wp_of_value (by go_simp; decide) (hK.out _ _ (Grows.refl _) (fun w2 h2 => rfl) (fun h => absurd h (by decide)))
          exact AllOps.nil
        case fin =>
          intro V x5 hG hV hap
          have r3 : (V 3) = .int .i64 0 := hV 3 (by decide)
          clear hV hap
          simp only [List.take_succ_cons, List.take_zero, List.drop_succ_cons, List.drop_zero, putAll, Act.put, List.setIfInBounds_toArray, List.set_cons_zero, List.set_cons_succ]
          have hb := (show Below _ _ _ from hG)
          replace D0 := Lib.hid (Box2.below D0.out hb)
          replace S0 := Lib.hid (S0.out.below hb)
          replace HB := Lib.hid (HB.out.trans (Below.mono hb HB.out.size))
          clear hb hG
          rw [r3]
          clear r3
          go_wp2_with fail
          go_ret
          exact ⟨_, rfl, by rw [← hsg, show Int.sign x = 0 by rw [hx]; rfl]; rfl, HB.out⟩
    · skip
      obtain rfl : nm2 = false := by rw [S0.out.sign]; simp; omega
      skip
      obtain ⟨A9, c9, e9, _⟩ := S0.out.num.arg
      obtain ⟨rfl, rfl, rfl⟩ : Am2 = A9 ∧ km2 = (limbs x.natAbs).length ∧ cm2 = c9 := by injection e9 with h1 h2 h3; exact ⟨h1, h2, h3⟩
      clear e9
      obtain ⟨k, hlen, hk9⟩ := len_some (by omega) hk0
      rw [hlen] at D0 S0
      go_upto_region 2 with fail
      refine wp_region_calm 2 [] ([fun vq _ => vq = .pointer (some ⟨w.heap.size, 0, none⟩),
          fun vq _ => vq = .bool false]) (by kernel_rfl) (by decide) ?hF ?steps ?fin
      case hF =>
        intro j hj; cases hj
      case steps =>
        refine AllOps.cons (Does.plain rfl fun lq aq wq hk hr K hK => ?_) ?_
        · have B1 : ev aq (.tmp 1) = .pointer (some ⟨w.heap.size, 0, none⟩) := hk.base 1 (by kernel_rfl) rfl
          exact wp_of_value (by go_simp) (hK.out _ _ (Grows.refl _) (fun w2 h2 => rfl) (fun h => absurd h (by decide)))
        refine AllOps.cons (Does.plain rfl fun lq aq wq hk hr K hK => ?_) ?_
        · obtain ⟨v0, E0, -, r0⟩ := hk.dep hr 0 5 (by kernel_rfl) (by kernel_rfl)
          replace E0 : ev aq (.tmp 5) = .pointer (some ⟨w.heap.size, 0, none⟩) := E0.trans (r0 wq (Grows.refl wq))
          have hb : Below _ _ _ := hk.ext
          have c0 := (Box2.below D0.out hb).c0
          exact wp_of_value (by go_simp) (hK.out _ _ (Grows.refl _) (fun w2 h2 => rfl) (fun h => absurd h (by decide)))
        exact AllOps.nil
      case fin =>
        intro V x4 hG hV hap
        have r1 : (V 1) = .bool false := hV 1 (by decide)
        clear hV hap
        simp only [List.take_succ_cons, List.take_nil, List.drop_succ_cons, List.drop_nil, putAll, Act.put, List.setIfInBounds_toArray, List.set_cons_zero, List.set_cons_succ]
        have hb := (show Below _ _ _ from hG)
        replace D0 := Lib.hid (Box2.below D0.out hb)
        replace S0 := Lib.hid (S0.out.below hb)
        replace HB := Lib.hid (HB.out.trans (Below.mono hb HB.out.size))
        clear hb hG
        rw [r1]
        clear r1
        go_upto_region 4 with fail
        refine wp_region_calm 4 [] ([fun vq _ => vq = .pointer (some ⟨w.heap.size, 1, none⟩),
            fun vq _ => vq = .slice Am2 (k + 1) cm2,
            fun vq _ => vq = .int .i64 (k + 1),
            fun vq _ => vq = .int .i64 1]) (by kernel_rfl) (by decide) ?hF ?steps ?fin
        case hF =>
          intro j hj; cases hj
        case steps =>
          refine AllOps.cons (Does.plain rfl fun lq aq wq hk hr K hK => ?_) ?_
          · have B1 : ev aq (.tmp 1) = .pointer (some ⟨w.heap.size, 0, none⟩) := hk.base 1 (by kernel_rfl) rfl
            exact wp_of_value (by go_simp) (hK.out _ _ (Grows.refl _) (fun w2 h2 => rfl) (fun h => absurd h (by decide)))
          refine AllOps.cons (Does.plain rfl fun lq aq wq hk hr K hK => ?_) ?_
          · obtain ⟨v0, E0, -, r0⟩ := hk.dep hr 0 7 (by kernel_rfl) (by kernel_rfl)
            replace E0 : ev aq (.tmp 7) = .pointer (some ⟨w.heap.size, 1, none⟩) := E0.trans (r0 wq (Grows.refl wq))
            have hb : Below _ _ _ := hk.ext
            have c1 := (Box2.below D0.out hb).c1
            exact wp_of_value (by go_simp) (hK.out _ _ (Grows.refl _) (fun w2 h2 => rfl) (fun h => absurd h (by decide)))
          refine AllOps.cons (Does.plain rfl fun lq aq wq hk hr K hK => ?_) ?_
          · obtain ⟨v1, E1, -, r1⟩ := hk.dep hr 1 8 (by kernel_rfl) (by kernel_rfl)
            replace E1 : ev aq (.tmp 8) = .slice Am2 (k + 1) cm2 := E1.trans (r1 wq (Grows.refl wq))
            exact wp_of_value (by go_simp) (hK.out _ _ (Grows.refl _) (fun w2 h2 => rfl) (fun h => absurd h (by decide)))
          refine AllOps.cons (Does.plain rfl fun lq aq wq hk hr K hK => ?_) ?_
          · obtain ⟨v2, E2, -, r2⟩ := hk.dep hr 2 9 (by kernel_rfl) (by kernel_rfl)
            replace E2 : ev aq (.tmp 9) = .int .i64 (k + 1) := E2.trans (r2 wq (Grows.refl wq))
            exact wp_of_value (by go_simp; omega) (hK.out _ _ (Grows.refl _) (fun w2 h2 => rfl) (fun h => absurd h (by decide)))
          exact AllOps.nil
        case fin =>
          intro V x5 hG hV hap
          have r3 : (V 3) = .int .i64 1 := hV 3 (by decide)
          clear hV hap
          simp only [List.take_succ_cons, List.take_zero, List.drop_succ_cons, List.drop_zero, putAll, Act.put, List.setIfInBounds_toArray, List.set_cons_zero, List.set_cons_succ]
          have hb := (show Below _ _ _ from hG)
          replace D0 := Lib.hid (Box2.below D0.out hb)
          replace S0 := Lib.hid (S0.out.below hb)
          replace HB := Lib.hid (HB.out.trans (Below.mono hb HB.out.size))
          clear hb hG
          rw [r3]
          clear r3
          go_wp2_with fail
          go_ret
          exact ⟨_, rfl, by rw [← hsg, Int.sign_eq_one_of_pos hx]; rfl, HB.out⟩
set_option maxHeartbeats 4000000 in
set_option maxRecDepth 100000 in
theorem rcmp_v (w : World) {u v : Value} {x y k : Int} (h0 : WV w u x) (h1 : WV w v y) (hsg : Int.sign (x - y) = k) (hs : szz (x - y) ≤ 1000) : Calls Tryd.prog 41 #[u, v] w fun e w' => ∃ r, e = .returned r ∧ r = .int .i64 k ∧ Grows w w' := by
  obtain ⟨n0, A0, k0, c0, rfl, s0⟩ := h0
  have hk0 : szz x ≤ 1000 := s0.size
  obtain ⟨n1, A1, k1, c1, rfl, s1⟩ := h1
  have hk1 : szz y ≤ 1000 := s1.size
  obtain ⟨HB, D0, D1⟩ := start2 w 24 (.bool n0) (.slice A0 k0 c0) (.bool n1) (.slice A1 k1 c1)
  replace HB := Lib.hid HB
  replace D0 := Lib.hid D0
  replace D1 := Lib.hid D1
  have S0 := Lib.hid (s0.below HB.out)
  clear s0
  have S1 := Lib.hid (s1.below HB.out)
  clear s1
  go_enter Tryd.func41, Tryd.ntmps41
  go_upto_region 1 with fail
  generalize ((w.alloc (.cells #[.bool n0, .slice A0 k0 c0] 24)).alloc (.cells #[.bool n1, .slice A1 k1 c1] 24)) = x0 at *
  refine wp_region_calm 4 [] ([fun vq wq => WV wq vq x,
      fun vq wq => WV wq vq y,
      fun vq wq => ZV wq vq ((x - y)),
      fun vq _ => vq = .int .i64 k]) (by kernel_rfl) (by decide) ?hF ?steps ?fin
  case hF =>
    intro j hj; cases hj
  case steps =>
    refine AllOps.cons (Does.plain rfl fun lq aq wq hk hr K hK => ?_) ?_
    · have B2 : ev aq (.tmp 2) = .pointer (some ⟨w.heap.size, 0, none⟩) := hk.base 2 (by kernel_rfl) rfl
      have hb : Below _ _ _ := hk.ext
      exact wp_of_value (op_load 2 _ B2 (Box2.below D0.out hb)) (hK.out _ _ (Grows.refl _) (fun w2 h2 => ⟨_, _, _, _, rfl, (S0.out.below hb).below h2⟩) (fun h => absurd h (by decide)))
    refine AllOps.cons (Does.plain rfl fun lq aq wq hk hr K hK => ?_) ?_
    · have B3 : ev aq (.tmp 3) = .pointer (some ⟨w.heap.size + 1, 0, none⟩) := hk.base 3 (by kernel_rfl) rfl
      have hb : Below _ _ _ := hk.ext
      exact wp_of_value (op_load 3 _ B3 (Box2.below D1.out hb)) (hK.out _ _ (Grows.refl _) (fun w2 h2 => ⟨_, _, _, _, rfl, (S1.out.below hb).below h2⟩) (fun h => absurd h (by decide)))
    refine AllOps.cons (Does.plain rfl fun lq aq wq hk hr K hK => ?_) ?_
    · obtain ⟨v0, E0, -, r0⟩ := hk.dep hr 0 5 (by kernel_rfl) (by kernel_rfl)
      have r0 : WV wq v0 x := r0 wq (Grows.refl wq)
      obtain ⟨v1, E1, -, r1⟩ := hk.dep hr 1 6 (by kernel_rfl) (by kernel_rfl)
      have r1 : WV wq v1 y := r1 wq (Grows.refl wq)
      refine wp_of_call (f := 40) (vs := #[v0, v1]) (by go_simp) (rsub_v wq r0 r1 hs) ?_
      rintro e w1 ⟨u, rfl, hu, hb⟩
      exact ⟨u, rfl, hK.out _ _ hb (fun w2 h2 => (hu).grow h2) (fun h => absurd h (by decide))⟩
    refine AllOps.cons (Does.plain rfl fun lq aq wq hk hr K hK => ?_) ?_
    · obtain ⟨v2, E2, -, r2⟩ := hk.dep hr 2 7 (by kernel_rfl) (by kernel_rfl)
      have r2 : ZV wq v2 ((x - y)) := r2 wq (Grows.refl wq)
      refine wp_of_call (f := 44) (vs := #[v2]) (by go_simp) (rsign_v wq (r2).wv (k := k) hsg) ?_
      rintro e w1 ⟨u, rfl, hu, hb⟩
      exact ⟨u, rfl, hK.out _ _ hb (fun w2 h2 => hu) (fun h => absurd h (by decide))⟩
    exact AllOps.nil
  case fin =>
    intro V x1 hG hV hap
    have r3 : (V 3) = .int .i64 k := hV 3 (by decide)
    clear hV hap
    simp only [List.take_succ_cons, List.take_zero, List.drop_succ_cons, List.drop_zero, putAll, Act.put, List.setIfInBounds_toArray, List.set_cons_zero, List.set_cons_succ]
    have hb := (show Below _ _ _ from hG)
    replace D0 := Lib.hid (Box2.below D0.out hb)
    replace S0 := Lib.hid (S0.out.below hb)
    replace D1 := Lib.hid (Box2.below D1.out hb)
    replace S1 := Lib.hid (S1.out.below hb)
    replace HB := Lib.hid (HB.out.trans (Below.mono hb HB.out.size))
    clear hb hG
    rw [r3]
    clear r3
    go_wp2_with fail
    go_ret
    exact ⟨_, rfl, rfl, HB.out⟩
theorem rsame_v (w : World) {u v : Value} {x y : Int} (h : ZV w u x) (g : ZV w v y) {t : Bool} (ht : decide (x = y) = t) : Calls Tryd.prog 20 #[u, v] w fun e w' => ∃ r, e = .returned r ∧ r = .bool t ∧ Grows w w' := by
  obtain ⟨n, A, i, c, rfl, s⟩ := h
  obtain ⟨n', A', k', c', rfl, s'⟩ := g
  refine (refsame_any w _ _ _ _ x y s s').mono ?_
  rintro e w1 ⟨rfl, g⟩
  exact ⟨_, rfl, by rw [ht], g⟩
theorem rsameL_v (w : World) {n t : Bool} {m v : Value} {l : List Nat} {a : Nat} {z : Int} (h : Num w m l a) (hl : l.length ≤ 1000) (hz : z = sg n a) (g : ZV w v z) (ht : (decide ((limbs a).length = l.length) && decide (sg n a < 0) == n) = t) : Calls Tryd.prog 20 #[.agg #[.bool n, m], v] w fun e w' => ∃ r, e = .returned r ∧ r = .bool t ∧ Grows w w' := by
  obtain ⟨n', A', k', c', rfl, s'⟩ := g
  have hab : z.natAbs = a := by rw [hz, sg_natAbs]
  have h1 := s'.num
  rw [hab] at h1
  refine (zsame_any w n n' m _ l (limbs a) h.arg h1.arg (Nat.le_trans hl (by decide))).mono ?_
  rintro e w1 ⟨rfl, g⟩
  refine ⟨_, rfl, ?_, g⟩
  have hs : n' = decide (sg n a < 0) := by rw [← hz]; exact s'.sign
  have e1 : decide (l = limbs a) = decide ((limbs a).length = l.length) := by
    by_cases e : (limbs a).length = l.length
    · rw [decide_eq_true e, decide_eq_true (h.lim.same_limbs h.val e).symm]
    · rw [decide_eq_false e, decide_eq_false fun e' => e (by rw [← e'])]
  rw [e1, ← ht, ← hs, Bool.and_comm]
  cases n <;> cases n' <;> rfl
set_option maxHeartbeats 4000000 in
set_option maxRecDepth 100000 in
theorem rright_v (w : World) {u : Value} {x : Int} {t : Bool} (h0 : WR w u x t) : Calls Tryd.prog 43 #[u] w fun e w' => ∃ r, e = .returned r ∧ r = .bool t ∧ Grows w w' := by
  obtain ⟨n0, A0, k0, c0, l0, a0, rfl, q0, hl0, e0, ht⟩ := h0
  have h0 : WV w (.agg #[.bool n0, .slice A0 k0 c0]) x := ⟨n0, A0, k0, c0, rfl, l0, a0, q0, hl0, e0⟩
  have Q0 := Lib.hid (q0.below (start1 w 24 (.bool n0) (.slice A0 k0 c0)).1)
  have hs0 : szz x ≤ 1000 := by rw [e0]; unfold szz; rw [sg_natAbs]; exact Nat.le_trans (sz_num q0) hl0
  have s0 : Whole w n0 (.slice A0 k0 c0) x := ⟨l0, a0, q0, hl0, e0⟩
  obtain ⟨HB, D0⟩ := start1 w 24 (.bool n0) (.slice A0 k0 c0)
  replace HB := Lib.hid HB
  replace D0 := Lib.hid D0
  have S0 := Lib.hid (s0.below HB.out)
  clear s0 h0 q0
  go_enter Tryd.func43, Tryd.ntmps43
  go_upto_region 1 with fail
  generalize (w.alloc (.cells #[.bool n0, .slice A0 k0 c0] 24)) = x0 at *
  refine wp_region_going 4 [] ([fun vq _ => vq = .agg #[.bool n0, .slice A0 k0 c0],
      fun vq wq => WV wq vq x,
      fun vq wq => ZV wq vq x,
      fun vq _ => vq = .bool t]) (by kernel_rfl) (by kernel_rfl) (by decide) (by kernel_rfl) (by kernel_rfl) ?hF ?steps ?fin
  case hF =>
    intro j hj; cases hj
  case steps =>
    refine AllOps.cons (Does.plain rfl fun lq aq wq hk hr K hK => ?_) ?_
    · have B1 : ev aq (.tmp 1) = .pointer (some ⟨w.heap.size, 0, none⟩) := hk.base 1 (by kernel_rfl) rfl
      have hb := grows_of hk.ext
      exact wp_of_value (op_load 1 _ B1 (Box2.below D0.out hb)) (hK.out _ _ (Grows.refl _) (fun w2 h2 => rfl) (fun h => absurd h (by decide)))
    refine AllOps.cons (Does.plain rfl fun lq aq wq hk hr K hK => ?_) ?_
    · have B1 : ev aq (.tmp 1) = .pointer (some ⟨w.heap.size, 0, none⟩) := hk.base 1 (by kernel_rfl) rfl
      have hb := grows_of hk.ext
      exact wp_of_value (op_load 1 _ B1 (Box2.below D0.out hb)) (hK.out _ _ (Grows.refl _) (fun w2 h2 => ⟨_, _, _, _, rfl, (S0.out.below hb).below h2⟩) (fun h => absurd h (by decide)))
    refine AllOps.cons (Does.plain rfl fun lq aq wq hk hr K hK => ?_) ?_
    · obtain ⟨v1, E1, -, r1⟩ := hk.dep hr 1 4 (by kernel_rfl) (by kernel_rfl)
      have r1 : WV wq v1 x := r1 wq (Grows.refl wq)
      refine wp_of_call (f := 46) (vs := #[v1]) (by go_simp) (rmade_v wq r1) ?_
      rintro e w1 ⟨u, rfl, hu, hb⟩
      exact ⟨u, rfl, hK.out _ _ hb (fun w2 h2 => (hu).grow h2) (fun h => absurd h (by decide))⟩
    refine AllOps.cons (Does.plain rfl fun lq aq wq hk hr K hK => ?_) ?_
    · obtain ⟨v0, E0, -, r0⟩ := hk.dep hr 0 3 (by kernel_rfl) (by kernel_rfl)
      replace E0 : ev aq (.tmp 3) = .agg #[.bool n0, .slice A0 k0 c0] := E0.trans (r0 wq (Grows.refl wq))
      obtain ⟨v2, E2, -, r2⟩ := hk.dep hr 2 5 (by kernel_rfl) (by kernel_rfl)
      have r2 : ZV wq v2 x := r2 wq (Grows.refl wq)
      refine wp_of_call (f := 20) (vs := #[.agg #[.bool n0, .slice A0 k0 c0], v2]) (by go_simp) (rsameL_v wq (Q0.out.below (grows_of hk.ext)) hl0 e0 r2 ht) ?_
      rintro e w1 ⟨u, rfl, hu, hb⟩
      exact ⟨u, rfl, hK.out _ _ hb (fun w2 h2 => hu) (fun h => absurd h (by decide))⟩
    exact AllOps.nil
  case fin =>
    intro V x1 hG hV hap
    have r0 : (V 0) = .agg #[.bool n0, .slice A0 k0 c0] := hV 0 (by decide)
    have r3 : (V 3) = .bool t := hV 3 (by decide)
    clear hV hap
    simp only [List.take_succ_cons, List.take_zero, List.drop_succ_cons, List.drop_zero, putAll, Act.put, List.setIfInBounds_toArray, List.set_cons_zero, List.set_cons_succ]
    have hb := grows_of hG
    replace D0 := Lib.hid (Box2.below D0.out hb)
    replace S0 := Lib.hid (S0.out.below hb)
    replace Q0 := Lib.hid (Q0.out.below hb)
    replace HB := Lib.hid (HB.out.trans (Below.mono hb HB.out.size))
    clear hb hG
    rw [r3]
    clear r3
    go_wp2_with fail
    go_ret
    exact ⟨_, rfl, rfl, HB.out⟩
end Go.Proofs.YtmajcjdhhnhmmaaDoor
