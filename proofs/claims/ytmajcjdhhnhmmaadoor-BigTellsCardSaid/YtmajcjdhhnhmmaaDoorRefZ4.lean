import Derived.Test.YtmajcjdhhnhmmaaDoorGRefZ
import Derived.Test.YtmajcjdhhnhmmaaDoorGRAll
import Derived.Test.YtmajcjdhhnhmmaaDoorGRParse
import Derived.Test.YtmajcjdhhnhmmaaDoorBigTextsL
/- litmusref02.From, Text, Parse: what each returns. -/
namespace Go.Proofs.YtmajcjdhhnhmmaaDoor
open Go.RowKit Go.Num Go.Kp
attribute [local go_sem] Oper.semAt_some u64_mask ev_const ev_func ev_global
theorem rtextn_v (w : World) {u : Value} {l : List Nat} {a : Nat} (h : LV w u l a) (hl : l.length ≤ 1000) {s : ByteArray} (hs : ByteArray.mk (dec a).toArray = s) : Calls Tryd.prog 54 #[u] w fun e w' => ∃ r, e = .returned r ∧ r = .string s ∧ Grows w w' := by
  obtain ⟨A, c, rfl, q⟩ := h
  refine (rtext_any w _ l a q (Nat.le_trans hl (by decide))).mono ?_
  rintro e w1 ⟨rfl, g⟩
  exact ⟨_, rfl, by rw [← hs], g⟩
set_option maxHeartbeats 4000000 in
set_option maxRecDepth 100000 in
theorem rtext_v (w : World) {u : Value} {x : Int} {s : ByteArray} (h0 : WV w u x) (hs : ByteArray.mk (ztext x).toArray = s) : Calls Tryd.prog 22 #[u] w fun e w' => ∃ r, e = .returned r ∧ r = .string s ∧ Grows w w' := by
  obtain ⟨n0, A0, k0, c0, rfl, s0⟩ := h0
  have hk0 : szz x ≤ 1000 := s0.size
  obtain ⟨HB, D0⟩ := start1 w 24 (.bool n0) (.slice A0 k0 c0)
  replace HB := Lib.hid HB
  replace D0 := Lib.hid D0
  have S0 := Lib.hid (s0.below HB.out)
  clear s0
  go_enter Tryd.func22, Tryd.ntmps22
  go_upto_region 1 with fail
  generalize (w.alloc (.cells #[.bool n0, .slice A0 k0 c0] 24)) = x0 at *
  obtain ⟨l0, a0, q0, hl0, e0⟩ := S0.out
  have Q0 := Lib.hid q0
  clear q0
  have hxa : x.natAbs = a0 := by rw [e0, sg_natAbs]
  obtain ⟨t, ht⟩ : ∃ t, ByteArray.mk (dec a0).toArray = t := ⟨_, rfl⟩
  obtain ⟨p, hp⟩ : ∃ p, decide (x < 0) = p := ⟨_, rfl⟩
  refine wp_region_calm 3 [] ([fun vq _ => vq = .pointer (some ⟨w.heap.size, 1, none⟩),
      fun vq _ => vq = .slice A0 k0 c0,
      fun vq _ => vq = .string t]) (by kernel_rfl) (by decide) ?hF ?steps ?fin
  case hF =>
    intro j hj; cases hj
  case steps =>
    refine AllOps.cons (Does.plain rfl fun lq aq wq hk hr K hK => ?_) ?_
    · have B1 : ev aq (.tmp 1) = .pointer (some ⟨w.heap.size, 0, none⟩) := hk.base 1 (by kernel_rfl) rfl
      exact wp_of_value (by go_simp) (hK.out _ _ (Grows.refl _) (fun w2 h2 => rfl) (fun h => absurd h (by decide)))
    refine AllOps.cons (Does.plain rfl fun lq aq wq hk hr K hK => ?_) ?_
    · obtain ⟨v0, E0, -, r0⟩ := hk.dep hr 0 4 (by kernel_rfl) (by kernel_rfl)
      replace E0 : ev aq (.tmp 4) = .pointer (some ⟨w.heap.size, 1, none⟩) := E0.trans (r0 wq (Grows.refl wq))
      have hb : Below _ _ _ := hk.ext
      have c1 := (Box2.below D0.out hb).c1
      exact wp_of_value (by go_simp) (hK.out _ _ (Grows.refl _) (fun w2 h2 => rfl) (fun h => absurd h (by decide)))
    refine AllOps.cons (Does.plain rfl fun lq aq wq hk hr K hK => ?_) ?_
    · obtain ⟨v1, E1, -, r1⟩ := hk.dep hr 1 5 (by kernel_rfl) (by kernel_rfl)
      replace E1 : ev aq (.tmp 5) = .slice A0 k0 c0 := E1.trans (r1 wq (Grows.refl wq))
      refine wp_of_call (f := 54) (vs := #[.slice A0 k0 c0]) (by go_simp) (rtextn_v wq (Q0.out.below hk.ext).lv hl0 ht) ?_
      rintro e w1 ⟨u, rfl, hu, hb⟩
      exact ⟨u, rfl, hK.out _ _ hb (fun w2 h2 => hu) (fun h => absurd h (by decide))⟩
    exact AllOps.nil
  case fin =>
    intro V x1 hG hV hap
    have r2 : (V 2) = .string t := hV 2 (by decide)
    clear hV hap
    simp only [List.take_succ_cons, List.take_zero, List.drop_succ_cons, List.drop_zero, putAll, Act.put, List.setIfInBounds_toArray, List.set_cons_zero, List.set_cons_succ]
    have hb := (show Below _ _ _ from hG)
    replace D0 := Lib.hid (Box2.below D0.out hb)
    replace S0 := Lib.hid (S0.out.below hb)
    replace Q0 := Lib.hid (Q0.out.below hb)
    replace HB := Lib.hid (HB.out.trans (Below.mono hb HB.out.size))
    clear hb hG
    rw [r2]
    clear r2
    go_upto_region 2 with fail
    refine wp_region_calm 3 [] ([fun vq wq => WV wq vq x,
        fun vq wq => ZV wq vq x,
        fun vq _ => vq = .bool p]) (by kernel_rfl) (by decide) ?hF ?steps ?fin
    case hF =>
      intro j hj; cases hj
    case steps =>
      refine AllOps.cons (Does.plain rfl fun lq aq wq hk hr K hK => ?_) ?_
      · have B1 : ev aq (.tmp 1) = .pointer (some ⟨w.heap.size, 0, none⟩) := hk.base 1 (by kernel_rfl) rfl
        have hb : Below _ _ _ := hk.ext
        exact wp_of_value (op_load 1 _ B1 (Box2.below D0.out hb)) (hK.out _ _ (Grows.refl _) (fun w2 h2 => ⟨_, _, _, _, rfl, (S0.out.below hb).below h2⟩) (fun h => absurd h (by decide)))
      refine AllOps.cons (Does.plain rfl fun lq aq wq hk hr K hK => ?_) ?_
      · obtain ⟨v0, E0, -, r0⟩ := hk.dep hr 0 7 (by kernel_rfl) (by kernel_rfl)
        have r0 : WV wq v0 x := r0 wq (Grows.refl wq)
        refine wp_of_call (f := 46) (vs := #[v0]) (by go_simp) (rmade_v wq r0) ?_
        rintro e w1 ⟨u, rfl, hu, hb⟩
        exact ⟨u, rfl, hK.out _ _ hb (fun w2 h2 => (hu).grow h2) (fun h => absurd h (by decide))⟩
      refine AllOps.cons (Does.plain rfl fun lq aq wq hk hr K hK => ?_) ?_
      · obtain ⟨v1, E1, -, r1⟩ := hk.dep hr 1 8 (by kernel_rfl) (by kernel_rfl)
        have r1 : ZV wq v1 x := r1 wq (Grows.refl wq)
        obtain ⟨n1, A1, k1, c1, rfl, s1⟩ := r1
        have sk := s1.sign
        rw [hp] at sk
        subst sk
        exact wp_of_value (by have hfd := field0; go_simp) (hK.out _ _ (Grows.refl _) (fun w2 h2 => rfl) (fun h => absurd h (by decide)))
      exact AllOps.nil
    case fin =>
      intro V x2 hG hV hap
      have r2 : (V 2) = .bool p := hV 2 (by decide)
      clear hV hap
      simp only [List.take_succ_cons, List.take_nil, List.drop_succ_cons, List.drop_nil, putAll, Act.put, List.setIfInBounds_toArray, List.set_cons_zero, List.set_cons_succ]
      have hb := (show Below _ _ _ from hG)
      replace D0 := Lib.hid (Box2.below D0.out hb)
      replace S0 := Lib.hid (S0.out.below hb)
      replace Q0 := Lib.hid (Q0.out.below hb)
      replace HB := Lib.hid (HB.out.trans (Below.mono hb HB.out.size))
      clear hb hG
      rw [r2]
      clear r2
      rcases p with _ | _
      · skip
        have hst : t = s := by rw [← ht, ← hs, ztext_pos (by simpa using hp), hxa]
        subst hst
        go_wp2_with fail
        go_ret
        exact ⟨_, rfl, rfl, HB.out⟩
      · skip
        have hcat : ByteArray.mk #[45] ++ t = s := by rw [← ht, ← hs, ztext_neg (by simpa using hp), hxa]; exact cat_bytes' [45] _
        have hlen : t.size ≤ 100000 := by
          rw [← ht]
          have h := dec_short (Nat.le_trans (Q0.out |> sz_num) hl0)
          show (dec a0).toArray.size ≤ 100000
          simp
          omega
        go_wp2_with fail
        go_ret
        exact ⟨_, rfl, rfl, HB.out⟩
theorem xor_full (m : Nat) (h : m < 18446744073709551616) : bits .xor .u64 IntKind.u64.max (m : Int) = ((18446744073709551615 - m : Nat) : Int) := by
  have h2 : (BitVec.ofInt 64 (m : Int)).toNat = m := by
    rw [BitVec.ofInt_natCast, BitVec.toNat_ofNat]; exact Nat.mod_eq_of_lt (by omega)
  have h1 : BitVec.ofInt 64 IntKind.u64.max = BitVec.allOnes 64 := by decide
  show IntKind.u64.wrap ((BitVec.ofInt 64 IntKind.u64.max ^^^ BitVec.ofInt 64 (m : Int)).toNat : Int) = _
  rw [h1, BitVec.allOnes_xor, BitVec.toNat_not, h2, IntKind.wrap_u64]
  omega
set_option maxHeartbeats 1000000 in
set_option maxRecDepth 100000 in
theorem rfrom_v (w : World) (z : Int) (h1 : -9223372036854775808 ≤ z) (h2 : z ≤ 9223372036854775807) : Calls Tryd.prog 14 #[.int .i64 z] w fun e w' => ∃ r, e = .returned r ∧ ZV w' r z ∧ Grows w w' := by
  have hkz : szz z ≤ 1000 := Nat.le_trans (szz_i64 h1 h2) (by decide)
  obtain ⟨a, ha⟩ : ∃ a : Nat, a = z.natAbs := ⟨_, rfl⟩
  have hlt : a < 18446744073709551616 := by omega
  have HB := Lib.hid (((Below.refl _ w).alloc (Nat.le_refl _) (.cells #[.bool false, .slice none 0 0] 24)))
  have B0 := Lib.hid (Box2.new w 24 (.bool false) (.slice none 0 0))
  have hN : ∀ W : World, Num (W.alloc (.cells #[.int .u32 ((a : Int) % 4294967296), .int .u32 ((a : Int) / 4294967296)] 52)) (.slice (some ⟨W.heap.size, 0, none⟩) 2 2) [a % 4294967296, a / 4294967296] a := fun W =>
    ⟨arg_lit W _ _ 2 _ rfl (by simp), Lim.cons (by omega) (Lim.one (by omega)), by simp, by simp [val]; omega⟩
  have hN1 := hN (w.alloc (.cells #[.bool false, .slice none 0 0] 24))
  rw [World.size_alloc] at hN1
  have HN := Lib.hid hN1
  clear hN hN1
  have HB2 := Lib.hid (HB.out.alloc (by simp) (.cells #[.int .u32 ((a : Int) % 4294967296), .int .u32 ((a : Int) / 4294967296)] 52))
  rcases Int.lt_or_le z 0 with hx | hx
  · skip
    have hz : z = -(a : Int) := by omega
    have HZ := Lib.hid (show sg true a = z by rw [sg_true, hz])
    have hw1 : IntKind.u64.wrap z = ((18446744073709551616 - a : Nat) : Int) := by rw [IntKind.wrap_u64]; omega
    have hw2 : bits .xor .u64 IntKind.u64.max ((18446744073709551616 - a : Nat) : Int) = ((a - 1 : Nat) : Int) := by rw [xor_full _ (by omega)]; omega
    have hw3 : IntKind.u64.wrap (((a - 1 : Nat) : Int) + 1) = (a : Int) := by rw [IntKind.wrap_u64]; omega
    clear ha hz
    have hm5 : ((a : Int) / 4294967296) % 4294967296 = (a : Int) / 4294967296 := by omega
    go_enter Tryd.func14, Tryd.ntmps14
    go_wp2_with fail
    refine (rof_v _ true (z := z) HN.out.lv (by simp) HZ.out hkz).mono ?_
    rintro e wo ⟨r, rfl, hr, hbo⟩
    obtain ⟨no, A1, k1, c1, rfl, sR⟩ := hr
    have B := Lib.hid ((B0.out.alloc _).below hbo)
    obtain ⟨hc0, hc1, hf0, hf1⟩ := B.out.facts
    go_wp2_with fail
    refine bodyPost_ret (v := .agg #[.bool no, .slice A1 k1 c1]) (by simp [results, Tryd.results14, go_sem, (B.out.set0 _).c0, ((B.out.set0 _).set1 _).c1]) rfl ⟨_, rfl, ⟨_, _, _, _, rfl, sR.put B.out (.bool no) (.slice A1 k1 c1)⟩, put2_below (HB2.out.trans (Below.mono hbo HB2.out.size)) (Nat.le_refl _)⟩
  · skip
    have hz : z = (a : Int) := by omega
    subst hz
    have HZ := Lib.hid (sg_false a)
    clear ha
    have hm5 : ((a : Int) / 4294967296) % 4294967296 = (a : Int) / 4294967296 := by omega
    go_enter Tryd.func14, Tryd.ntmps14
    go_wp2_with fail
    refine (rof_v _ false (z := (a : Int)) HN.out.lv (by simp) HZ.out hkz).mono ?_
    rintro e wo ⟨r, rfl, hr, hbo⟩
    obtain ⟨no, A1, k1, c1, rfl, sR⟩ := hr
    have B := Lib.hid ((B0.out.alloc _).below hbo)
    obtain ⟨hc0, hc1, hf0, hf1⟩ := B.out.facts
    go_wp2_with fail
    refine bodyPost_ret (v := .agg #[.bool no, .slice A1 k1 c1]) (by simp [results, Tryd.results14, go_sem, (B.out.set0 _).c0, ((B.out.set0 _).set1 _).c1]) rfl ⟨_, rfl, ⟨_, _, _, _, rfl, sR.put B.out (.bool no) (.slice A1 k1 c1)⟩, put2_below (HB2.out.trans (Below.mono hbo HB2.out.size)) (Nat.le_refl _)⟩
theorem ext_tail (c : UInt8) (t : List UInt8) : (ByteArray.mk (c :: t).toArray).extract 1 (t.length + 1) = ByteArray.mk t.toArray := by
  apply ByteArray.ext
  simp [ByteArray.data_extract]
theorem rparsen_no_v (w : World) (l : List UInt8) (h : goodText l = false) (hs : l.length ≤ 900000) {s : ByteArray} (e : ByteArray.mk l.toArray = s) : Calls Tryd.prog 57 #[.string s] w fun e w' => ∃ r, e = .returned r ∧ r = .tuple #[.slice none 0 0, .bool false] ∧ Grows w w' := by
  subst e
  refine (rparse_no w l h hs).mono ?_
  rintro e w1 ⟨rfl, g⟩
  exact ⟨_, rfl, rfl, g⟩
theorem rparsen_v (w : World) (l : List UInt8) (h : goodText l = true) (hs : l.length ≤ 100000) (hz : sz (tval 0 l) ≤ 1000) {s : ByteArray} (e : ByteArray.mk l.toArray = s) : Calls Tryd.prog 57 #[.string s] w fun e w' => ∃ r, e = .returned r ∧ (∃ u0, r = .tuple #[u0, .bool true] ∧ LV w' u0 (limbs (tval 0 l)) (tval 0 l)) ∧ Grows w w' := by
  subst e
  refine (rparse_yes w l h hs).mono ?_
  rintro e w1 ⟨v1, rfl, g1, b1⟩
  exact ⟨_, rfl, ⟨_, rfl, lv_limbs g1 hz⟩, b1⟩
set_option maxHeartbeats 4000000 in
set_option maxRecDepth 100000 in
theorem rp_neg_bad (w : World) (t : List UInt8) (hg : goodText t = false) (hl : t.length ≤ 90000) : Calls Tryd.prog 24 #[.string ⟨(45 :: t).toArray⟩] w fun e w' => ∃ r, e = .returned r ∧ (∃ u0, r = .tuple #[u0, .bool false] ∧ ZV w' u0 0) ∧ Grows w w' := by
  obtain ⟨S, hS⟩ : ∃ S, ByteArray.mk (45 :: t).toArray = S := ⟨_, rfl⟩
  have hsz : S.size = t.length + 1 := by rw [← hS]; show (45 :: t).toArray.size = _; simp
  have hs0 : 0 < S.size := by omega
  have hc : ((S[0]'hs0).toNat : Int) = 45 := by subst hS; rfl
  obtain ⟨U, hU⟩ : ∃ U, ByteArray.mk t.toArray = U := ⟨_, rfl⟩
  have hext : S.extract 1 (t.length + 1) = U := by rw [← hS, ← hU]; exact ext_tail 45 t
  rw [hS]
  have hts : t.length ≤ 900000 := by omega
  obtain ⟨HB, DR⟩ := start1 w 24 (.bool false) (.slice none 0 0)
  replace HB := Lib.hid HB
  replace DR := Lib.hid DR
  go_enter Tryd.func24, Tryd.ntmps24
  go_upto_region 1 with fail
  generalize (w.alloc (.cells #[.bool false, .slice none 0 0] 24)) = x0 at *
  refine wp_region_calm 8 [] ([fun vq _ => vq = .string S,
      fun vq _ => vq = .int .i64 (t.length + 1),
      fun vq _ => vq = .bool true,
      fun vq _ => vq = .bool true,
      fun vq _ => vq = .string S,
      fun vq _ => vq = .int .u8 45,
      fun vq _ => vq = .bool true,
      fun vq _ => vq = .bool true]) (by kernel_rfl) (by decide) ?hF ?steps ?fin
  case hF =>
    intro j hj; cases hj
  case steps =>
    refine AllOps.cons (Does.plain rfl fun lq aq wq hk hr K hK => ?_) ?_
    · have B0 : ev aq (.tmp 0) = .string S := hk.base 0 (by kernel_rfl) rfl
      exact wp_of_value (by go_simp) (hK.out _ _ (Grows.refl _) (fun w2 h2 => rfl) (fun h => absurd h (by decide)))
    refine AllOps.cons (Does.plain rfl fun lq aq wq hk hr K hK => ?_) ?_
    · obtain ⟨v0, E0, -, r0⟩ := hk.dep hr 0 7 (by kernel_rfl) (by kernel_rfl)
      replace E0 : ev aq (.tmp 7) = .string S := E0.trans (r0 wq (Grows.refl wq))
      exact wp_of_value (by go_simp) (hK.out _ _ (Grows.refl _) (fun w2 h2 => rfl) (fun h => absurd h (by decide)))
    refine AllOps.cons (Does.plain rfl fun lq aq wq hk hr K hK => ?_) ?_
    · obtain ⟨v1, E1, -, r1⟩ := hk.dep hr 1 8 (by kernel_rfl) (by kernel_rfl)
      replace E1 : ev aq (.tmp 8) = .int .i64 (t.length + 1) := E1.trans (r1 wq (Grows.refl wq))
      exact wp_of_value (by go_simp) (hK.out _ _ (Grows.refl _) (fun w2 h2 => rfl) (fun h => absurd h (by decide)))
    refine AllOps.cons (Does.plain rfl fun lq aq wq hk hr K hK => ?_) ?_
    · obtain ⟨v2, E2, -, r2⟩ := hk.dep hr 2 9 (by kernel_rfl) (by kernel_rfl)
      replace E2 : ev aq (.tmp 9) = .bool true := E2.trans (r2 wq (Grows.refl wq))
      exact wp_of_value (by go_simp) (hK.out _ _ (Grows.refl _) (fun w2 h2 => rfl) (fun h => absurd h (by decide)))
    refine AllOps.cons (Does.lets (g := 3) (d := 10) (t := true) rfl (by kernel_rfl) (by kernel_rfl) (fun vq wq h => h wq (Grows.refl wq)) fun lq aq wq hk hr K hK => ?_) ?_
    · have B0 : ev aq (.tmp 0) = .string S := hk.base 0 (by kernel_rfl) rfl
      exact wp_of_value (by go_simp) (hK.out _ _ (Grows.refl _) (fun w2 h2 => rfl) (fun h => absurd h (by decide)))
    refine AllOps.cons (Does.lets (g := 3) (d := 10) (t := true) rfl (by kernel_rfl) (by kernel_rfl) (fun vq wq h => h wq (Grows.refl wq)) fun lq aq wq hk hr K hK => ?_) ?_
    · obtain ⟨v4, E4, -, r4⟩ := hk.dep hr 4 11 (by kernel_rfl) (by kernel_rfl)
      replace E4 : ev aq (.tmp 11) = .string S := E4.trans (r4 wq (Grows.refl wq))
      exact wp_of_value (by go_simp) (hK.out _ _ (Grows.refl _) (fun w2 h2 => rfl) (fun h => absurd h (by decide)))
    refine AllOps.cons (Does.lets (g := 3) (d := 10) (t := true) rfl (by kernel_rfl) (by kernel_rfl) (fun vq wq h => h wq (Grows.refl wq)) fun lq aq wq hk hr K hK => ?_) ?_
    · obtain ⟨v5, E5, -, r5⟩ := hk.dep hr 5 12 (by kernel_rfl) (by kernel_rfl)
      replace E5 : ev aq (.tmp 12) = .int .u8 45 := E5.trans (r5 wq (Grows.refl wq))
      exact wp_of_value (by go_simp) (hK.out _ _ (Grows.refl _) (fun w2 h2 => rfl) (fun h => absurd h (by decide)))
    refine AllOps.cons (Does.plain rfl fun lq aq wq hk hr K hK => ?_) ?_
    · obtain ⟨v3, E3, -, r3⟩ := hk.dep hr 3 10 (by kernel_rfl) (by kernel_rfl)
      replace E3 : ev aq (.tmp 10) = .bool true := E3.trans (r3 wq (Grows.refl wq))
      obtain ⟨v6, E6, -, r6⟩ := hk.dep hr 6 13 (by kernel_rfl) (by kernel_rfl)
      replace E6 : ev aq (.tmp 13) = .bool true := E6.trans (r6 wq (Grows.refl wq))
      exact wp_of_value (by go_simp) (hK.out _ _ (Grows.refl _) (fun w2 h2 => rfl) (fun h => absurd h (by decide)))
    exact AllOps.nil
  case fin =>
    intro V x1 hG hV hap
    have r0 : (V 0) = .string S := hV 0 (by decide)
    have r7 : (V 7) = .bool true := hV 7 (by decide)
    clear hV hap
    simp only [List.take_succ_cons, List.take_zero, List.drop_succ_cons, List.drop_zero, putAll, Act.put, List.setIfInBounds_toArray, List.set_cons_zero, List.set_cons_succ]
    have hb := (show Below _ _ _ from hG)
    replace DR := Lib.hid (Box2.below DR.out hb)
    replace HB := Lib.hid (HB.out.trans (Below.mono hb HB.out.size))
    clear hb hG
    rw [r7]
    clear r7
    go_upto_region 3 with fail
    refine wp_region_calm 2 [] ([fun vq _ => vq = .string S,
        fun vq _ => vq = .string U]) (by kernel_rfl) (by decide) ?hF ?steps ?fin
    case hF =>
      intro j hj; cases hj
    case steps =>
      refine AllOps.cons (Does.plain rfl fun lq aq wq hk hr K hK => ?_) ?_
      · have B0 : ev aq (.tmp 0) = .string S := hk.base 0 (by kernel_rfl) rfl
        exact wp_of_value (by go_simp) (hK.out _ _ (Grows.refl _) (fun w2 h2 => rfl) (fun h => absurd h (by decide)))
      refine AllOps.cons (Does.plain rfl fun lq aq wq hk hr K hK => ?_) ?_
      · obtain ⟨v0, E0, -, r0⟩ := hk.dep hr 0 16 (by kernel_rfl) (by kernel_rfl)
        replace E0 : ev aq (.tmp 16) = .string S := E0.trans (r0 wq (Grows.refl wq))
        exact wp_of_value (by go_simp; intro h; omega) (hK.out _ _ (Grows.refl _) (fun w2 h2 => rfl) (fun h => absurd h (by decide)))
      exact AllOps.nil
    case fin =>
      intro V x2 hG hV hap
      have r1 : (V 1) = .string U := hV 1 (by decide)
      clear hV hap
      simp only [List.take_succ_cons, List.take_zero, List.drop_succ_cons, List.drop_zero, putAll, Act.put, List.setIfInBounds_toArray, List.set_cons_zero, List.set_cons_succ]
      have hb := (show Below _ _ _ from hG)
      replace DR := Lib.hid (Box2.below DR.out hb)
      replace HB := Lib.hid (HB.out.trans (Below.mono hb HB.out.size))
      clear hb hG
      rw [r1]
      clear r1
      go_upto_region 4 with fail
      refine wp_region_calm 5 [] ([fun vq _ => vq = .string U,
          fun vq wq => vq = .tuple #[.slice none 0 0, .bool false],
          fun vq wq => vq = .tuple #[.slice none 0 0, .bool false],
          fun vq _ => vq = .slice none 0 0,
          fun vq _ => vq = .bool false]) (by kernel_rfl) (by decide) ?hF ?steps ?fin
      case hF =>
        intro j hj; cases hj
      case steps =>
        refine AllOps.cons (Does.plain rfl fun lq aq wq hk hr K hK => ?_) ?_
        · have B0 : ev aq (.tmp 0) = .string U := hk.base 0 (by kernel_rfl) rfl
          exact wp_of_value (by go_simp) (hK.out _ _ (Grows.refl _) (fun w2 h2 => rfl) (fun h => absurd h (by decide)))
        refine AllOps.cons (Does.plain rfl fun lq aq wq hk hr K hK => ?_) ?_
        · obtain ⟨v0, E0, -, r0⟩ := hk.dep hr 0 19 (by kernel_rfl) (by kernel_rfl)
          replace E0 : ev aq (.tmp 19) = .string U := E0.trans (r0 wq (Grows.refl wq))
          refine wp_of_call (f := 57) (vs := #[.string U]) (by go_simp) (rparsen_no_v wq t hg (by first | omega | (simp; omega) | simp) hU) ?_
          rintro e w1 ⟨u, rfl, hu, hb⟩
          exact ⟨u, rfl, hK.out _ _ hb (fun w2 h2 => hu) (fun h => absurd h (by decide))⟩
        refine AllOps.cons (Does.plain rfl fun lq aq wq hk hr K hK => ?_) ?_
        · obtain ⟨v1, E1, -, r1⟩ := hk.dep hr 1 20 (by kernel_rfl) (by kernel_rfl)
          have r1 : v1 = .tuple #[.slice none 0 0, .bool false] := r1 wq (Grows.refl wq)
          exact wp_of_value (by go_simp) (hK.out _ _ (Grows.refl _) (fun w2 h2 => r1) (fun h => absurd h (by decide)))
        refine AllOps.cons (Does.plain rfl fun lq aq wq hk hr K hK => ?_) ?_
        · obtain ⟨v2, E2, -, r2⟩ := hk.dep hr 2 18 (by kernel_rfl) (by kernel_rfl)
          have r2 : v2 = .tuple #[.slice none 0 0, .bool false] := r2 wq (Grows.refl wq)
          obtain ⟨rfl⟩ := r2
          exact wp_of_value (by go_simp) (hK.out _ _ (Grows.refl _) (fun w2 h2 => rfl) (fun h => absurd h (by decide)))
        refine AllOps.cons (Does.plain rfl fun lq aq wq hk hr K hK => ?_) ?_
        · obtain ⟨v2, E2, -, r2⟩ := hk.dep hr 2 18 (by kernel_rfl) (by kernel_rfl)
          have r2 : v2 = .tuple #[.slice none 0 0, .bool false] := r2 wq (Grows.refl wq)
          obtain ⟨rfl⟩ := r2
          exact wp_of_value (by go_simp) (hK.out _ _ (Grows.refl _) (fun w2 h2 => rfl) (fun h => absurd h (by decide)))
        exact AllOps.nil
      case fin =>
        intro V x3 hG hV hap
        have r3 : (V 3) = .slice none 0 0 := hV 3 (by decide)
        have r4 : (V 4) = .bool false := hV 4 (by decide)
        clear hV hap
        simp only [List.take_succ_cons, List.take_zero, List.drop_succ_cons, List.drop_zero, putAll, Act.put, List.setIfInBounds_toArray, List.set_cons_zero, List.set_cons_succ]
        have hb := (show Below _ _ _ from hG)
        replace DR := Lib.hid (Box2.below DR.out hb)
        replace HB := Lib.hid (HB.out.trans (Below.mono hb HB.out.size))
        clear hb hG
        rw [r3, r4]
        clear r3 r4
        go_upto_region 5 with fail
        refine wp_region_calm 10 [] ([fun vq _ => vq = .bool false,
            fun vq _ => vq = .bool true,
            fun vq _ => vq = .bool true,
            fun vq _ => vq = undef,
            fun vq _ => vq = undef,
            fun vq _ => vq = undef,
            fun vq _ => vq = undef,
            fun vq _ => vq = undef,
            fun vq _ => vq = undef,
            fun vq _ => vq = .bool true]) (by kernel_rfl) (by decide) ?hF ?steps ?fin
        case hF =>
          intro j hj; cases hj
        case steps =>
          refine AllOps.cons (Does.plain rfl fun lq aq wq hk hr K hK => ?_) ?_
          · have B6 : ev aq (.tmp 6) = .bool false := hk.base 6 (by kernel_rfl) rfl
            exact wp_of_value (by go_simp) (hK.out _ _ (Grows.refl _) (fun w2 h2 => rfl) (fun h => absurd h (by decide)))
          refine AllOps.cons (Does.plain rfl fun lq aq wq hk hr K hK => ?_) ?_
          · obtain ⟨v0, E0, -, r0⟩ := hk.dep hr 0 23 (by kernel_rfl) (by kernel_rfl)
            replace E0 : ev aq (.tmp 23) = .bool false := E0.trans (r0 wq (Grows.refl wq))
            exact wp_of_value (by go_simp) (hK.out _ _ (Grows.refl _) (fun w2 h2 => rfl) (fun h => absurd h (by decide)))
          refine AllOps.cons (Does.plain rfl fun lq aq wq hk hr K hK => ?_) ?_
          · obtain ⟨v1, E1, -, r1⟩ := hk.dep hr 1 24 (by kernel_rfl) (by kernel_rfl)
            replace E1 : ev aq (.tmp 24) = .bool true := E1.trans (r1 wq (Grows.refl wq))
            exact wp_of_value (by go_simp) (hK.out _ _ (Grows.refl _) (fun w2 h2 => rfl) (fun h => absurd h (by decide)))
          refine AllOps.cons (Does.bars (g := 2) (d := 25) (t := false) (u := true) rfl (by kernel_rfl) (by kernel_rfl) (fun vq wq h => h wq (Grows.refl wq)) (by decide) (fun _ _ _ => rfl) rfl) ?_
          refine AllOps.cons (Does.bars (g := 2) (d := 25) (t := false) (u := true) rfl (by kernel_rfl) (by kernel_rfl) (fun vq wq h => h wq (Grows.refl wq)) (by decide) (fun _ _ _ => rfl) rfl) ?_
          refine AllOps.cons (Does.undone (g := 4) (d := 27) (t := true) rfl (by kernel_rfl) (by kernel_rfl) (fun vq wq h => h wq (Grows.refl wq)) (fun _ _ _ => rfl) rfl) ?_
          refine AllOps.cons (Does.undone (g := 4) (d := 27) (t := true) rfl (by kernel_rfl) (by kernel_rfl) (fun vq wq h => h wq (Grows.refl wq)) (fun _ _ _ => rfl) rfl) ?_
          refine AllOps.cons (Does.undone (g := 4) (d := 27) (t := true) rfl (by kernel_rfl) (by kernel_rfl) (fun vq wq h => h wq (Grows.refl wq)) (fun _ _ _ => rfl) rfl) ?_
          refine AllOps.cons (Does.bars (g := 2) (d := 25) (t := false) (u := true) rfl (by kernel_rfl) (by kernel_rfl) (fun vq wq h => h wq (Grows.refl wq)) (by decide) (fun _ _ _ => rfl) rfl) ?_
          refine AllOps.cons (Does.plain rfl fun lq aq wq hk hr K hK => ?_) ?_
          · obtain ⟨v2, E2, -, r2⟩ := hk.dep hr 2 25 (by kernel_rfl) (by kernel_rfl)
            replace E2 : ev aq (.tmp 25) = .bool true := E2.trans (r2 wq (Grows.refl wq))
            exact wp_of_value (by go_simp) (hK.out _ _ (Grows.refl _) (fun w2 h2 => rfl) (fun h => absurd h (by decide)))
          exact AllOps.nil
        case fin =>
          intro V x4 hG hV hap
          have r9 : (V 9) = .bool true := hV 9 (by decide)
          clear hV hap
          simp only [List.take_succ_cons, List.take_nil, List.drop_succ_cons, List.drop_nil, putAll, Act.put, List.setIfInBounds_toArray, List.set_cons_zero, List.set_cons_succ]
          have hb := (show Below _ _ _ from hG)
          replace DR := Lib.hid (Box2.below DR.out hb)
          replace HB := Lib.hid (HB.out.trans (Below.mono hb HB.out.size))
          clear hb hG
          rw [r9]
          clear r9
          go_upto_region 6 with fail
          refine wp_region_calm 1 [] ([fun vq wq => ZV wq vq 0]) (by kernel_rfl) (by decide) ?hF ?steps ?fin
          case hF =>
            intro j hj; cases hj
          case steps =>
            refine AllOps.cons (Does.plain rfl fun lq aq wq hk hr K hK => ?_) ?_
            · exact wp_of_value (by go_simp) (hK.out _ _ (Grows.refl _) (fun w2 h2 => (ZV.zero _ 0).grow h2) (fun h => absurd h (by decide)))
            exact AllOps.nil
          case fin =>
            intro V x5 hG hV hap
            have r0 : ZV x5 (V 0) 0 := hV 0 (by decide)
            clear hV hap
            simp only [List.take_succ_cons, List.take_zero, List.drop_succ_cons, List.drop_zero, putAll, Act.put, List.setIfInBounds_toArray, List.set_cons_zero, List.set_cons_succ]
            have hb := (show Below _ _ _ from hG)
            obtain ⟨nR, AR, kR, cR, eR, sR⟩ := r0
            simp only [eR]
            clear eR
            replace DR := Box2.below DR.out hb
            refine wpList_of_skip rfl (op_store 2 33 _ rfl rfl DR) ?_
            have sQ := sR.put DR (.bool nR) (.slice AR kR cR)
            have HQ := put2_below (u := .bool nR) (v := .slice AR kR cR) (HB.out.trans (Below.mono hb HB.out.size)) (show w.heap.size ≤ w.heap.size by omega)
            replace DR := put2_own (u := .bool nR) (v := .slice AR kR cR) DR
            clear hb hG sR HB
            generalize put2 x5 w.heap.size (.bool nR) (.slice AR kR cR) = y9 at *
            have c0 := DR.c0
            have c1 := DR.c1
            clear DR
            go_wp2_with fail
            refine bodyPost_ret (v := .tuple #[.agg #[.bool nR, .slice AR kR cR], .bool false]) (by simp [results, Tryd.results24, go_sem, c0, c1]) rfl ⟨_, rfl, ⟨_, rfl, ⟨_, _, _, _, rfl, sQ⟩⟩, HQ⟩
set_option maxHeartbeats 4000000 in
set_option maxRecDepth 100000 in
theorem rp_neg_zero (w : World) (t : List UInt8) (hg : goodText t = true) (h0 : tval 0 t = 0) (hl : t.length ≤ 90000) (hz : sz (tval 0 t) ≤ 1000) : Calls Tryd.prog 24 #[.string ⟨(45 :: t).toArray⟩] w fun e w' => ∃ r, e = .returned r ∧ (∃ u0, r = .tuple #[u0, .bool false] ∧ ZV w' u0 0) ∧ Grows w w' := by
  obtain ⟨S, hS⟩ : ∃ S, ByteArray.mk (45 :: t).toArray = S := ⟨_, rfl⟩
  have hsz : S.size = t.length + 1 := by rw [← hS]; show (45 :: t).toArray.size = _; simp
  have hs0 : 0 < S.size := by omega
  have hc : ((S[0]'hs0).toNat : Int) = 45 := by subst hS; rfl
  obtain ⟨U, hU⟩ : ∃ U, ByteArray.mk t.toArray = U := ⟨_, rfl⟩
  have hext : S.extract 1 (t.length + 1) = U := by rw [← hS, ← hU]; exact ext_tail 45 t
  rw [hS]
  have hts : t.length ≤ 900000 := by omega
  obtain ⟨HB, DR⟩ := start1 w 24 (.bool false) (.slice none 0 0)
  replace HB := Lib.hid HB
  replace DR := Lib.hid DR
  go_enter Tryd.func24, Tryd.ntmps24
  go_upto_region 1 with fail
  generalize (w.alloc (.cells #[.bool false, .slice none 0 0] 24)) = x0 at *
  refine wp_region_calm 8 [] ([fun vq _ => vq = .string S,
      fun vq _ => vq = .int .i64 (t.length + 1),
      fun vq _ => vq = .bool true,
      fun vq _ => vq = .bool true,
      fun vq _ => vq = .string S,
      fun vq _ => vq = .int .u8 45,
      fun vq _ => vq = .bool true,
      fun vq _ => vq = .bool true]) (by kernel_rfl) (by decide) ?hF ?steps ?fin
  case hF =>
    intro j hj; cases hj
  case steps =>
    refine AllOps.cons (Does.plain rfl fun lq aq wq hk hr K hK => ?_) ?_
    · have B0 : ev aq (.tmp 0) = .string S := hk.base 0 (by kernel_rfl) rfl
      exact wp_of_value (by go_simp) (hK.out _ _ (Grows.refl _) (fun w2 h2 => rfl) (fun h => absurd h (by decide)))
    refine AllOps.cons (Does.plain rfl fun lq aq wq hk hr K hK => ?_) ?_
    · obtain ⟨v0, E0, -, r0⟩ := hk.dep hr 0 7 (by kernel_rfl) (by kernel_rfl)
      replace E0 : ev aq (.tmp 7) = .string S := E0.trans (r0 wq (Grows.refl wq))
      exact wp_of_value (by go_simp) (hK.out _ _ (Grows.refl _) (fun w2 h2 => rfl) (fun h => absurd h (by decide)))
    refine AllOps.cons (Does.plain rfl fun lq aq wq hk hr K hK => ?_) ?_
    · obtain ⟨v1, E1, -, r1⟩ := hk.dep hr 1 8 (by kernel_rfl) (by kernel_rfl)
      replace E1 : ev aq (.tmp 8) = .int .i64 (t.length + 1) := E1.trans (r1 wq (Grows.refl wq))
      exact wp_of_value (by go_simp) (hK.out _ _ (Grows.refl _) (fun w2 h2 => rfl) (fun h => absurd h (by decide)))
    refine AllOps.cons (Does.plain rfl fun lq aq wq hk hr K hK => ?_) ?_
    · obtain ⟨v2, E2, -, r2⟩ := hk.dep hr 2 9 (by kernel_rfl) (by kernel_rfl)
      replace E2 : ev aq (.tmp 9) = .bool true := E2.trans (r2 wq (Grows.refl wq))
      exact wp_of_value (by go_simp) (hK.out _ _ (Grows.refl _) (fun w2 h2 => rfl) (fun h => absurd h (by decide)))
    refine AllOps.cons (Does.lets (g := 3) (d := 10) (t := true) rfl (by kernel_rfl) (by kernel_rfl) (fun vq wq h => h wq (Grows.refl wq)) fun lq aq wq hk hr K hK => ?_) ?_
    · have B0 : ev aq (.tmp 0) = .string S := hk.base 0 (by kernel_rfl) rfl
      exact wp_of_value (by go_simp) (hK.out _ _ (Grows.refl _) (fun w2 h2 => rfl) (fun h => absurd h (by decide)))
    refine AllOps.cons (Does.lets (g := 3) (d := 10) (t := true) rfl (by kernel_rfl) (by kernel_rfl) (fun vq wq h => h wq (Grows.refl wq)) fun lq aq wq hk hr K hK => ?_) ?_
    · obtain ⟨v4, E4, -, r4⟩ := hk.dep hr 4 11 (by kernel_rfl) (by kernel_rfl)
      replace E4 : ev aq (.tmp 11) = .string S := E4.trans (r4 wq (Grows.refl wq))
      exact wp_of_value (by go_simp) (hK.out _ _ (Grows.refl _) (fun w2 h2 => rfl) (fun h => absurd h (by decide)))
    refine AllOps.cons (Does.lets (g := 3) (d := 10) (t := true) rfl (by kernel_rfl) (by kernel_rfl) (fun vq wq h => h wq (Grows.refl wq)) fun lq aq wq hk hr K hK => ?_) ?_
    · obtain ⟨v5, E5, -, r5⟩ := hk.dep hr 5 12 (by kernel_rfl) (by kernel_rfl)
      replace E5 : ev aq (.tmp 12) = .int .u8 45 := E5.trans (r5 wq (Grows.refl wq))
      exact wp_of_value (by go_simp) (hK.out _ _ (Grows.refl _) (fun w2 h2 => rfl) (fun h => absurd h (by decide)))
    refine AllOps.cons (Does.plain rfl fun lq aq wq hk hr K hK => ?_) ?_
    · obtain ⟨v3, E3, -, r3⟩ := hk.dep hr 3 10 (by kernel_rfl) (by kernel_rfl)
      replace E3 : ev aq (.tmp 10) = .bool true := E3.trans (r3 wq (Grows.refl wq))
      obtain ⟨v6, E6, -, r6⟩ := hk.dep hr 6 13 (by kernel_rfl) (by kernel_rfl)
      replace E6 : ev aq (.tmp 13) = .bool true := E6.trans (r6 wq (Grows.refl wq))
      exact wp_of_value (by go_simp) (hK.out _ _ (Grows.refl _) (fun w2 h2 => rfl) (fun h => absurd h (by decide)))
    exact AllOps.nil
  case fin =>
    intro V x1 hG hV hap
    have r0 : (V 0) = .string S := hV 0 (by decide)
    have r7 : (V 7) = .bool true := hV 7 (by decide)
    clear hV hap
    simp only [List.take_succ_cons, List.take_zero, List.drop_succ_cons, List.drop_zero, putAll, Act.put, List.setIfInBounds_toArray, List.set_cons_zero, List.set_cons_succ]
    have hb := (show Below _ _ _ from hG)
    replace DR := Lib.hid (Box2.below DR.out hb)
    replace HB := Lib.hid (HB.out.trans (Below.mono hb HB.out.size))
    clear hb hG
    rw [r7]
    clear r7
    go_upto_region 3 with fail
    refine wp_region_calm 2 [] ([fun vq _ => vq = .string S,
        fun vq _ => vq = .string U]) (by kernel_rfl) (by decide) ?hF ?steps ?fin
    case hF =>
      intro j hj; cases hj
    case steps =>
      refine AllOps.cons (Does.plain rfl fun lq aq wq hk hr K hK => ?_) ?_
      · have B0 : ev aq (.tmp 0) = .string S := hk.base 0 (by kernel_rfl) rfl
        exact wp_of_value (by go_simp) (hK.out _ _ (Grows.refl _) (fun w2 h2 => rfl) (fun h => absurd h (by decide)))
      refine AllOps.cons (Does.plain rfl fun lq aq wq hk hr K hK => ?_) ?_
      · obtain ⟨v0, E0, -, r0⟩ := hk.dep hr 0 16 (by kernel_rfl) (by kernel_rfl)
        replace E0 : ev aq (.tmp 16) = .string S := E0.trans (r0 wq (Grows.refl wq))
        exact wp_of_value (by go_simp; intro h; omega) (hK.out _ _ (Grows.refl _) (fun w2 h2 => rfl) (fun h => absurd h (by decide)))
      exact AllOps.nil
    case fin =>
      intro V x2 hG hV hap
      have r1 : (V 1) = .string U := hV 1 (by decide)
      clear hV hap
      simp only [List.take_succ_cons, List.take_zero, List.drop_succ_cons, List.drop_zero, putAll, Act.put, List.setIfInBounds_toArray, List.set_cons_zero, List.set_cons_succ]
      have hb := (show Below _ _ _ from hG)
      replace DR := Lib.hid (Box2.below DR.out hb)
      replace HB := Lib.hid (HB.out.trans (Below.mono hb HB.out.size))
      clear hb hG
      rw [r1]
      clear r1
      go_upto_region 4 with fail
      refine wp_region_calm 5 [] ([fun vq _ => vq = .string U,
          fun vq wq => ∃ u0, vq = .tuple #[u0, .bool true] ∧ LV wq u0 ((limbs (tval 0 t))) ((tval 0 t)),
          fun vq wq => ∃ u0, vq = .tuple #[u0, .bool true] ∧ LV wq u0 ((limbs (tval 0 t))) ((tval 0 t)),
          fun vq wq => LV wq vq ((limbs (tval 0 t))) ((tval 0 t)),
          fun vq _ => vq = .bool true]) (by kernel_rfl) (by decide) ?hF ?steps ?fin
      case hF =>
        intro j hj; cases hj
      case steps =>
        refine AllOps.cons (Does.plain rfl fun lq aq wq hk hr K hK => ?_) ?_
        · have B0 : ev aq (.tmp 0) = .string U := hk.base 0 (by kernel_rfl) rfl
          exact wp_of_value (by go_simp) (hK.out _ _ (Grows.refl _) (fun w2 h2 => rfl) (fun h => absurd h (by decide)))
        refine AllOps.cons (Does.plain rfl fun lq aq wq hk hr K hK => ?_) ?_
        · obtain ⟨v0, E0, -, r0⟩ := hk.dep hr 0 19 (by kernel_rfl) (by kernel_rfl)
          replace E0 : ev aq (.tmp 19) = .string U := E0.trans (r0 wq (Grows.refl wq))
          refine wp_of_call (f := 57) (vs := #[.string U]) (by go_simp) (rparsen_v wq t hg (by first | omega | (simp; omega)) hz hU) ?_
          rintro e w1 ⟨u, rfl, hu, hb⟩
          exact ⟨u, rfl, hK.out _ _ hb (fun w2 h2 => (let ⟨u0, e0, h0⟩ := hu; ⟨u0, e0, (h0).grow h2⟩)) (fun h => absurd h (by decide))⟩
        refine AllOps.cons (Does.plain rfl fun lq aq wq hk hr K hK => ?_) ?_
        · obtain ⟨v1, E1, -, r1⟩ := hk.dep hr 1 20 (by kernel_rfl) (by kernel_rfl)
          have r1 : ∃ u0, v1 = .tuple #[u0, .bool true] ∧ LV wq u0 ((limbs (tval 0 t))) ((tval 0 t)) := r1 wq (Grows.refl wq)
          exact wp_of_value (by go_simp) (hK.out _ _ (Grows.refl _) (fun w2 h2 => (let ⟨u0, e0, h0⟩ := r1; ⟨u0, e0, (h0).grow h2⟩)) (fun h => absurd h (by decide)))
        refine AllOps.cons (Does.plain rfl fun lq aq wq hk hr K hK => ?_) ?_
        · obtain ⟨v2, E2, -, r2⟩ := hk.dep hr 2 18 (by kernel_rfl) (by kernel_rfl)
          have r2 : ∃ u0, v2 = .tuple #[u0, .bool true] ∧ LV wq u0 ((limbs (tval 0 t))) ((tval 0 t)) := r2 wq (Grows.refl wq)
          obtain ⟨u0, rfl, h0⟩ := r2
          exact wp_of_value (by go_simp) (hK.out _ _ (Grows.refl _) (fun w2 h2 => (h0).grow h2) (fun h => absurd h (by decide)))
        refine AllOps.cons (Does.plain rfl fun lq aq wq hk hr K hK => ?_) ?_
        · obtain ⟨v2, E2, -, r2⟩ := hk.dep hr 2 18 (by kernel_rfl) (by kernel_rfl)
          have r2 : ∃ u0, v2 = .tuple #[u0, .bool true] ∧ LV wq u0 ((limbs (tval 0 t))) ((tval 0 t)) := r2 wq (Grows.refl wq)
          obtain ⟨u0, rfl, h0⟩ := r2
          exact wp_of_value (by go_simp) (hK.out _ _ (Grows.refl _) (fun w2 h2 => rfl) (fun h => absurd h (by decide)))
        exact AllOps.nil
      case fin =>
        intro V x3 hG hV hap
        have r3 : LV x3 (V 3) ((limbs (tval 0 t))) ((tval 0 t)) := hV 3 (by decide)
        have r4 : (V 4) = .bool true := hV 4 (by decide)
        clear hV hap
        simp only [List.take_succ_cons, List.take_zero, List.drop_succ_cons, List.drop_zero, putAll, Act.put, List.setIfInBounds_toArray, List.set_cons_zero, List.set_cons_succ]
        have hb := (show Below _ _ _ from hG)
        replace DR := Lib.hid (Box2.below DR.out hb)
        replace HB := Lib.hid (HB.out.trans (Below.mono hb HB.out.size))
        clear hb hG
        rw [r4]
        clear r4
        obtain ⟨A5, c5, e5, q5⟩ := r3
        simp only [e5]
        rw [e5] at q5
        have Q5 := Lib.hid q5
        clear e5 q5
        have hlen : (limbs (tval 0 t)).length = 0 := by rw [h0, limbs_zero]; rfl
        have q5 := Q5.out
        rw [hlen] at q5 ⊢
        clear Q5
        go_upto_region 5 with fail
        refine wp_region_calm 10 [] ([fun vq _ => vq = .bool true,
            fun vq _ => vq = .bool false,
            fun vq _ => vq = .bool false,
            fun vq _ => vq = .bool true,
            fun vq _ => vq = .bool true,
            fun vq _ => vq = .slice A5 0 c5,
            fun vq _ => vq = .int .i64 0,
            fun vq _ => vq = .bool true,
            fun vq _ => vq = .bool true,
            fun vq _ => vq = .bool true]) (by kernel_rfl) (by decide) ?hF ?steps ?fin
        case hF =>
          intro j hj; cases hj
        case steps =>
          refine AllOps.cons (Does.plain rfl fun lq aq wq hk hr K hK => ?_) ?_
          · have B6 : ev aq (.tmp 6) = .bool true := hk.base 6 (by kernel_rfl) rfl
            exact wp_of_value (by go_simp) (hK.out _ _ (Grows.refl _) (fun w2 h2 => rfl) (fun h => absurd h (by decide)))
          refine AllOps.cons (Does.plain rfl fun lq aq wq hk hr K hK => ?_) ?_
          · obtain ⟨v0, E0, -, r0⟩ := hk.dep hr 0 23 (by kernel_rfl) (by kernel_rfl)
            replace E0 : ev aq (.tmp 23) = .bool true := E0.trans (r0 wq (Grows.refl wq))
            exact wp_of_value (by go_simp) (hK.out _ _ (Grows.refl _) (fun w2 h2 => rfl) (fun h => absurd h (by decide)))
          refine AllOps.cons (Does.plain rfl fun lq aq wq hk hr K hK => ?_) ?_
          · obtain ⟨v1, E1, -, r1⟩ := hk.dep hr 1 24 (by kernel_rfl) (by kernel_rfl)
            replace E1 : ev aq (.tmp 24) = .bool false := E1.trans (r1 wq (Grows.refl wq))
            exact wp_of_value (by go_simp) (hK.out _ _ (Grows.refl _) (fun w2 h2 => rfl) (fun h => absurd h (by decide)))
          refine AllOps.cons (Does.lets (g := 2) (d := 25) (t := false) rfl (by kernel_rfl) (by kernel_rfl) (fun vq wq h => h wq (Grows.refl wq)) fun lq aq wq hk hr K hK => ?_) ?_
          · have B4 : ev aq (.tmp 4) = .bool true := hk.base 4 (by kernel_rfl) rfl
            exact wp_of_value (by go_simp) (hK.out _ _ (Grows.refl _) (fun w2 h2 => rfl) (fun h => absurd h (by decide)))
          refine AllOps.cons (Does.lets (g := 2) (d := 25) (t := false) rfl (by kernel_rfl) (by kernel_rfl) (fun vq wq h => h wq (Grows.refl wq)) fun lq aq wq hk hr K hK => ?_) ?_
          · obtain ⟨v3, E3, -, r3⟩ := hk.dep hr 3 26 (by kernel_rfl) (by kernel_rfl)
            replace E3 : ev aq (.tmp 26) = .bool true := E3.trans (r3 wq (Grows.refl wq))
            exact wp_of_value (by go_simp) (hK.out _ _ (Grows.refl _) (fun w2 h2 => rfl) (fun h => absurd h (by decide)))
          refine AllOps.cons (Does.lets (g := 4) (d := 27) (t := true) rfl (by kernel_rfl) (by kernel_rfl) (fun vq wq h => h wq (Grows.refl wq)) fun lq aq wq hk hr K hK => ?_) ?_
          · have B5 : ev aq (.tmp 5) = .slice A5 0 c5 := hk.base 5 (by kernel_rfl) rfl
            exact wp_of_value (by go_simp) (hK.out _ _ (Grows.refl _) (fun w2 h2 => rfl) (fun h => absurd h (by decide)))
          refine AllOps.cons (Does.lets (g := 4) (d := 27) (t := true) rfl (by kernel_rfl) (by kernel_rfl) (fun vq wq h => h wq (Grows.refl wq)) fun lq aq wq hk hr K hK => ?_) ?_
          · obtain ⟨v5, E5, -, r5⟩ := hk.dep hr 5 28 (by kernel_rfl) (by kernel_rfl)
            replace E5 : ev aq (.tmp 28) = .slice A5 0 c5 := E5.trans (r5 wq (Grows.refl wq))
            exact wp_of_value (by go_simp) (hK.out _ _ (Grows.refl _) (fun w2 h2 => rfl) (fun h => absurd h (by decide)))
          refine AllOps.cons (Does.lets (g := 4) (d := 27) (t := true) rfl (by kernel_rfl) (by kernel_rfl) (fun vq wq h => h wq (Grows.refl wq)) fun lq aq wq hk hr K hK => ?_) ?_
          · obtain ⟨v6, E6, -, r6⟩ := hk.dep hr 6 29 (by kernel_rfl) (by kernel_rfl)
            replace E6 : ev aq (.tmp 29) = .int .i64 0 := E6.trans (r6 wq (Grows.refl wq))
            exact wp_of_value (by go_simp) (hK.out _ _ (Grows.refl _) (fun w2 h2 => rfl) (fun h => absurd h (by decide)))
          refine AllOps.cons (Does.lets (g := 2) (d := 25) (t := false) rfl (by kernel_rfl) (by kernel_rfl) (fun vq wq h => h wq (Grows.refl wq)) fun lq aq wq hk hr K hK => ?_) ?_
          · obtain ⟨v4, E4, -, r4⟩ := hk.dep hr 4 27 (by kernel_rfl) (by kernel_rfl)
            replace E4 : ev aq (.tmp 27) = .bool true := E4.trans (r4 wq (Grows.refl wq))
            obtain ⟨v7, E7, -, r7⟩ := hk.dep hr 7 30 (by kernel_rfl) (by kernel_rfl)
            replace E7 : ev aq (.tmp 30) = .bool true := E7.trans (r7 wq (Grows.refl wq))
            exact wp_of_value (by go_simp) (hK.out _ _ (Grows.refl _) (fun w2 h2 => rfl) (fun h => absurd h (by decide)))
          refine AllOps.cons (Does.plain rfl fun lq aq wq hk hr K hK => ?_) ?_
          · obtain ⟨v2, E2, -, r2⟩ := hk.dep hr 2 25 (by kernel_rfl) (by kernel_rfl)
            replace E2 : ev aq (.tmp 25) = .bool false := E2.trans (r2 wq (Grows.refl wq))
            obtain ⟨v8, E8, -, r8⟩ := hk.dep hr 8 31 (by kernel_rfl) (by kernel_rfl)
            replace E8 : ev aq (.tmp 31) = .bool true := E8.trans (r8 wq (Grows.refl wq))
            exact wp_of_value (by go_simp) (hK.out _ _ (Grows.refl _) (fun w2 h2 => rfl) (fun h => absurd h (by decide)))
          exact AllOps.nil
        case fin =>
          intro V x4 hG hV hap
          have r9 : (V 9) = .bool true := hV 9 (by decide)
          clear hV hap
          simp only [List.take_succ_cons, List.take_nil, List.drop_succ_cons, List.drop_nil, putAll, Act.put, List.setIfInBounds_toArray, List.set_cons_zero, List.set_cons_succ]
          have hb := (show Below _ _ _ from hG)
          replace DR := Lib.hid (Box2.below DR.out hb)
          replace HB := Lib.hid (HB.out.trans (Below.mono hb HB.out.size))
          clear hb hG
          rw [r9]
          clear r9
          go_upto_region 6 with fail
          refine wp_region_calm 1 [] ([fun vq wq => ZV wq vq 0]) (by kernel_rfl) (by decide) ?hF ?steps ?fin
          case hF =>
            intro j hj; cases hj
          case steps =>
            refine AllOps.cons (Does.plain rfl fun lq aq wq hk hr K hK => ?_) ?_
            · exact wp_of_value (by go_simp) (hK.out _ _ (Grows.refl _) (fun w2 h2 => (ZV.zero _ 0).grow h2) (fun h => absurd h (by decide)))
            exact AllOps.nil
          case fin =>
            intro V x5 hG hV hap
            have r0 : ZV x5 (V 0) 0 := hV 0 (by decide)
            clear hV hap
            simp only [List.take_succ_cons, List.take_zero, List.drop_succ_cons, List.drop_zero, putAll, Act.put, List.setIfInBounds_toArray, List.set_cons_zero, List.set_cons_succ]
            have hb := (show Below _ _ _ from hG)
            obtain ⟨nR, AR, kR, cR, eR, sR⟩ := r0
            simp only [eR]
            clear eR
            replace DR := Box2.below DR.out hb
            refine wpList_of_skip rfl (op_store 2 33 _ rfl rfl DR) ?_
            have sQ := sR.put DR (.bool nR) (.slice AR kR cR)
            have HQ := put2_below (u := .bool nR) (v := .slice AR kR cR) (HB.out.trans (Below.mono hb HB.out.size)) (show w.heap.size ≤ w.heap.size by omega)
            replace DR := put2_own (u := .bool nR) (v := .slice AR kR cR) DR
            clear hb hG sR HB
            generalize put2 x5 w.heap.size (.bool nR) (.slice AR kR cR) = y9 at *
            have c0 := DR.c0
            have c1 := DR.c1
            clear DR
            go_wp2_with fail
            refine bodyPost_ret (v := .tuple #[.agg #[.bool nR, .slice AR kR cR], .bool false]) (by simp [results, Tryd.results24, go_sem, c0, c1]) rfl ⟨_, rfl, ⟨_, rfl, ⟨_, _, _, _, rfl, sQ⟩⟩, HQ⟩
set_option maxHeartbeats 4000000 in
set_option maxRecDepth 100000 in
theorem rp_neg_yes (w : World) (t : List UInt8) (hg : goodText t = true) (h0 : tval 0 t ≠ 0) (hl : t.length ≤ 90000) (hz : sz (tval 0 t) ≤ 1000) : Calls Tryd.prog 24 #[.string ⟨(45 :: t).toArray⟩] w fun e w' => ∃ r, e = .returned r ∧ (∃ u0, r = .tuple #[u0, .bool true] ∧ ZV w' u0 (-(tval 0 t : Int))) ∧ Grows w w' := by
  obtain ⟨S, hS⟩ : ∃ S, ByteArray.mk (45 :: t).toArray = S := ⟨_, rfl⟩
  have hsz : S.size = t.length + 1 := by rw [← hS]; show (45 :: t).toArray.size = _; simp
  have hs0 : 0 < S.size := by omega
  have hc : ((S[0]'hs0).toNat : Int) = 45 := by subst hS; rfl
  obtain ⟨U, hU⟩ : ∃ U, ByteArray.mk t.toArray = U := ⟨_, rfl⟩
  have hext : S.extract 1 (t.length + 1) = U := by rw [← hS, ← hU]; exact ext_tail 45 t
  rw [hS]
  have hts : t.length ≤ 900000 := by omega
  obtain ⟨HB, DR⟩ := start1 w 24 (.bool false) (.slice none 0 0)
  replace HB := Lib.hid HB
  replace DR := Lib.hid DR
  go_enter Tryd.func24, Tryd.ntmps24
  go_upto_region 1 with fail
  generalize (w.alloc (.cells #[.bool false, .slice none 0 0] 24)) = x0 at *
  refine wp_region_calm 8 [] ([fun vq _ => vq = .string S,
      fun vq _ => vq = .int .i64 (t.length + 1),
      fun vq _ => vq = .bool true,
      fun vq _ => vq = .bool true,
      fun vq _ => vq = .string S,
      fun vq _ => vq = .int .u8 45,
      fun vq _ => vq = .bool true,
      fun vq _ => vq = .bool true]) (by kernel_rfl) (by decide) ?hF ?steps ?fin
  case hF =>
    intro j hj; cases hj
  case steps =>
    refine AllOps.cons (Does.plain rfl fun lq aq wq hk hr K hK => ?_) ?_
    · have B0 : ev aq (.tmp 0) = .string S := hk.base 0 (by kernel_rfl) rfl
      exact wp_of_value (by go_simp) (hK.out _ _ (Grows.refl _) (fun w2 h2 => rfl) (fun h => absurd h (by decide)))
    refine AllOps.cons (Does.plain rfl fun lq aq wq hk hr K hK => ?_) ?_
    · obtain ⟨v0, E0, -, r0⟩ := hk.dep hr 0 7 (by kernel_rfl) (by kernel_rfl)
      replace E0 : ev aq (.tmp 7) = .string S := E0.trans (r0 wq (Grows.refl wq))
      exact wp_of_value (by go_simp) (hK.out _ _ (Grows.refl _) (fun w2 h2 => rfl) (fun h => absurd h (by decide)))
    refine AllOps.cons (Does.plain rfl fun lq aq wq hk hr K hK => ?_) ?_
    · obtain ⟨v1, E1, -, r1⟩ := hk.dep hr 1 8 (by kernel_rfl) (by kernel_rfl)
      replace E1 : ev aq (.tmp 8) = .int .i64 (t.length + 1) := E1.trans (r1 wq (Grows.refl wq))
      exact wp_of_value (by go_simp) (hK.out _ _ (Grows.refl _) (fun w2 h2 => rfl) (fun h => absurd h (by decide)))
    refine AllOps.cons (Does.plain rfl fun lq aq wq hk hr K hK => ?_) ?_
    · obtain ⟨v2, E2, -, r2⟩ := hk.dep hr 2 9 (by kernel_rfl) (by kernel_rfl)
      replace E2 : ev aq (.tmp 9) = .bool true := E2.trans (r2 wq (Grows.refl wq))
      exact wp_of_value (by go_simp) (hK.out _ _ (Grows.refl _) (fun w2 h2 => rfl) (fun h => absurd h (by decide)))
    refine AllOps.cons (Does.lets (g := 3) (d := 10) (t := true) rfl (by kernel_rfl) (by kernel_rfl) (fun vq wq h => h wq (Grows.refl wq)) fun lq aq wq hk hr K hK => ?_) ?_
    · have B0 : ev aq (.tmp 0) = .string S := hk.base 0 (by kernel_rfl) rfl
      exact wp_of_value (by go_simp) (hK.out _ _ (Grows.refl _) (fun w2 h2 => rfl) (fun h => absurd h (by decide)))
    refine AllOps.cons (Does.lets (g := 3) (d := 10) (t := true) rfl (by kernel_rfl) (by kernel_rfl) (fun vq wq h => h wq (Grows.refl wq)) fun lq aq wq hk hr K hK => ?_) ?_
    · obtain ⟨v4, E4, -, r4⟩ := hk.dep hr 4 11 (by kernel_rfl) (by kernel_rfl)
      replace E4 : ev aq (.tmp 11) = .string S := E4.trans (r4 wq (Grows.refl wq))
      exact wp_of_value (by go_simp) (hK.out _ _ (Grows.refl _) (fun w2 h2 => rfl) (fun h => absurd h (by decide)))
    refine AllOps.cons (Does.lets (g := 3) (d := 10) (t := true) rfl (by kernel_rfl) (by kernel_rfl) (fun vq wq h => h wq (Grows.refl wq)) fun lq aq wq hk hr K hK => ?_) ?_
    · obtain ⟨v5, E5, -, r5⟩ := hk.dep hr 5 12 (by kernel_rfl) (by kernel_rfl)
      replace E5 : ev aq (.tmp 12) = .int .u8 45 := E5.trans (r5 wq (Grows.refl wq))
      exact wp_of_value (by go_simp) (hK.out _ _ (Grows.refl _) (fun w2 h2 => rfl) (fun h => absurd h (by decide)))
    refine AllOps.cons (Does.plain rfl fun lq aq wq hk hr K hK => ?_) ?_
    · obtain ⟨v3, E3, -, r3⟩ := hk.dep hr 3 10 (by kernel_rfl) (by kernel_rfl)
      replace E3 : ev aq (.tmp 10) = .bool true := E3.trans (r3 wq (Grows.refl wq))
      obtain ⟨v6, E6, -, r6⟩ := hk.dep hr 6 13 (by kernel_rfl) (by kernel_rfl)
      replace E6 : ev aq (.tmp 13) = .bool true := E6.trans (r6 wq (Grows.refl wq))
      exact wp_of_value (by go_simp) (hK.out _ _ (Grows.refl _) (fun w2 h2 => rfl) (fun h => absurd h (by decide)))
    exact AllOps.nil
  case fin =>
    intro V x1 hG hV hap
    have r0 : (V 0) = .string S := hV 0 (by decide)
    have r7 : (V 7) = .bool true := hV 7 (by decide)
    clear hV hap
    simp only [List.take_succ_cons, List.take_zero, List.drop_succ_cons, List.drop_zero, putAll, Act.put, List.setIfInBounds_toArray, List.set_cons_zero, List.set_cons_succ]
    have hb := (show Below _ _ _ from hG)
    replace DR := Lib.hid (Box2.below DR.out hb)
    replace HB := Lib.hid (HB.out.trans (Below.mono hb HB.out.size))
    clear hb hG
    rw [r7]
    clear r7
    go_upto_region 3 with fail
    refine wp_region_calm 2 [] ([fun vq _ => vq = .string S,
        fun vq _ => vq = .string U]) (by kernel_rfl) (by decide) ?hF ?steps ?fin
    case hF =>
      intro j hj; cases hj
    case steps =>
      refine AllOps.cons (Does.plain rfl fun lq aq wq hk hr K hK => ?_) ?_
      · have B0 : ev aq (.tmp 0) = .string S := hk.base 0 (by kernel_rfl) rfl
        exact wp_of_value (by go_simp) (hK.out _ _ (Grows.refl _) (fun w2 h2 => rfl) (fun h => absurd h (by decide)))
      refine AllOps.cons (Does.plain rfl fun lq aq wq hk hr K hK => ?_) ?_
      · obtain ⟨v0, E0, -, r0⟩ := hk.dep hr 0 16 (by kernel_rfl) (by kernel_rfl)
        replace E0 : ev aq (.tmp 16) = .string S := E0.trans (r0 wq (Grows.refl wq))
        exact wp_of_value (by go_simp; intro h; omega) (hK.out _ _ (Grows.refl _) (fun w2 h2 => rfl) (fun h => absurd h (by decide)))
      exact AllOps.nil
    case fin =>
      intro V x2 hG hV hap
      have r1 : (V 1) = .string U := hV 1 (by decide)
      clear hV hap
      simp only [List.take_succ_cons, List.take_zero, List.drop_succ_cons, List.drop_zero, putAll, Act.put, List.setIfInBounds_toArray, List.set_cons_zero, List.set_cons_succ]
      have hb := (show Below _ _ _ from hG)
      replace DR := Lib.hid (Box2.below DR.out hb)
      replace HB := Lib.hid (HB.out.trans (Below.mono hb HB.out.size))
      clear hb hG
      rw [r1]
      clear r1
      go_upto_region 4 with fail
      refine wp_region_calm 5 [] ([fun vq _ => vq = .string U,
          fun vq wq => ∃ u0, vq = .tuple #[u0, .bool true] ∧ LV wq u0 ((limbs (tval 0 t))) ((tval 0 t)),
          fun vq wq => ∃ u0, vq = .tuple #[u0, .bool true] ∧ LV wq u0 ((limbs (tval 0 t))) ((tval 0 t)),
          fun vq wq => LV wq vq ((limbs (tval 0 t))) ((tval 0 t)),
          fun vq _ => vq = .bool true]) (by kernel_rfl) (by decide) ?hF ?steps ?fin
      case hF =>
        intro j hj; cases hj
      case steps =>
        refine AllOps.cons (Does.plain rfl fun lq aq wq hk hr K hK => ?_) ?_
        · have B0 : ev aq (.tmp 0) = .string U := hk.base 0 (by kernel_rfl) rfl
          exact wp_of_value (by go_simp) (hK.out _ _ (Grows.refl _) (fun w2 h2 => rfl) (fun h => absurd h (by decide)))
        refine AllOps.cons (Does.plain rfl fun lq aq wq hk hr K hK => ?_) ?_
        · obtain ⟨v0, E0, -, r0⟩ := hk.dep hr 0 19 (by kernel_rfl) (by kernel_rfl)
          replace E0 : ev aq (.tmp 19) = .string U := E0.trans (r0 wq (Grows.refl wq))
          refine wp_of_call (f := 57) (vs := #[.string U]) (by go_simp) (rparsen_v wq t hg (by first | omega | (simp; omega)) hz hU) ?_
          rintro e w1 ⟨u, rfl, hu, hb⟩
          exact ⟨u, rfl, hK.out _ _ hb (fun w2 h2 => (let ⟨u0, e0, h0⟩ := hu; ⟨u0, e0, (h0).grow h2⟩)) (fun h => absurd h (by decide))⟩
        refine AllOps.cons (Does.plain rfl fun lq aq wq hk hr K hK => ?_) ?_
        · obtain ⟨v1, E1, -, r1⟩ := hk.dep hr 1 20 (by kernel_rfl) (by kernel_rfl)
          have r1 : ∃ u0, v1 = .tuple #[u0, .bool true] ∧ LV wq u0 ((limbs (tval 0 t))) ((tval 0 t)) := r1 wq (Grows.refl wq)
          exact wp_of_value (by go_simp) (hK.out _ _ (Grows.refl _) (fun w2 h2 => (let ⟨u0, e0, h0⟩ := r1; ⟨u0, e0, (h0).grow h2⟩)) (fun h => absurd h (by decide)))
        refine AllOps.cons (Does.plain rfl fun lq aq wq hk hr K hK => ?_) ?_
        · obtain ⟨v2, E2, -, r2⟩ := hk.dep hr 2 18 (by kernel_rfl) (by kernel_rfl)
          have r2 : ∃ u0, v2 = .tuple #[u0, .bool true] ∧ LV wq u0 ((limbs (tval 0 t))) ((tval 0 t)) := r2 wq (Grows.refl wq)
          obtain ⟨u0, rfl, h0⟩ := r2
          exact wp_of_value (by go_simp) (hK.out _ _ (Grows.refl _) (fun w2 h2 => (h0).grow h2) (fun h => absurd h (by decide)))
        refine AllOps.cons (Does.plain rfl fun lq aq wq hk hr K hK => ?_) ?_
        · obtain ⟨v2, E2, -, r2⟩ := hk.dep hr 2 18 (by kernel_rfl) (by kernel_rfl)
          have r2 : ∃ u0, v2 = .tuple #[u0, .bool true] ∧ LV wq u0 ((limbs (tval 0 t))) ((tval 0 t)) := r2 wq (Grows.refl wq)
          obtain ⟨u0, rfl, h0⟩ := r2
          exact wp_of_value (by go_simp) (hK.out _ _ (Grows.refl _) (fun w2 h2 => rfl) (fun h => absurd h (by decide)))
        exact AllOps.nil
      case fin =>
        intro V x3 hG hV hap
        have r3 : LV x3 (V 3) ((limbs (tval 0 t))) ((tval 0 t)) := hV 3 (by decide)
        have r4 : (V 4) = .bool true := hV 4 (by decide)
        clear hV hap
        simp only [List.take_succ_cons, List.take_zero, List.drop_succ_cons, List.drop_zero, putAll, Act.put, List.setIfInBounds_toArray, List.set_cons_zero, List.set_cons_succ]
        have hb := (show Below _ _ _ from hG)
        replace DR := Lib.hid (Box2.below DR.out hb)
        replace HB := Lib.hid (HB.out.trans (Below.mono hb HB.out.size))
        clear hb hG
        rw [r4]
        clear r4
        obtain ⟨A5, c5, e5, q5⟩ := r3
        simp only [e5]
        rw [e5] at q5
        have Q5 := Lib.hid q5
        clear e5 q5
        obtain ⟨k, hlen⟩ : ∃ k, (limbs (tval 0 t)).length = k + 1 := ⟨(limbs (tval 0 t)).length - 1, by rw [limbs_pos (by omega)]; simp⟩
        have hk9 : k < 1000 := by unfold sz at hz; omega
        have q5 := Q5.out
        rw [hlen] at q5 ⊢
        clear Q5
        have Q5 := Lib.hid q5
        clear q5
        go_upto_region 5 with fail
        refine wp_region_calm 10 [] ([fun vq _ => vq = .bool true,
            fun vq _ => vq = .bool false,
            fun vq _ => vq = .bool false,
            fun vq _ => vq = .bool true,
            fun vq _ => vq = .bool true,
            fun vq _ => vq = .slice A5 (k + 1) c5,
            fun vq _ => vq = .int .i64 (k + 1),
            fun vq _ => vq = .bool false,
            fun vq _ => vq = .bool false,
            fun vq _ => vq = .bool false]) (by kernel_rfl) (by decide) ?hF ?steps ?fin
        case hF =>
          intro j hj; cases hj
        case steps =>
          refine AllOps.cons (Does.plain rfl fun lq aq wq hk hr K hK => ?_) ?_
          · have B6 : ev aq (.tmp 6) = .bool true := hk.base 6 (by kernel_rfl) rfl
            exact wp_of_value (by go_simp) (hK.out _ _ (Grows.refl _) (fun w2 h2 => rfl) (fun h => absurd h (by decide)))
          refine AllOps.cons (Does.plain rfl fun lq aq wq hk hr K hK => ?_) ?_
          · obtain ⟨v0, E0, -, r0⟩ := hk.dep hr 0 23 (by kernel_rfl) (by kernel_rfl)
            replace E0 : ev aq (.tmp 23) = .bool true := E0.trans (r0 wq (Grows.refl wq))
            exact wp_of_value (by go_simp) (hK.out _ _ (Grows.refl _) (fun w2 h2 => rfl) (fun h => absurd h (by decide)))
          refine AllOps.cons (Does.plain rfl fun lq aq wq hk hr K hK => ?_) ?_
          · obtain ⟨v1, E1, -, r1⟩ := hk.dep hr 1 24 (by kernel_rfl) (by kernel_rfl)
            replace E1 : ev aq (.tmp 24) = .bool false := E1.trans (r1 wq (Grows.refl wq))
            exact wp_of_value (by go_simp) (hK.out _ _ (Grows.refl _) (fun w2 h2 => rfl) (fun h => absurd h (by decide)))
          refine AllOps.cons (Does.lets (g := 2) (d := 25) (t := false) rfl (by kernel_rfl) (by kernel_rfl) (fun vq wq h => h wq (Grows.refl wq)) fun lq aq wq hk hr K hK => ?_) ?_
          · have B4 : ev aq (.tmp 4) = .bool true := hk.base 4 (by kernel_rfl) rfl
            exact wp_of_value (by go_simp) (hK.out _ _ (Grows.refl _) (fun w2 h2 => rfl) (fun h => absurd h (by decide)))
          refine AllOps.cons (Does.lets (g := 2) (d := 25) (t := false) rfl (by kernel_rfl) (by kernel_rfl) (fun vq wq h => h wq (Grows.refl wq)) fun lq aq wq hk hr K hK => ?_) ?_
          · obtain ⟨v3, E3, -, r3⟩ := hk.dep hr 3 26 (by kernel_rfl) (by kernel_rfl)
            replace E3 : ev aq (.tmp 26) = .bool true := E3.trans (r3 wq (Grows.refl wq))
            exact wp_of_value (by go_simp) (hK.out _ _ (Grows.refl _) (fun w2 h2 => rfl) (fun h => absurd h (by decide)))
          refine AllOps.cons (Does.lets (g := 4) (d := 27) (t := true) rfl (by kernel_rfl) (by kernel_rfl) (fun vq wq h => h wq (Grows.refl wq)) fun lq aq wq hk hr K hK => ?_) ?_
          · have B5 : ev aq (.tmp 5) = .slice A5 (k + 1) c5 := hk.base 5 (by kernel_rfl) rfl
            exact wp_of_value (by go_simp) (hK.out _ _ (Grows.refl _) (fun w2 h2 => rfl) (fun h => absurd h (by decide)))
          refine AllOps.cons (Does.lets (g := 4) (d := 27) (t := true) rfl (by kernel_rfl) (by kernel_rfl) (fun vq wq h => h wq (Grows.refl wq)) fun lq aq wq hk hr K hK => ?_) ?_
          · obtain ⟨v5, E5, -, r5⟩ := hk.dep hr 5 28 (by kernel_rfl) (by kernel_rfl)
            replace E5 : ev aq (.tmp 28) = .slice A5 (k + 1) c5 := E5.trans (r5 wq (Grows.refl wq))
            exact wp_of_value (by go_simp) (hK.out _ _ (Grows.refl _) (fun w2 h2 => rfl) (fun h => absurd h (by decide)))
          refine AllOps.cons (Does.lets (g := 4) (d := 27) (t := true) rfl (by kernel_rfl) (by kernel_rfl) (fun vq wq h => h wq (Grows.refl wq)) fun lq aq wq hk hr K hK => ?_) ?_
          · obtain ⟨v6, E6, -, r6⟩ := hk.dep hr 6 29 (by kernel_rfl) (by kernel_rfl)
            replace E6 : ev aq (.tmp 29) = .int .i64 (k + 1) := E6.trans (r6 wq (Grows.refl wq))
            exact wp_of_value (by go_simp; omega) (hK.out _ _ (Grows.refl _) (fun w2 h2 => rfl) (fun h => absurd h (by decide)))
          refine AllOps.cons (Does.lets (g := 2) (d := 25) (t := false) rfl (by kernel_rfl) (by kernel_rfl) (fun vq wq h => h wq (Grows.refl wq)) fun lq aq wq hk hr K hK => ?_) ?_
          · obtain ⟨v4, E4, -, r4⟩ := hk.dep hr 4 27 (by kernel_rfl) (by kernel_rfl)
            replace E4 : ev aq (.tmp 27) = .bool true := E4.trans (r4 wq (Grows.refl wq))
            obtain ⟨v7, E7, -, r7⟩ := hk.dep hr 7 30 (by kernel_rfl) (by kernel_rfl)
            replace E7 : ev aq (.tmp 30) = .bool false := E7.trans (r7 wq (Grows.refl wq))
            exact wp_of_value (by go_simp) (hK.out _ _ (Grows.refl _) (fun w2 h2 => rfl) (fun h => absurd h (by decide)))
          refine AllOps.cons (Does.plain rfl fun lq aq wq hk hr K hK => ?_) ?_
          · obtain ⟨v2, E2, -, r2⟩ := hk.dep hr 2 25 (by kernel_rfl) (by kernel_rfl)
            replace E2 : ev aq (.tmp 25) = .bool false := E2.trans (r2 wq (Grows.refl wq))
            obtain ⟨v8, E8, -, r8⟩ := hk.dep hr 8 31 (by kernel_rfl) (by kernel_rfl)
            replace E8 : ev aq (.tmp 31) = .bool false := E8.trans (r8 wq (Grows.refl wq))
            exact wp_of_value (by go_simp) (hK.out _ _ (Grows.refl _) (fun w2 h2 => rfl) (fun h => absurd h (by decide)))
          exact AllOps.nil
        case fin =>
          intro V x4 hG hV hap
          have r9 : (V 9) = .bool false := hV 9 (by decide)
          clear hV hap
          simp only [List.take_succ_cons, List.take_nil, List.drop_succ_cons, List.drop_nil, putAll, Act.put, List.setIfInBounds_toArray, List.set_cons_zero, List.set_cons_succ]
          have hb := (show Below _ _ _ from hG)
          replace DR := Lib.hid (Box2.below DR.out hb)
          replace Q5 := Lib.hid (Q5.out.below hb)
          replace HB := Lib.hid (HB.out.trans (Below.mono hb HB.out.size))
          clear hb hG
          rw [r9]
          clear r9
          go_upto_region 7 with fail
          refine wp_region_calm 3 [] ([fun vq _ => vq = .bool true,
              fun vq _ => vq = .slice A5 (k + 1) c5,
              fun vq wq => ZV wq vq ((-(tval 0 t : Int)))]) (by kernel_rfl) (by decide) ?hF ?steps ?fin
          case hF =>
            intro j hj; cases hj
          case steps =>
            refine AllOps.cons (Does.plain rfl fun lq aq wq hk hr K hK => ?_) ?_
            · have B4 : ev aq (.tmp 4) = .bool true := hk.base 4 (by kernel_rfl) rfl
              exact wp_of_value (by go_simp) (hK.out _ _ (Grows.refl _) (fun w2 h2 => rfl) (fun h => absurd h (by decide)))
            refine AllOps.cons (Does.plain rfl fun lq aq wq hk hr K hK => ?_) ?_
            · have B5 : ev aq (.tmp 5) = .slice A5 (k + 1) c5 := hk.base 5 (by kernel_rfl) rfl
              exact wp_of_value (by go_simp) (hK.out _ _ (Grows.refl _) (fun w2 h2 => rfl) (fun h => absurd h (by decide)))
            refine AllOps.cons (Does.plain rfl fun lq aq wq hk hr K hK => ?_) ?_
            · obtain ⟨v0, E0, -, r0⟩ := hk.dep hr 0 34 (by kernel_rfl) (by kernel_rfl)
              replace E0 : ev aq (.tmp 34) = .bool true := E0.trans (r0 wq (Grows.refl wq))
              obtain ⟨v1, E1, -, r1⟩ := hk.dep hr 1 35 (by kernel_rfl) (by kernel_rfl)
              replace E1 : ev aq (.tmp 35) = .slice A5 (k + 1) c5 := E1.trans (r1 wq (Grows.refl wq))
              refine wp_of_call (f := 49) (vs := #[.bool true, .slice A5 (k + 1) c5]) (by go_simp) (rof_v wq true (Q5.out.below hk.ext).lv hz rfl (by show sz (sg _ _).natAbs ≤ 1000; rw [sg_natAbs]; exact hz)) ?_
              rintro e w1 ⟨u, rfl, hu, hb⟩
              exact ⟨u, rfl, hK.out _ _ hb (fun w2 h2 => (hu).grow h2) (fun h => absurd h (by decide))⟩
            exact AllOps.nil
          case fin =>
            intro V x5 hG hV hap
            have r2 : ZV x5 (V 2) ((-(tval 0 t : Int))) := hV 2 (by decide)
            clear hV hap
            simp only [List.take_succ_cons, List.take_zero, List.drop_succ_cons, List.drop_zero, putAll, Act.put, List.setIfInBounds_toArray, List.set_cons_zero, List.set_cons_succ]
            have hb := (show Below _ _ _ from hG)
            obtain ⟨nR, AR, kR, cR, eR, sR⟩ := r2
            simp only [eR]
            clear eR
            replace DR := Box2.below DR.out hb
            refine wpList_of_skip rfl (op_store 2 36 _ rfl rfl DR) ?_
            have sQ := sR.put DR (.bool nR) (.slice AR kR cR)
            have HQ := put2_below (u := .bool nR) (v := .slice AR kR cR) (HB.out.trans (Below.mono hb HB.out.size)) (show w.heap.size ≤ w.heap.size by omega)
            replace DR := put2_own (u := .bool nR) (v := .slice AR kR cR) DR
            clear hb hG sR HB
            generalize put2 x5 w.heap.size (.bool nR) (.slice AR kR cR) = y9 at *
            have c0 := DR.c0
            have c1 := DR.c1
            clear DR
            go_wp2_with fail
            refine bodyPost_ret (v := .tuple #[.agg #[.bool nR, .slice AR kR cR], .bool true]) (by simp [results, Tryd.results24, go_sem, c0, c1]) rfl ⟨_, rfl, ⟨_, rfl, ⟨_, _, _, _, rfl, sQ⟩⟩, HQ⟩
set_option maxHeartbeats 4000000 in
set_option maxRecDepth 100000 in
theorem rp_pos_bad (w : World) (c : UInt8) (t : List UInt8) (hne : c ≠ 45) (hg : goodText (c :: t) = false) (hl : t.length ≤ 90000) : Calls Tryd.prog 24 #[.string ⟨(c :: t).toArray⟩] w fun e w' => ∃ r, e = .returned r ∧ (∃ u0, r = .tuple #[u0, .bool false] ∧ ZV w' u0 0) ∧ Grows w w' := by
  obtain ⟨S, hS⟩ : ∃ S, ByteArray.mk (c :: t).toArray = S := ⟨_, rfl⟩
  have hsz : S.size = t.length + 1 := by rw [← hS]; show (c :: t).toArray.size = _; simp
  have hs0 : 0 < S.size := by omega
  obtain ⟨j, hj⟩ : ∃ j : Int, (c.toNat : Int) = j := ⟨_, rfl⟩
  have hj5 : (j == 45) = false := by
    rw [beq_eq_false_iff_ne, ← hj]
    intro h
    exact hne (by apply UInt8.toNat_inj.1; have : (45 : UInt8).toNat = 45 := rfl; omega)
  have hc : ((S[0]'hs0).toNat : Int) = j := by subst hS; exact hj
  rw [hS]
  have hts : t.length ≤ 900000 := by omega
  obtain ⟨HB, DR⟩ := start1 w 24 (.bool false) (.slice none 0 0)
  replace HB := Lib.hid HB
  replace DR := Lib.hid DR
  go_enter Tryd.func24, Tryd.ntmps24
  go_upto_region 1 with fail
  generalize (w.alloc (.cells #[.bool false, .slice none 0 0] 24)) = x0 at *
  refine wp_region_calm 8 [] ([fun vq _ => vq = .string S,
      fun vq _ => vq = .int .i64 (t.length + 1),
      fun vq _ => vq = .bool true,
      fun vq _ => vq = .bool true,
      fun vq _ => vq = .string S,
      fun vq _ => vq = .int .u8 j,
      fun vq _ => vq = .bool false,
      fun vq _ => vq = .bool false]) (by kernel_rfl) (by decide) ?hF ?steps ?fin
  case hF =>
    intro j hj; cases hj
  case steps =>
    refine AllOps.cons (Does.plain rfl fun lq aq wq hk hr K hK => ?_) ?_
    · have B0 : ev aq (.tmp 0) = .string S := hk.base 0 (by kernel_rfl) rfl
      exact wp_of_value (by go_simp) (hK.out _ _ (Grows.refl _) (fun w2 h2 => rfl) (fun h => absurd h (by decide)))
    refine AllOps.cons (Does.plain rfl fun lq aq wq hk hr K hK => ?_) ?_
    · obtain ⟨v0, E0, -, r0⟩ := hk.dep hr 0 7 (by kernel_rfl) (by kernel_rfl)
      replace E0 : ev aq (.tmp 7) = .string S := E0.trans (r0 wq (Grows.refl wq))
      exact wp_of_value (by go_simp) (hK.out _ _ (Grows.refl _) (fun w2 h2 => rfl) (fun h => absurd h (by decide)))
    refine AllOps.cons (Does.plain rfl fun lq aq wq hk hr K hK => ?_) ?_
    · obtain ⟨v1, E1, -, r1⟩ := hk.dep hr 1 8 (by kernel_rfl) (by kernel_rfl)
      replace E1 : ev aq (.tmp 8) = .int .i64 (t.length + 1) := E1.trans (r1 wq (Grows.refl wq))
      exact wp_of_value (by go_simp) (hK.out _ _ (Grows.refl _) (fun w2 h2 => rfl) (fun h => absurd h (by decide)))
    refine AllOps.cons (Does.plain rfl fun lq aq wq hk hr K hK => ?_) ?_
    · obtain ⟨v2, E2, -, r2⟩ := hk.dep hr 2 9 (by kernel_rfl) (by kernel_rfl)
      replace E2 : ev aq (.tmp 9) = .bool true := E2.trans (r2 wq (Grows.refl wq))
      exact wp_of_value (by go_simp) (hK.out _ _ (Grows.refl _) (fun w2 h2 => rfl) (fun h => absurd h (by decide)))
    refine AllOps.cons (Does.lets (g := 3) (d := 10) (t := true) rfl (by kernel_rfl) (by kernel_rfl) (fun vq wq h => h wq (Grows.refl wq)) fun lq aq wq hk hr K hK => ?_) ?_
    · have B0 : ev aq (.tmp 0) = .string S := hk.base 0 (by kernel_rfl) rfl
      exact wp_of_value (by go_simp) (hK.out _ _ (Grows.refl _) (fun w2 h2 => rfl) (fun h => absurd h (by decide)))
    refine AllOps.cons (Does.lets (g := 3) (d := 10) (t := true) rfl (by kernel_rfl) (by kernel_rfl) (fun vq wq h => h wq (Grows.refl wq)) fun lq aq wq hk hr K hK => ?_) ?_
    · obtain ⟨v4, E4, -, r4⟩ := hk.dep hr 4 11 (by kernel_rfl) (by kernel_rfl)
      replace E4 : ev aq (.tmp 11) = .string S := E4.trans (r4 wq (Grows.refl wq))
      exact wp_of_value (by go_simp) (hK.out _ _ (Grows.refl _) (fun w2 h2 => rfl) (fun h => absurd h (by decide)))
    refine AllOps.cons (Does.lets (g := 3) (d := 10) (t := true) rfl (by kernel_rfl) (by kernel_rfl) (fun vq wq h => h wq (Grows.refl wq)) fun lq aq wq hk hr K hK => ?_) ?_
    · obtain ⟨v5, E5, -, r5⟩ := hk.dep hr 5 12 (by kernel_rfl) (by kernel_rfl)
      replace E5 : ev aq (.tmp 12) = .int .u8 j := E5.trans (r5 wq (Grows.refl wq))
      exact wp_of_value (by go_simp) (hK.out _ _ (Grows.refl _) (fun w2 h2 => rfl) (fun h => absurd h (by decide)))
    refine AllOps.cons (Does.plain rfl fun lq aq wq hk hr K hK => ?_) ?_
    · obtain ⟨v3, E3, -, r3⟩ := hk.dep hr 3 10 (by kernel_rfl) (by kernel_rfl)
      replace E3 : ev aq (.tmp 10) = .bool true := E3.trans (r3 wq (Grows.refl wq))
      obtain ⟨v6, E6, -, r6⟩ := hk.dep hr 6 13 (by kernel_rfl) (by kernel_rfl)
      replace E6 : ev aq (.tmp 13) = .bool false := E6.trans (r6 wq (Grows.refl wq))
      exact wp_of_value (by go_simp) (hK.out _ _ (Grows.refl _) (fun w2 h2 => rfl) (fun h => absurd h (by decide)))
    exact AllOps.nil
  case fin =>
    intro V x1 hG hV hap
    have r0 : (V 0) = .string S := hV 0 (by decide)
    have r7 : (V 7) = .bool false := hV 7 (by decide)
    clear hV hap
    simp only [List.take_succ_cons, List.take_zero, List.drop_succ_cons, List.drop_zero, putAll, Act.put, List.setIfInBounds_toArray, List.set_cons_zero, List.set_cons_succ]
    have hb := (show Below _ _ _ from hG)
    replace DR := Lib.hid (Box2.below DR.out hb)
    replace HB := Lib.hid (HB.out.trans (Below.mono hb HB.out.size))
    clear hb hG
    rw [r7]
    clear r7
    go_upto_region 4 with fail
    refine wp_region_calm 5 [] ([fun vq _ => vq = .string S,
        fun vq wq => vq = .tuple #[.slice none 0 0, .bool false],
        fun vq wq => vq = .tuple #[.slice none 0 0, .bool false],
        fun vq _ => vq = .slice none 0 0,
        fun vq _ => vq = .bool false]) (by kernel_rfl) (by decide) ?hF ?steps ?fin
    case hF =>
      intro j hj; cases hj
    case steps =>
      refine AllOps.cons (Does.plain rfl fun lq aq wq hk hr K hK => ?_) ?_
      · have B0 : ev aq (.tmp 0) = .string S := hk.base 0 (by kernel_rfl) rfl
        exact wp_of_value (by go_simp) (hK.out _ _ (Grows.refl _) (fun w2 h2 => rfl) (fun h => absurd h (by decide)))
      refine AllOps.cons (Does.plain rfl fun lq aq wq hk hr K hK => ?_) ?_
      · obtain ⟨v0, E0, -, r0⟩ := hk.dep hr 0 19 (by kernel_rfl) (by kernel_rfl)
        replace E0 : ev aq (.tmp 19) = .string S := E0.trans (r0 wq (Grows.refl wq))
        refine wp_of_call (f := 57) (vs := #[.string S]) (by go_simp) (rparsen_no_v wq (c :: t) hg (by first | omega | (simp; omega) | simp) hS) ?_
        rintro e w1 ⟨u, rfl, hu, hb⟩
        exact ⟨u, rfl, hK.out _ _ hb (fun w2 h2 => hu) (fun h => absurd h (by decide))⟩
      refine AllOps.cons (Does.plain rfl fun lq aq wq hk hr K hK => ?_) ?_
      · obtain ⟨v1, E1, -, r1⟩ := hk.dep hr 1 20 (by kernel_rfl) (by kernel_rfl)
        have r1 : v1 = .tuple #[.slice none 0 0, .bool false] := r1 wq (Grows.refl wq)
        exact wp_of_value (by go_simp) (hK.out _ _ (Grows.refl _) (fun w2 h2 => r1) (fun h => absurd h (by decide)))
      refine AllOps.cons (Does.plain rfl fun lq aq wq hk hr K hK => ?_) ?_
      · obtain ⟨v2, E2, -, r2⟩ := hk.dep hr 2 18 (by kernel_rfl) (by kernel_rfl)
        have r2 : v2 = .tuple #[.slice none 0 0, .bool false] := r2 wq (Grows.refl wq)
        obtain ⟨rfl⟩ := r2
        exact wp_of_value (by go_simp) (hK.out _ _ (Grows.refl _) (fun w2 h2 => rfl) (fun h => absurd h (by decide)))
      refine AllOps.cons (Does.plain rfl fun lq aq wq hk hr K hK => ?_) ?_
      · obtain ⟨v2, E2, -, r2⟩ := hk.dep hr 2 18 (by kernel_rfl) (by kernel_rfl)
        have r2 : v2 = .tuple #[.slice none 0 0, .bool false] := r2 wq (Grows.refl wq)
        obtain ⟨rfl⟩ := r2
        exact wp_of_value (by go_simp) (hK.out _ _ (Grows.refl _) (fun w2 h2 => rfl) (fun h => absurd h (by decide)))
      exact AllOps.nil
    case fin =>
      intro V x2 hG hV hap
      have r3 : (V 3) = .slice none 0 0 := hV 3 (by decide)
      have r4 : (V 4) = .bool false := hV 4 (by decide)
      clear hV hap
      simp only [List.take_succ_cons, List.take_zero, List.drop_succ_cons, List.drop_zero, putAll, Act.put, List.setIfInBounds_toArray, List.set_cons_zero, List.set_cons_succ]
      have hb := (show Below _ _ _ from hG)
      replace DR := Lib.hid (Box2.below DR.out hb)
      replace HB := Lib.hid (HB.out.trans (Below.mono hb HB.out.size))
      clear hb hG
      rw [r3, r4]
      clear r3 r4
      go_upto_region 5 with fail
      refine wp_region_calm 10 [] ([fun vq _ => vq = .bool false,
          fun vq _ => vq = .bool true,
          fun vq _ => vq = .bool true,
          fun vq _ => vq = undef,
          fun vq _ => vq = undef,
          fun vq _ => vq = undef,
          fun vq _ => vq = undef,
          fun vq _ => vq = undef,
          fun vq _ => vq = undef,
          fun vq _ => vq = .bool true]) (by kernel_rfl) (by decide) ?hF ?steps ?fin
      case hF =>
        intro j hj; cases hj
      case steps =>
        refine AllOps.cons (Does.plain rfl fun lq aq wq hk hr K hK => ?_) ?_
        · have B6 : ev aq (.tmp 6) = .bool false := hk.base 6 (by kernel_rfl) rfl
          exact wp_of_value (by go_simp) (hK.out _ _ (Grows.refl _) (fun w2 h2 => rfl) (fun h => absurd h (by decide)))
        refine AllOps.cons (Does.plain rfl fun lq aq wq hk hr K hK => ?_) ?_
        · obtain ⟨v0, E0, -, r0⟩ := hk.dep hr 0 23 (by kernel_rfl) (by kernel_rfl)
          replace E0 : ev aq (.tmp 23) = .bool false := E0.trans (r0 wq (Grows.refl wq))
          exact wp_of_value (by go_simp) (hK.out _ _ (Grows.refl _) (fun w2 h2 => rfl) (fun h => absurd h (by decide)))
        refine AllOps.cons (Does.plain rfl fun lq aq wq hk hr K hK => ?_) ?_
        · obtain ⟨v1, E1, -, r1⟩ := hk.dep hr 1 24 (by kernel_rfl) (by kernel_rfl)
          replace E1 : ev aq (.tmp 24) = .bool true := E1.trans (r1 wq (Grows.refl wq))
          exact wp_of_value (by go_simp) (hK.out _ _ (Grows.refl _) (fun w2 h2 => rfl) (fun h => absurd h (by decide)))
        refine AllOps.cons (Does.bars (g := 2) (d := 25) (t := false) (u := true) rfl (by kernel_rfl) (by kernel_rfl) (fun vq wq h => h wq (Grows.refl wq)) (by decide) (fun _ _ _ => rfl) rfl) ?_
        refine AllOps.cons (Does.bars (g := 2) (d := 25) (t := false) (u := true) rfl (by kernel_rfl) (by kernel_rfl) (fun vq wq h => h wq (Grows.refl wq)) (by decide) (fun _ _ _ => rfl) rfl) ?_
        refine AllOps.cons (Does.undone (g := 4) (d := 27) (t := true) rfl (by kernel_rfl) (by kernel_rfl) (fun vq wq h => h wq (Grows.refl wq)) (fun _ _ _ => rfl) rfl) ?_
        refine AllOps.cons (Does.undone (g := 4) (d := 27) (t := true) rfl (by kernel_rfl) (by kernel_rfl) (fun vq wq h => h wq (Grows.refl wq)) (fun _ _ _ => rfl) rfl) ?_
        refine AllOps.cons (Does.undone (g := 4) (d := 27) (t := true) rfl (by kernel_rfl) (by kernel_rfl) (fun vq wq h => h wq (Grows.refl wq)) (fun _ _ _ => rfl) rfl) ?_
        refine AllOps.cons (Does.bars (g := 2) (d := 25) (t := false) (u := true) rfl (by kernel_rfl) (by kernel_rfl) (fun vq wq h => h wq (Grows.refl wq)) (by decide) (fun _ _ _ => rfl) rfl) ?_
        refine AllOps.cons (Does.plain rfl fun lq aq wq hk hr K hK => ?_) ?_
        · obtain ⟨v2, E2, -, r2⟩ := hk.dep hr 2 25 (by kernel_rfl) (by kernel_rfl)
          replace E2 : ev aq (.tmp 25) = .bool true := E2.trans (r2 wq (Grows.refl wq))
          exact wp_of_value (by go_simp) (hK.out _ _ (Grows.refl _) (fun w2 h2 => rfl) (fun h => absurd h (by decide)))
        exact AllOps.nil
      case fin =>
        intro V x3 hG hV hap
        have r9 : (V 9) = .bool true := hV 9 (by decide)
        clear hV hap
        simp only [List.take_succ_cons, List.take_nil, List.drop_succ_cons, List.drop_nil, putAll, Act.put, List.setIfInBounds_toArray, List.set_cons_zero, List.set_cons_succ]
        have hb := (show Below _ _ _ from hG)
        replace DR := Lib.hid (Box2.below DR.out hb)
        replace HB := Lib.hid (HB.out.trans (Below.mono hb HB.out.size))
        clear hb hG
        rw [r9]
        clear r9
        go_upto_region 6 with fail
        refine wp_region_calm 1 [] ([fun vq wq => ZV wq vq 0]) (by kernel_rfl) (by decide) ?hF ?steps ?fin
        case hF =>
          intro j hj; cases hj
        case steps =>
          refine AllOps.cons (Does.plain rfl fun lq aq wq hk hr K hK => ?_) ?_
          · exact wp_of_value (by go_simp) (hK.out _ _ (Grows.refl _) (fun w2 h2 => (ZV.zero _ 0).grow h2) (fun h => absurd h (by decide)))
          exact AllOps.nil
        case fin =>
          intro V x4 hG hV hap
          have r0 : ZV x4 (V 0) 0 := hV 0 (by decide)
          clear hV hap
          simp only [List.take_succ_cons, List.take_zero, List.drop_succ_cons, List.drop_zero, putAll, Act.put, List.setIfInBounds_toArray, List.set_cons_zero, List.set_cons_succ]
          have hb := (show Below _ _ _ from hG)
          obtain ⟨nR, AR, kR, cR, eR, sR⟩ := r0
          simp only [eR]
          clear eR
          replace DR := Box2.below DR.out hb
          refine wpList_of_skip rfl (op_store 2 33 _ rfl rfl DR) ?_
          have sQ := sR.put DR (.bool nR) (.slice AR kR cR)
          have HQ := put2_below (u := .bool nR) (v := .slice AR kR cR) (HB.out.trans (Below.mono hb HB.out.size)) (show w.heap.size ≤ w.heap.size by omega)
          replace DR := put2_own (u := .bool nR) (v := .slice AR kR cR) DR
          clear hb hG sR HB
          generalize put2 x4 w.heap.size (.bool nR) (.slice AR kR cR) = y9 at *
          have c0 := DR.c0
          have c1 := DR.c1
          clear DR
          go_wp2_with fail
          refine bodyPost_ret (v := .tuple #[.agg #[.bool nR, .slice AR kR cR], .bool false]) (by simp [results, Tryd.results24, go_sem, c0, c1]) rfl ⟨_, rfl, ⟨_, rfl, ⟨_, _, _, _, rfl, sQ⟩⟩, HQ⟩
set_option maxHeartbeats 4000000 in
set_option maxRecDepth 100000 in
theorem rp_pos_yes (w : World) (c : UInt8) (t : List UInt8) (hne : c ≠ 45) (hg : goodText (c :: t) = true) (hl : t.length ≤ 90000) (hz : sz (tval 0 (c :: t)) ≤ 1000) : Calls Tryd.prog 24 #[.string ⟨(c :: t).toArray⟩] w fun e w' => ∃ r, e = .returned r ∧ (∃ u0, r = .tuple #[u0, .bool true] ∧ ZV w' u0 (tval 0 (c :: t) : Int)) ∧ Grows w w' := by
  obtain ⟨S, hS⟩ : ∃ S, ByteArray.mk (c :: t).toArray = S := ⟨_, rfl⟩
  have hsz : S.size = t.length + 1 := by rw [← hS]; show (c :: t).toArray.size = _; simp
  have hs0 : 0 < S.size := by omega
  obtain ⟨j, hj⟩ : ∃ j : Int, (c.toNat : Int) = j := ⟨_, rfl⟩
  have hj5 : (j == 45) = false := by
    rw [beq_eq_false_iff_ne, ← hj]
    intro h
    exact hne (by apply UInt8.toNat_inj.1; have : (45 : UInt8).toNat = 45 := rfl; omega)
  have hc : ((S[0]'hs0).toNat : Int) = j := by subst hS; exact hj
  rw [hS]
  have hts : t.length ≤ 900000 := by omega
  obtain ⟨HB, DR⟩ := start1 w 24 (.bool false) (.slice none 0 0)
  replace HB := Lib.hid HB
  replace DR := Lib.hid DR
  go_enter Tryd.func24, Tryd.ntmps24
  go_upto_region 1 with fail
  generalize (w.alloc (.cells #[.bool false, .slice none 0 0] 24)) = x0 at *
  refine wp_region_calm 8 [] ([fun vq _ => vq = .string S,
      fun vq _ => vq = .int .i64 (t.length + 1),
      fun vq _ => vq = .bool true,
      fun vq _ => vq = .bool true,
      fun vq _ => vq = .string S,
      fun vq _ => vq = .int .u8 j,
      fun vq _ => vq = .bool false,
      fun vq _ => vq = .bool false]) (by kernel_rfl) (by decide) ?hF ?steps ?fin
  case hF =>
    intro j hj; cases hj
  case steps =>
    refine AllOps.cons (Does.plain rfl fun lq aq wq hk hr K hK => ?_) ?_
    · have B0 : ev aq (.tmp 0) = .string S := hk.base 0 (by kernel_rfl) rfl
      exact wp_of_value (by go_simp) (hK.out _ _ (Grows.refl _) (fun w2 h2 => rfl) (fun h => absurd h (by decide)))
    refine AllOps.cons (Does.plain rfl fun lq aq wq hk hr K hK => ?_) ?_
    · obtain ⟨v0, E0, -, r0⟩ := hk.dep hr 0 7 (by kernel_rfl) (by kernel_rfl)
      replace E0 : ev aq (.tmp 7) = .string S := E0.trans (r0 wq (Grows.refl wq))
      exact wp_of_value (by go_simp) (hK.out _ _ (Grows.refl _) (fun w2 h2 => rfl) (fun h => absurd h (by decide)))
    refine AllOps.cons (Does.plain rfl fun lq aq wq hk hr K hK => ?_) ?_
    · obtain ⟨v1, E1, -, r1⟩ := hk.dep hr 1 8 (by kernel_rfl) (by kernel_rfl)
      replace E1 : ev aq (.tmp 8) = .int .i64 (t.length + 1) := E1.trans (r1 wq (Grows.refl wq))
      exact wp_of_value (by go_simp) (hK.out _ _ (Grows.refl _) (fun w2 h2 => rfl) (fun h => absurd h (by decide)))
    refine AllOps.cons (Does.plain rfl fun lq aq wq hk hr K hK => ?_) ?_
    · obtain ⟨v2, E2, -, r2⟩ := hk.dep hr 2 9 (by kernel_rfl) (by kernel_rfl)
      replace E2 : ev aq (.tmp 9) = .bool true := E2.trans (r2 wq (Grows.refl wq))
      exact wp_of_value (by go_simp) (hK.out _ _ (Grows.refl _) (fun w2 h2 => rfl) (fun h => absurd h (by decide)))
    refine AllOps.cons (Does.lets (g := 3) (d := 10) (t := true) rfl (by kernel_rfl) (by kernel_rfl) (fun vq wq h => h wq (Grows.refl wq)) fun lq aq wq hk hr K hK => ?_) ?_
    · have B0 : ev aq (.tmp 0) = .string S := hk.base 0 (by kernel_rfl) rfl
      exact wp_of_value (by go_simp) (hK.out _ _ (Grows.refl _) (fun w2 h2 => rfl) (fun h => absurd h (by decide)))
    refine AllOps.cons (Does.lets (g := 3) (d := 10) (t := true) rfl (by kernel_rfl) (by kernel_rfl) (fun vq wq h => h wq (Grows.refl wq)) fun lq aq wq hk hr K hK => ?_) ?_
    · obtain ⟨v4, E4, -, r4⟩ := hk.dep hr 4 11 (by kernel_rfl) (by kernel_rfl)
      replace E4 : ev aq (.tmp 11) = .string S := E4.trans (r4 wq (Grows.refl wq))
      exact wp_of_value (by go_simp) (hK.out _ _ (Grows.refl _) (fun w2 h2 => rfl) (fun h => absurd h (by decide)))
    refine AllOps.cons (Does.lets (g := 3) (d := 10) (t := true) rfl (by kernel_rfl) (by kernel_rfl) (fun vq wq h => h wq (Grows.refl wq)) fun lq aq wq hk hr K hK => ?_) ?_
    · obtain ⟨v5, E5, -, r5⟩ := hk.dep hr 5 12 (by kernel_rfl) (by kernel_rfl)
      replace E5 : ev aq (.tmp 12) = .int .u8 j := E5.trans (r5 wq (Grows.refl wq))
      exact wp_of_value (by go_simp) (hK.out _ _ (Grows.refl _) (fun w2 h2 => rfl) (fun h => absurd h (by decide)))
    refine AllOps.cons (Does.plain rfl fun lq aq wq hk hr K hK => ?_) ?_
    · obtain ⟨v3, E3, -, r3⟩ := hk.dep hr 3 10 (by kernel_rfl) (by kernel_rfl)
      replace E3 : ev aq (.tmp 10) = .bool true := E3.trans (r3 wq (Grows.refl wq))
      obtain ⟨v6, E6, -, r6⟩ := hk.dep hr 6 13 (by kernel_rfl) (by kernel_rfl)
      replace E6 : ev aq (.tmp 13) = .bool false := E6.trans (r6 wq (Grows.refl wq))
      exact wp_of_value (by go_simp) (hK.out _ _ (Grows.refl _) (fun w2 h2 => rfl) (fun h => absurd h (by decide)))
    exact AllOps.nil
  case fin =>
    intro V x1 hG hV hap
    have r0 : (V 0) = .string S := hV 0 (by decide)
    have r7 : (V 7) = .bool false := hV 7 (by decide)
    clear hV hap
    simp only [List.take_succ_cons, List.take_zero, List.drop_succ_cons, List.drop_zero, putAll, Act.put, List.setIfInBounds_toArray, List.set_cons_zero, List.set_cons_succ]
    have hb := (show Below _ _ _ from hG)
    replace DR := Lib.hid (Box2.below DR.out hb)
    replace HB := Lib.hid (HB.out.trans (Below.mono hb HB.out.size))
    clear hb hG
    rw [r7]
    clear r7
    go_upto_region 4 with fail
    refine wp_region_calm 5 [] ([fun vq _ => vq = .string S,
        fun vq wq => ∃ u0, vq = .tuple #[u0, .bool true] ∧ LV wq u0 ((limbs (tval 0 (c :: t)))) ((tval 0 (c :: t))),
        fun vq wq => ∃ u0, vq = .tuple #[u0, .bool true] ∧ LV wq u0 ((limbs (tval 0 (c :: t)))) ((tval 0 (c :: t))),
        fun vq wq => LV wq vq ((limbs (tval 0 (c :: t)))) ((tval 0 (c :: t))),
        fun vq _ => vq = .bool true]) (by kernel_rfl) (by decide) ?hF ?steps ?fin
    case hF =>
      intro j hj; cases hj
    case steps =>
      refine AllOps.cons (Does.plain rfl fun lq aq wq hk hr K hK => ?_) ?_
      · have B0 : ev aq (.tmp 0) = .string S := hk.base 0 (by kernel_rfl) rfl
        exact wp_of_value (by go_simp) (hK.out _ _ (Grows.refl _) (fun w2 h2 => rfl) (fun h => absurd h (by decide)))
      refine AllOps.cons (Does.plain rfl fun lq aq wq hk hr K hK => ?_) ?_
      · obtain ⟨v0, E0, -, r0⟩ := hk.dep hr 0 19 (by kernel_rfl) (by kernel_rfl)
        replace E0 : ev aq (.tmp 19) = .string S := E0.trans (r0 wq (Grows.refl wq))
        refine wp_of_call (f := 57) (vs := #[.string S]) (by go_simp) (rparsen_v wq (c :: t) hg (by first | omega | (simp; omega)) hz hS) ?_
        rintro e w1 ⟨u, rfl, hu, hb⟩
        exact ⟨u, rfl, hK.out _ _ hb (fun w2 h2 => (let ⟨u0, e0, h0⟩ := hu; ⟨u0, e0, (h0).grow h2⟩)) (fun h => absurd h (by decide))⟩
      refine AllOps.cons (Does.plain rfl fun lq aq wq hk hr K hK => ?_) ?_
      · obtain ⟨v1, E1, -, r1⟩ := hk.dep hr 1 20 (by kernel_rfl) (by kernel_rfl)
        have r1 : ∃ u0, v1 = .tuple #[u0, .bool true] ∧ LV wq u0 ((limbs (tval 0 (c :: t)))) ((tval 0 (c :: t))) := r1 wq (Grows.refl wq)
        exact wp_of_value (by go_simp) (hK.out _ _ (Grows.refl _) (fun w2 h2 => (let ⟨u0, e0, h0⟩ := r1; ⟨u0, e0, (h0).grow h2⟩)) (fun h => absurd h (by decide)))
      refine AllOps.cons (Does.plain rfl fun lq aq wq hk hr K hK => ?_) ?_
      · obtain ⟨v2, E2, -, r2⟩ := hk.dep hr 2 18 (by kernel_rfl) (by kernel_rfl)
        have r2 : ∃ u0, v2 = .tuple #[u0, .bool true] ∧ LV wq u0 ((limbs (tval 0 (c :: t)))) ((tval 0 (c :: t))) := r2 wq (Grows.refl wq)
        obtain ⟨u0, rfl, h0⟩ := r2
        exact wp_of_value (by go_simp) (hK.out _ _ (Grows.refl _) (fun w2 h2 => (h0).grow h2) (fun h => absurd h (by decide)))
      refine AllOps.cons (Does.plain rfl fun lq aq wq hk hr K hK => ?_) ?_
      · obtain ⟨v2, E2, -, r2⟩ := hk.dep hr 2 18 (by kernel_rfl) (by kernel_rfl)
        have r2 : ∃ u0, v2 = .tuple #[u0, .bool true] ∧ LV wq u0 ((limbs (tval 0 (c :: t)))) ((tval 0 (c :: t))) := r2 wq (Grows.refl wq)
        obtain ⟨u0, rfl, h0⟩ := r2
        exact wp_of_value (by go_simp) (hK.out _ _ (Grows.refl _) (fun w2 h2 => rfl) (fun h => absurd h (by decide)))
      exact AllOps.nil
    case fin =>
      intro V x2 hG hV hap
      have r3 : LV x2 (V 3) ((limbs (tval 0 (c :: t)))) ((tval 0 (c :: t))) := hV 3 (by decide)
      have r4 : (V 4) = .bool true := hV 4 (by decide)
      clear hV hap
      simp only [List.take_succ_cons, List.take_zero, List.drop_succ_cons, List.drop_zero, putAll, Act.put, List.setIfInBounds_toArray, List.set_cons_zero, List.set_cons_succ]
      have hb := (show Below _ _ _ from hG)
      replace DR := Lib.hid (Box2.below DR.out hb)
      replace HB := Lib.hid (HB.out.trans (Below.mono hb HB.out.size))
      clear hb hG
      rw [r4]
      clear r4
      obtain ⟨A5, c5, e5, q5⟩ := r3
      simp only [e5]
      rw [e5] at q5
      have Q5 := Lib.hid q5
      clear e5 q5
      go_upto_region 5 with fail
      refine wp_region_calm 10 [] ([fun vq _ => vq = .bool true,
          fun vq _ => vq = .bool false,
          fun vq _ => vq = .bool false,
          fun vq _ => vq = .bool false,
          fun vq _ => vq = .bool false,
          fun vq _ => vq = undef,
          fun vq _ => vq = undef,
          fun vq _ => vq = undef,
          fun vq _ => vq = .bool false,
          fun vq _ => vq = .bool false]) (by kernel_rfl) (by decide) ?hF ?steps ?fin
      case hF =>
        intro j hj; cases hj
      case steps =>
        refine AllOps.cons (Does.plain rfl fun lq aq wq hk hr K hK => ?_) ?_
        · have B6 : ev aq (.tmp 6) = .bool true := hk.base 6 (by kernel_rfl) rfl
          exact wp_of_value (by go_simp) (hK.out _ _ (Grows.refl _) (fun w2 h2 => rfl) (fun h => absurd h (by decide)))
        refine AllOps.cons (Does.plain rfl fun lq aq wq hk hr K hK => ?_) ?_
        · obtain ⟨v0, E0, -, r0⟩ := hk.dep hr 0 23 (by kernel_rfl) (by kernel_rfl)
          replace E0 : ev aq (.tmp 23) = .bool true := E0.trans (r0 wq (Grows.refl wq))
          exact wp_of_value (by go_simp) (hK.out _ _ (Grows.refl _) (fun w2 h2 => rfl) (fun h => absurd h (by decide)))
        refine AllOps.cons (Does.plain rfl fun lq aq wq hk hr K hK => ?_) ?_
        · obtain ⟨v1, E1, -, r1⟩ := hk.dep hr 1 24 (by kernel_rfl) (by kernel_rfl)
          replace E1 : ev aq (.tmp 24) = .bool false := E1.trans (r1 wq (Grows.refl wq))
          exact wp_of_value (by go_simp) (hK.out _ _ (Grows.refl _) (fun w2 h2 => rfl) (fun h => absurd h (by decide)))
        refine AllOps.cons (Does.lets (g := 2) (d := 25) (t := false) rfl (by kernel_rfl) (by kernel_rfl) (fun vq wq h => h wq (Grows.refl wq)) fun lq aq wq hk hr K hK => ?_) ?_
        · have B4 : ev aq (.tmp 4) = .bool false := hk.base 4 (by kernel_rfl) rfl
          exact wp_of_value (by go_simp) (hK.out _ _ (Grows.refl _) (fun w2 h2 => rfl) (fun h => absurd h (by decide)))
        refine AllOps.cons (Does.lets (g := 2) (d := 25) (t := false) rfl (by kernel_rfl) (by kernel_rfl) (fun vq wq h => h wq (Grows.refl wq)) fun lq aq wq hk hr K hK => ?_) ?_
        · obtain ⟨v3, E3, -, r3⟩ := hk.dep hr 3 26 (by kernel_rfl) (by kernel_rfl)
          replace E3 : ev aq (.tmp 26) = .bool false := E3.trans (r3 wq (Grows.refl wq))
          exact wp_of_value (by go_simp) (hK.out _ _ (Grows.refl _) (fun w2 h2 => rfl) (fun h => absurd h (by decide)))
        refine AllOps.cons (Does.bars (g := 4) (d := 27) (t := true) (u := false) rfl (by kernel_rfl) (by kernel_rfl) (fun vq wq h => h wq (Grows.refl wq)) (by decide) (fun _ _ _ => rfl) rfl) ?_
        refine AllOps.cons (Does.bars (g := 4) (d := 27) (t := true) (u := false) rfl (by kernel_rfl) (by kernel_rfl) (fun vq wq h => h wq (Grows.refl wq)) (by decide) (fun _ _ _ => rfl) rfl) ?_
        refine AllOps.cons (Does.bars (g := 4) (d := 27) (t := true) (u := false) rfl (by kernel_rfl) (by kernel_rfl) (fun vq wq h => h wq (Grows.refl wq)) (by decide) (fun _ _ _ => rfl) rfl) ?_
        refine AllOps.cons (Does.lets (g := 2) (d := 25) (t := false) rfl (by kernel_rfl) (by kernel_rfl) (fun vq wq h => h wq (Grows.refl wq)) fun lq aq wq hk hr K hK => ?_) ?_
        · obtain ⟨v4, E4, -, r4⟩ := hk.dep hr 4 27 (by kernel_rfl) (by kernel_rfl)
          replace E4 : ev aq (.tmp 27) = .bool false := E4.trans (r4 wq (Grows.refl wq))
          exact wp_of_value (by go_simp) (hK.out _ _ (Grows.refl _) (fun w2 h2 => rfl) (fun h => absurd h (by decide)))
        refine AllOps.cons (Does.plain rfl fun lq aq wq hk hr K hK => ?_) ?_
        · obtain ⟨v2, E2, -, r2⟩ := hk.dep hr 2 25 (by kernel_rfl) (by kernel_rfl)
          replace E2 : ev aq (.tmp 25) = .bool false := E2.trans (r2 wq (Grows.refl wq))
          obtain ⟨v8, E8, -, r8⟩ := hk.dep hr 8 31 (by kernel_rfl) (by kernel_rfl)
          replace E8 : ev aq (.tmp 31) = .bool false := E8.trans (r8 wq (Grows.refl wq))
          exact wp_of_value (by go_simp) (hK.out _ _ (Grows.refl _) (fun w2 h2 => rfl) (fun h => absurd h (by decide)))
        exact AllOps.nil
      case fin =>
        intro V x3 hG hV hap
        have r9 : (V 9) = .bool false := hV 9 (by decide)
        clear hV hap
        simp only [List.take_succ_cons, List.take_nil, List.drop_succ_cons, List.drop_nil, putAll, Act.put, List.setIfInBounds_toArray, List.set_cons_zero, List.set_cons_succ]
        have hb := (show Below _ _ _ from hG)
        replace DR := Lib.hid (Box2.below DR.out hb)
        replace Q5 := Lib.hid (Q5.out.below hb)
        replace HB := Lib.hid (HB.out.trans (Below.mono hb HB.out.size))
        clear hb hG
        rw [r9]
        clear r9
        go_upto_region 7 with fail
        refine wp_region_calm 3 [] ([fun vq _ => vq = .bool false,
            fun vq _ => vq = .slice A5 (limbs (tval 0 (c :: t))).length c5,
            fun vq wq => ZV wq vq ((tval 0 (c :: t) : Int))]) (by kernel_rfl) (by decide) ?hF ?steps ?fin
        case hF =>
          intro j hj; cases hj
        case steps =>
          refine AllOps.cons (Does.plain rfl fun lq aq wq hk hr K hK => ?_) ?_
          · have B4 : ev aq (.tmp 4) = .bool false := hk.base 4 (by kernel_rfl) rfl
            exact wp_of_value (by go_simp) (hK.out _ _ (Grows.refl _) (fun w2 h2 => rfl) (fun h => absurd h (by decide)))
          refine AllOps.cons (Does.plain rfl fun lq aq wq hk hr K hK => ?_) ?_
          · have B5 : ev aq (.tmp 5) = .slice A5 (limbs (tval 0 (c :: t))).length c5 := hk.base 5 (by kernel_rfl) rfl
            exact wp_of_value (by go_simp) (hK.out _ _ (Grows.refl _) (fun w2 h2 => rfl) (fun h => absurd h (by decide)))
          refine AllOps.cons (Does.plain rfl fun lq aq wq hk hr K hK => ?_) ?_
          · obtain ⟨v0, E0, -, r0⟩ := hk.dep hr 0 34 (by kernel_rfl) (by kernel_rfl)
            replace E0 : ev aq (.tmp 34) = .bool false := E0.trans (r0 wq (Grows.refl wq))
            obtain ⟨v1, E1, -, r1⟩ := hk.dep hr 1 35 (by kernel_rfl) (by kernel_rfl)
            replace E1 : ev aq (.tmp 35) = .slice A5 (limbs (tval 0 (c :: t))).length c5 := E1.trans (r1 wq (Grows.refl wq))
            refine wp_of_call (f := 49) (vs := #[.bool false, .slice A5 (limbs (tval 0 (c :: t))).length c5]) (by go_simp) (rof_v wq false (Q5.out.below hk.ext).lv hz rfl (by show sz (sg _ _).natAbs ≤ 1000; rw [sg_natAbs]; exact hz)) ?_
            rintro e w1 ⟨u, rfl, hu, hb⟩
            exact ⟨u, rfl, hK.out _ _ hb (fun w2 h2 => (hu).grow h2) (fun h => absurd h (by decide))⟩
          exact AllOps.nil
        case fin =>
          intro V x4 hG hV hap
          have r2 : ZV x4 (V 2) ((tval 0 (c :: t) : Int)) := hV 2 (by decide)
          clear hV hap
          simp only [List.take_succ_cons, List.take_zero, List.drop_succ_cons, List.drop_zero, putAll, Act.put, List.setIfInBounds_toArray, List.set_cons_zero, List.set_cons_succ]
          have hb := (show Below _ _ _ from hG)
          obtain ⟨nR, AR, kR, cR, eR, sR⟩ := r2
          simp only [eR]
          clear eR
          replace DR := Box2.below DR.out hb
          refine wpList_of_skip rfl (op_store 2 36 _ rfl rfl DR) ?_
          have sQ := sR.put DR (.bool nR) (.slice AR kR cR)
          have HQ := put2_below (u := .bool nR) (v := .slice AR kR cR) (HB.out.trans (Below.mono hb HB.out.size)) (show w.heap.size ≤ w.heap.size by omega)
          replace DR := put2_own (u := .bool nR) (v := .slice AR kR cR) DR
          clear hb hG sR HB
          generalize put2 x4 w.heap.size (.bool nR) (.slice AR kR cR) = y9 at *
          have c0 := DR.c0
          have c1 := DR.c1
          clear DR
          go_wp2_with fail
          refine bodyPost_ret (v := .tuple #[.agg #[.bool nR, .slice AR kR cR], .bool true]) (by simp [results, Tryd.results24, go_sem, c0, c1]) rfl ⟨_, rfl, ⟨_, rfl, ⟨_, _, _, _, rfl, sQ⟩⟩, HQ⟩
set_option maxHeartbeats 4000000 in
set_option maxRecDepth 100000 in
theorem rp_nil (w : World)   : Calls Tryd.prog 24 #[.string ⟨([] : List UInt8).toArray⟩] w fun e w' => ∃ r, e = .returned r ∧ (∃ u0, r = .tuple #[u0, .bool false] ∧ ZV w' u0 0) ∧ Grows w w' := by
  obtain ⟨S, hS⟩ : ∃ S, ByteArray.mk ([] : List UInt8).toArray = S := ⟨_, rfl⟩
  have hsz : S.size = 0 := by rw [← hS]; rfl
  rw [hS]
  obtain ⟨HB, DR⟩ := start1 w 24 (.bool false) (.slice none 0 0)
  replace HB := Lib.hid HB
  replace DR := Lib.hid DR
  go_enter Tryd.func24, Tryd.ntmps24
  go_upto_region 1 with fail
  generalize (w.alloc (.cells #[.bool false, .slice none 0 0] 24)) = x0 at *
  refine wp_region_calm 8 [] ([fun vq _ => vq = .string S,
      fun vq _ => vq = .int .i64 0,
      fun vq _ => vq = .bool false,
      fun vq _ => vq = .bool false,
      fun vq _ => vq = undef,
      fun vq _ => vq = undef,
      fun vq _ => vq = undef,
      fun vq _ => vq = .bool false]) (by kernel_rfl) (by decide) ?hF ?steps ?fin
  case hF =>
    intro j hj; cases hj
  case steps =>
    refine AllOps.cons (Does.plain rfl fun lq aq wq hk hr K hK => ?_) ?_
    · have B0 : ev aq (.tmp 0) = .string S := hk.base 0 (by kernel_rfl) rfl
      exact wp_of_value (by go_simp) (hK.out _ _ (Grows.refl _) (fun w2 h2 => rfl) (fun h => absurd h (by decide)))
    refine AllOps.cons (Does.plain rfl fun lq aq wq hk hr K hK => ?_) ?_
    · obtain ⟨v0, E0, -, r0⟩ := hk.dep hr 0 7 (by kernel_rfl) (by kernel_rfl)
      replace E0 : ev aq (.tmp 7) = .string S := E0.trans (r0 wq (Grows.refl wq))
      exact wp_of_value (by go_simp) (hK.out _ _ (Grows.refl _) (fun w2 h2 => rfl) (fun h => absurd h (by decide)))
    refine AllOps.cons (Does.plain rfl fun lq aq wq hk hr K hK => ?_) ?_
    · obtain ⟨v1, E1, -, r1⟩ := hk.dep hr 1 8 (by kernel_rfl) (by kernel_rfl)
      replace E1 : ev aq (.tmp 8) = .int .i64 0 := E1.trans (r1 wq (Grows.refl wq))
      exact wp_of_value (by go_simp) (hK.out _ _ (Grows.refl _) (fun w2 h2 => rfl) (fun h => absurd h (by decide)))
    refine AllOps.cons (Does.plain rfl fun lq aq wq hk hr K hK => ?_) ?_
    · obtain ⟨v2, E2, -, r2⟩ := hk.dep hr 2 9 (by kernel_rfl) (by kernel_rfl)
      replace E2 : ev aq (.tmp 9) = .bool false := E2.trans (r2 wq (Grows.refl wq))
      exact wp_of_value (by go_simp) (hK.out _ _ (Grows.refl _) (fun w2 h2 => rfl) (fun h => absurd h (by decide)))
    refine AllOps.cons (Does.bars (g := 3) (d := 10) (t := true) (u := false) rfl (by kernel_rfl) (by kernel_rfl) (fun vq wq h => h wq (Grows.refl wq)) (by decide) (fun _ _ _ => rfl) rfl) ?_
    refine AllOps.cons (Does.bars (g := 3) (d := 10) (t := true) (u := false) rfl (by kernel_rfl) (by kernel_rfl) (fun vq wq h => h wq (Grows.refl wq)) (by decide) (fun _ _ _ => rfl) rfl) ?_
    refine AllOps.cons (Does.bars (g := 3) (d := 10) (t := true) (u := false) rfl (by kernel_rfl) (by kernel_rfl) (fun vq wq h => h wq (Grows.refl wq)) (by decide) (fun _ _ _ => rfl) rfl) ?_
    refine AllOps.cons (Does.plain rfl fun lq aq wq hk hr K hK => ?_) ?_
    · obtain ⟨v3, E3, -, r3⟩ := hk.dep hr 3 10 (by kernel_rfl) (by kernel_rfl)
      replace E3 : ev aq (.tmp 10) = .bool false := E3.trans (r3 wq (Grows.refl wq))
      exact wp_of_value (by go_simp) (hK.out _ _ (Grows.refl _) (fun w2 h2 => rfl) (fun h => absurd h (by decide)))
    exact AllOps.nil
  case fin =>
    intro V x1 hG hV hap
    have r0 : (V 0) = .string S := hV 0 (by decide)
    have r7 : (V 7) = .bool false := hV 7 (by decide)
    clear hV hap
    simp only [List.take_succ_cons, List.take_zero, List.drop_succ_cons, List.drop_zero, putAll, Act.put, List.setIfInBounds_toArray, List.set_cons_zero, List.set_cons_succ]
    have hb := (show Below _ _ _ from hG)
    replace DR := Lib.hid (Box2.below DR.out hb)
    replace HB := Lib.hid (HB.out.trans (Below.mono hb HB.out.size))
    clear hb hG
    rw [r7]
    clear r7
    go_upto_region 4 with fail
    refine wp_region_calm 5 [] ([fun vq _ => vq = .string S,
        fun vq wq => vq = .tuple #[.slice none 0 0, .bool false],
        fun vq wq => vq = .tuple #[.slice none 0 0, .bool false],
        fun vq _ => vq = .slice none 0 0,
        fun vq _ => vq = .bool false]) (by kernel_rfl) (by decide) ?hF ?steps ?fin
    case hF =>
      intro j hj; cases hj
    case steps =>
      refine AllOps.cons (Does.plain rfl fun lq aq wq hk hr K hK => ?_) ?_
      · have B0 : ev aq (.tmp 0) = .string S := hk.base 0 (by kernel_rfl) rfl
        exact wp_of_value (by go_simp) (hK.out _ _ (Grows.refl _) (fun w2 h2 => rfl) (fun h => absurd h (by decide)))
      refine AllOps.cons (Does.plain rfl fun lq aq wq hk hr K hK => ?_) ?_
      · obtain ⟨v0, E0, -, r0⟩ := hk.dep hr 0 19 (by kernel_rfl) (by kernel_rfl)
        replace E0 : ev aq (.tmp 19) = .string S := E0.trans (r0 wq (Grows.refl wq))
        refine wp_of_call (f := 57) (vs := #[.string S]) (by go_simp) (rparsen_no_v wq ([] : List UInt8) rfl (by first | omega | (simp; omega) | simp) hS) ?_
        rintro e w1 ⟨u, rfl, hu, hb⟩
        exact ⟨u, rfl, hK.out _ _ hb (fun w2 h2 => hu) (fun h => absurd h (by decide))⟩
      refine AllOps.cons (Does.plain rfl fun lq aq wq hk hr K hK => ?_) ?_
      · obtain ⟨v1, E1, -, r1⟩ := hk.dep hr 1 20 (by kernel_rfl) (by kernel_rfl)
        have r1 : v1 = .tuple #[.slice none 0 0, .bool false] := r1 wq (Grows.refl wq)
        exact wp_of_value (by go_simp) (hK.out _ _ (Grows.refl _) (fun w2 h2 => r1) (fun h => absurd h (by decide)))
      refine AllOps.cons (Does.plain rfl fun lq aq wq hk hr K hK => ?_) ?_
      · obtain ⟨v2, E2, -, r2⟩ := hk.dep hr 2 18 (by kernel_rfl) (by kernel_rfl)
        have r2 : v2 = .tuple #[.slice none 0 0, .bool false] := r2 wq (Grows.refl wq)
        obtain ⟨rfl⟩ := r2
        exact wp_of_value (by go_simp) (hK.out _ _ (Grows.refl _) (fun w2 h2 => rfl) (fun h => absurd h (by decide)))
      refine AllOps.cons (Does.plain rfl fun lq aq wq hk hr K hK => ?_) ?_
      · obtain ⟨v2, E2, -, r2⟩ := hk.dep hr 2 18 (by kernel_rfl) (by kernel_rfl)
        have r2 : v2 = .tuple #[.slice none 0 0, .bool false] := r2 wq (Grows.refl wq)
        obtain ⟨rfl⟩ := r2
        exact wp_of_value (by go_simp) (hK.out _ _ (Grows.refl _) (fun w2 h2 => rfl) (fun h => absurd h (by decide)))
      exact AllOps.nil
    case fin =>
      intro V x2 hG hV hap
      have r3 : (V 3) = .slice none 0 0 := hV 3 (by decide)
      have r4 : (V 4) = .bool false := hV 4 (by decide)
      clear hV hap
      simp only [List.take_succ_cons, List.take_zero, List.drop_succ_cons, List.drop_zero, putAll, Act.put, List.setIfInBounds_toArray, List.set_cons_zero, List.set_cons_succ]
      have hb := (show Below _ _ _ from hG)
      replace DR := Lib.hid (Box2.below DR.out hb)
      replace HB := Lib.hid (HB.out.trans (Below.mono hb HB.out.size))
      clear hb hG
      rw [r3, r4]
      clear r3 r4
      go_upto_region 5 with fail
      refine wp_region_calm 10 [] ([fun vq _ => vq = .bool false,
          fun vq _ => vq = .bool true,
          fun vq _ => vq = .bool true,
          fun vq _ => vq = undef,
          fun vq _ => vq = undef,
          fun vq _ => vq = undef,
          fun vq _ => vq = undef,
          fun vq _ => vq = undef,
          fun vq _ => vq = undef,
          fun vq _ => vq = .bool true]) (by kernel_rfl) (by decide) ?hF ?steps ?fin
      case hF =>
        intro j hj; cases hj
      case steps =>
        refine AllOps.cons (Does.plain rfl fun lq aq wq hk hr K hK => ?_) ?_
        · have B6 : ev aq (.tmp 6) = .bool false := hk.base 6 (by kernel_rfl) rfl
          exact wp_of_value (by go_simp) (hK.out _ _ (Grows.refl _) (fun w2 h2 => rfl) (fun h => absurd h (by decide)))
        refine AllOps.cons (Does.plain rfl fun lq aq wq hk hr K hK => ?_) ?_
        · obtain ⟨v0, E0, -, r0⟩ := hk.dep hr 0 23 (by kernel_rfl) (by kernel_rfl)
          replace E0 : ev aq (.tmp 23) = .bool false := E0.trans (r0 wq (Grows.refl wq))
          exact wp_of_value (by go_simp) (hK.out _ _ (Grows.refl _) (fun w2 h2 => rfl) (fun h => absurd h (by decide)))
        refine AllOps.cons (Does.plain rfl fun lq aq wq hk hr K hK => ?_) ?_
        · obtain ⟨v1, E1, -, r1⟩ := hk.dep hr 1 24 (by kernel_rfl) (by kernel_rfl)
          replace E1 : ev aq (.tmp 24) = .bool true := E1.trans (r1 wq (Grows.refl wq))
          exact wp_of_value (by go_simp) (hK.out _ _ (Grows.refl _) (fun w2 h2 => rfl) (fun h => absurd h (by decide)))
        refine AllOps.cons (Does.bars (g := 2) (d := 25) (t := false) (u := true) rfl (by kernel_rfl) (by kernel_rfl) (fun vq wq h => h wq (Grows.refl wq)) (by decide) (fun _ _ _ => rfl) rfl) ?_
        refine AllOps.cons (Does.bars (g := 2) (d := 25) (t := false) (u := true) rfl (by kernel_rfl) (by kernel_rfl) (fun vq wq h => h wq (Grows.refl wq)) (by decide) (fun _ _ _ => rfl) rfl) ?_
        refine AllOps.cons (Does.undone (g := 4) (d := 27) (t := true) rfl (by kernel_rfl) (by kernel_rfl) (fun vq wq h => h wq (Grows.refl wq)) (fun _ _ _ => rfl) rfl) ?_
        refine AllOps.cons (Does.undone (g := 4) (d := 27) (t := true) rfl (by kernel_rfl) (by kernel_rfl) (fun vq wq h => h wq (Grows.refl wq)) (fun _ _ _ => rfl) rfl) ?_
        refine AllOps.cons (Does.undone (g := 4) (d := 27) (t := true) rfl (by kernel_rfl) (by kernel_rfl) (fun vq wq h => h wq (Grows.refl wq)) (fun _ _ _ => rfl) rfl) ?_
        refine AllOps.cons (Does.bars (g := 2) (d := 25) (t := false) (u := true) rfl (by kernel_rfl) (by kernel_rfl) (fun vq wq h => h wq (Grows.refl wq)) (by decide) (fun _ _ _ => rfl) rfl) ?_
        refine AllOps.cons (Does.plain rfl fun lq aq wq hk hr K hK => ?_) ?_
        · obtain ⟨v2, E2, -, r2⟩ := hk.dep hr 2 25 (by kernel_rfl) (by kernel_rfl)
          replace E2 : ev aq (.tmp 25) = .bool true := E2.trans (r2 wq (Grows.refl wq))
          exact wp_of_value (by go_simp) (hK.out _ _ (Grows.refl _) (fun w2 h2 => rfl) (fun h => absurd h (by decide)))
        exact AllOps.nil
      case fin =>
        intro V x3 hG hV hap
        have r9 : (V 9) = .bool true := hV 9 (by decide)
        clear hV hap
        simp only [List.take_succ_cons, List.take_nil, List.drop_succ_cons, List.drop_nil, putAll, Act.put, List.setIfInBounds_toArray, List.set_cons_zero, List.set_cons_succ]
        have hb := (show Below _ _ _ from hG)
        replace DR := Lib.hid (Box2.below DR.out hb)
        replace HB := Lib.hid (HB.out.trans (Below.mono hb HB.out.size))
        clear hb hG
        rw [r9]
        clear r9
        go_upto_region 6 with fail
        refine wp_region_calm 1 [] ([fun vq wq => ZV wq vq 0]) (by kernel_rfl) (by decide) ?hF ?steps ?fin
        case hF =>
          intro j hj; cases hj
        case steps =>
          refine AllOps.cons (Does.plain rfl fun lq aq wq hk hr K hK => ?_) ?_
          · exact wp_of_value (by go_simp) (hK.out _ _ (Grows.refl _) (fun w2 h2 => (ZV.zero _ 0).grow h2) (fun h => absurd h (by decide)))
          exact AllOps.nil
        case fin =>
          intro V x4 hG hV hap
          have r0 : ZV x4 (V 0) 0 := hV 0 (by decide)
          clear hV hap
          simp only [List.take_succ_cons, List.take_zero, List.drop_succ_cons, List.drop_zero, putAll, Act.put, List.setIfInBounds_toArray, List.set_cons_zero, List.set_cons_succ]
          have hb := (show Below _ _ _ from hG)
          obtain ⟨nR, AR, kR, cR, eR, sR⟩ := r0
          simp only [eR]
          clear eR
          replace DR := Box2.below DR.out hb
          refine wpList_of_skip rfl (op_store 2 33 _ rfl rfl DR) ?_
          have sQ := sR.put DR (.bool nR) (.slice AR kR cR)
          have HQ := put2_below (u := .bool nR) (v := .slice AR kR cR) (HB.out.trans (Below.mono hb HB.out.size)) (show w.heap.size ≤ w.heap.size by omega)
          replace DR := put2_own (u := .bool nR) (v := .slice AR kR cR) DR
          clear hb hG sR HB
          generalize put2 x4 w.heap.size (.bool nR) (.slice AR kR cR) = y9 at *
          have c0 := DR.c0
          have c1 := DR.c1
          clear DR
          go_wp2_with fail
          refine bodyPost_ret (v := .tuple #[.agg #[.bool nR, .slice AR kR cR], .bool false]) (by simp [results, Tryd.results24, go_sem, c0, c1]) rfl ⟨_, rfl, ⟨_, rfl, ⟨_, _, _, _, rfl, sQ⟩⟩, HQ⟩
end Go.Proofs.YtmajcjdhhnhmmaaDoor
