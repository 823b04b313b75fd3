import Derived.Test.YtdmghakmhfhpiaaDoorTold
/- litmuslaw01.NatTexts returns true. -/
namespace Go.Proofs.YtdmghakmhfhpiaaDoor
open Go.RowKit Go.Num
attribute [local go_sem] Oper.semAt_some u64_mask
theorem dec_len {n k m : Nat} (h : sz n ≤ k) (hk : 4294967296 ^ k ≤ 10 ^ m) (hm : 1 ≤ m) : (dec n).length ≤ m := by
  have h1 : n < 10 ^ m := Nat.lt_of_lt_of_le (Nat.lt_of_lt_of_le (lt_sz n) (Nat.pow_le_pow_right (by decide) h)) hk
  rcases Nat.eq_zero_or_pos n with h0 | h0
  · subst h0; rw [dec_b]; exact hm
  · unfold dec; rw [if_neg (by omega)]; exact (decs_length_le n m).2 h1
theorem cat_bytes (l m : List UInt8) : ((⟨l.toArray⟩ : ByteArray) ++ (⟨m.toArray⟩ : ByteArray)) = ⟨(l ++ m).toArray⟩ := by apply ByteArray.ext; simp
theorem cmpN_ne {a b : Nat} (h : ¬ a = b) : (cmpN a b == 0) = false := by
  rcases Nat.lt_or_ge a b with h | h
  · rw [cmpN_lt h]; decide
  · rw [cmpN_gt (by omega)]; decide
theorem dec_len_few {n : Nat} (h : sz n ≤ 30) : (dec n).length ≤ 900000 := Nat.le_trans (dec_len (m := 300) h (by decide +kernel) (by decide +kernel)) (by decide)
theorem dec_ten {n : Nat} (h : 0 < n) : dec (n * 10) = dec n ++ [48] := by
  unfold dec; rw [if_neg (by omega), if_neg (by omega)]; unfold decs
  rw [vdig_pos (by omega), Nat.mul_mod_left, Nat.mul_div_cancel _ (by decide)]
  simp [Num.byteOf]
set_option maxHeartbeats 4000000 in
set_option maxRecDepth 100000 in
theorem natTexts_any (w : World) (va vb : Value) (la lb : List Nat) (ha : Arg encU w va la) (hla : Lim la) (hna : la.length ≤ 9223372036854775807) (hb : Arg encU w vb lb) (hlb : Lim lb) (hnb : lb.length ≤ 9223372036854775807) :
    Calls Tryd.prog 7 #[va, vb] w fun e w' => e = .returned (.bool true) ∧ Below w.heap.size w w' := by
  go_enter Tryd.func7, Tryd.ntmps7
  have HB : Below w.heap.size w w := Below.refl _ _
  go_wp2_with fail
  refine (works_any _).mono ?_
  rintro e w0 ⟨rfl, hq⟩
  replace ha := ha.below hq
  replace hb := hb.below hq
  replace HB := HB.trans (hq.mono HB.size)
  clear hq
  go_wp2_with fail
  refine (few_any _ _ la 30 ha (by decide) hna).mono ?_
  rintro e w9 ⟨ua, rfl, hw9, ga⟩
  subst w9
  obtain ⟨a, xa, na, ka⟩ : ∃ y x, Num w0 ua x y ∧ sz y ≤ 30 := ⟨_, _, num_few ga hla (by decide), sz_few 30 hla⟩
  clear ga ha hla hna
  go_wp2_with fail
  refine (few_any _ _ lb 30 hb (by decide) hnb).mono ?_
  rintro e w9 ⟨ub, rfl, hw9, gb⟩
  subst w9
  obtain ⟨b, xb, nb, kb⟩ : ∃ y x, Num w0 ub x y ∧ sz y ≤ 30 := ⟨_, _, num_few gb hlb (by decide), sz_few 30 hlb⟩
  clear gb hb hlb hnb
  go_wp2_with fail
  refine (text_any _ _ _ a na).mono ?_
  rintro e w1_1 ⟨rfl, hbs⟩
  have hb1_1 := hbs
  replace na := na.below hb1_1
  replace nb := nb.below hb1_1
  replace HB := HB.trans (hb1_1.mono HB.size)
  clear hb1_1
  go_wp2_with fail
  refine (parse_yes _ (dec a) (goodText_dec a) (dec_len_few ka)).mono ?_
  rintro e w1_2 ⟨vs, rfl, gs⟩
  have hb1_2 := gs.below
  rw [tval_dec] at gs
  have nx := gs.num (Nat.le_trans ka (by decide))
  replace na := na.below hb1_2
  replace nb := nb.below hb1_2
  replace HB := HB.trans (hb1_2.mono HB.size)
  clear hb1_2
  clear gs
  go_wp2_with fail
  refine (trim_num _ _ _ a na).mono ?_
  rintro e w1_3 ⟨vs, rfl, gs⟩
  have hb1_3 := gs.below
  have ns1 := gs.num (Nat.le_trans ka (by decide))
  replace na := na.below hb1_3
  replace nb := nb.below hb1_3
  replace nx := nx.below hb1_3
  replace HB := HB.trans (hb1_3.mono HB.size)
  clear hb1_3
  clear gs
  go_wp2_with fail
  refine (same_yes _ _ _ _ _ nx ns1 rfl).mono ?_
  rintro e w1_4 ⟨rfl, hbs⟩
  have hb1_4 := hbs
  clear ns1
  replace na := na.below hb1_4
  replace nb := nb.below hb1_4
  replace nx := nx.below hb1_4
  replace HB := HB.trans (hb1_4.mono HB.size)
  clear hb1_4
  go_wp2_with fail
  refine (text_any _ _ _ b nb).mono ?_
  rintro e w1_5 ⟨rfl, hbs⟩
  have hb1_5 := hbs
  replace na := na.below hb1_5
  replace nb := nb.below hb1_5
  replace nx := nx.below hb1_5
  replace HB := HB.trans (hb1_5.mono HB.size)
  clear hb1_5
  by_cases h0 : a = b
  · rcases Nat.eq_zero_or_pos a with h1 | h1
    · have hl : (limbs a).length = 0 := by rw [h1, limbs_zero]; rfl
      clear h1
      subst h0
      go_wp2_with fail
      refine (cmp_any _ _ _ _ _ a a na nb).mono ?_
      rintro e w100_1 ⟨rfl, hbs⟩
      have hb100_1 := hbs
      clear na
      clear nb
      replace nx := nx.below hb100_1
      replace HB := HB.trans (hb100_1.mono HB.size)
      clear hb100_1
      rw [cmpN_eq rfl]
      obtain ⟨Ac101, Cc101, rfl, _, _⟩ := nx.arg.open_
      simp only [hl]
      clear nx
      go_wp2_with fail
      go_ret
      exact ⟨rfl, HB⟩
    · subst h0
      go_wp2_with fail
      refine (cmp_any _ _ _ _ _ a a na nb).mono ?_
      rintro e w202_1 ⟨rfl, hbs⟩
      have hb202_1 := hbs
      clear nb
      replace na := na.below hb202_1
      replace nx := nx.below hb202_1
      replace HB := HB.trans (hb202_1.mono HB.size)
      clear hb202_1
      rw [cmpN_eq rfl]
      obtain ⟨j, hj⟩ : ∃ j, (limbs a).length = j + 1 := ⟨_, (Nat.succ_pred_eq_of_pos (len_limbs h1)).symm⟩
      obtain ⟨Ac203, Cc203, rfl, _, _⟩ := nx.arg.open_
      simp only [hj]
      clear nx
      clear hj
      have hl9 := dec_len_few ka
      have hcat : ((⟨(dec a).toArray⟩ : ByteArray) ++ ⟨#[48]⟩) = ⟨(dec a ++ [48]).toArray⟩ := cat_bytes (dec a) [48]
      have hb203_2 := (Below.refl (w202_1).heap.size (w202_1)).alloc (Nat.le_refl _) (.cells #[.int .u32 10] 39)
      have nt201 : Num ((w202_1).alloc (.cells #[.int .u32 10] 39)) (.slice (some ⟨w202_1.heap.size, 0, none⟩) 1 1) [10] 10 := lit_at _ _ rfl _ _ _ (by simp) rfl (by decide) (by decide) (by decide)
      replace na := na.below hb203_2
      replace HB := HB.trans (hb203_2.mono HB.size)
      clear hb203_2
      go_wp2_with fail
      refine (mul_any _ _ _ _ _ a 10 na nt201).mono ?_
      rintro e w203_3 ⟨vs, rfl, gs⟩
      have hb203_3 := gs.below
      have ns202 := gs.num (Nat.le_trans (sz_mul_le ka (sz_lit [10] (by decide) (by decide))) (by decide))
      clear na
      clear nt201
      replace HB := HB.trans (hb203_3.mono HB.size)
      clear hb203_3
      clear gs
      go_wp2_with fail
      refine (text_any _ _ _ (a * 10) ns202).mono ?_
      rintro e w203_4 ⟨rfl, hbs⟩
      have hb203_4 := hbs
      clear ns202
      replace HB := HB.trans (hb203_4.mono HB.size)
      clear hb203_4
      rw [dec_ten h1]
      go_wp2_with fail
      go_ret
      exact ⟨rfl, HB⟩
  · rcases Nat.eq_zero_or_pos a with h1 | h1
    · have hl : (limbs a).length = 0 := by rw [h1, limbs_zero]; rfl
      clear h1
      have hd : (dec a == dec b) = false := by rw [beq_eq_false_iff_ne]; exact fun e => h0 (dec_inj e)
      have hq := cmpN_ne h0
      go_wp2_with fail
      refine (cmp_any _ _ _ _ _ a b na nb).mono ?_
      rintro e w300_1 ⟨rfl, hbs⟩
      have hb300_1 := hbs
      clear na
      clear nb
      replace nx := nx.below hb300_1
      replace HB := HB.trans (hb300_1.mono HB.size)
      clear hb300_1
      generalize cmpN a b = c at hq ⊢
      clear h0
      obtain ⟨Ac301, Cc301, rfl, _, _⟩ := nx.arg.open_
      simp only [hl]
      clear nx
      go_wp2_with fail
      go_ret
      exact ⟨rfl, HB⟩
    · have hd : (dec a == dec b) = false := by rw [beq_eq_false_iff_ne]; exact fun e => h0 (dec_inj e)
      have hq := cmpN_ne h0
      go_wp2_with fail
      refine (cmp_any _ _ _ _ _ a b na nb).mono ?_
      rintro e w402_1 ⟨rfl, hbs⟩
      have hb402_1 := hbs
      clear nb
      replace na := na.below hb402_1
      replace nx := nx.below hb402_1
      replace HB := HB.trans (hb402_1.mono HB.size)
      clear hb402_1
      generalize cmpN a b = c at hq ⊢
      clear h0
      obtain ⟨j, hj⟩ : ∃ j, (limbs a).length = j + 1 := ⟨_, (Nat.succ_pred_eq_of_pos (len_limbs h1)).symm⟩
      obtain ⟨Ac403, Cc403, rfl, _, _⟩ := nx.arg.open_
      simp only [hj]
      clear nx
      clear hj
      have hl9 := dec_len_few ka
      have hcat : ((⟨(dec a).toArray⟩ : ByteArray) ++ ⟨#[48]⟩) = ⟨(dec a ++ [48]).toArray⟩ := cat_bytes (dec a) [48]
      have hb403_2 := (Below.refl (w402_1).heap.size (w402_1)).alloc (Nat.le_refl _) (.cells #[.int .u32 10] 39)
      have nt401 : Num ((w402_1).alloc (.cells #[.int .u32 10] 39)) (.slice (some ⟨w402_1.heap.size, 0, none⟩) 1 1) [10] 10 := lit_at _ _ rfl _ _ _ (by simp) rfl (by decide) (by decide) (by decide)
      replace na := na.below hb403_2
      replace HB := HB.trans (hb403_2.mono HB.size)
      clear hb403_2
      go_wp2_with fail
      refine (mul_any _ _ _ _ _ a 10 na nt401).mono ?_
      rintro e w403_3 ⟨vs, rfl, gs⟩
      have hb403_3 := gs.below
      have ns402 := gs.num (Nat.le_trans (sz_mul_le ka (sz_lit [10] (by decide) (by decide))) (by decide))
      clear na
      clear nt401
      replace HB := HB.trans (hb403_3.mono HB.size)
      clear hb403_3
      clear gs
      go_wp2_with fail
      refine (text_any _ _ _ (a * 10) ns402).mono ?_
      rintro e w403_4 ⟨rfl, hbs⟩
      have hb403_4 := hbs
      clear ns402
      replace HB := HB.trans (hb403_4.mono HB.size)
      clear hb403_4
      rw [dec_ten h1]
      go_wp2_with fail
      go_ret
      exact ⟨rfl, HB⟩
end Go.Proofs.YtdmghakmhfhpiaaDoor
