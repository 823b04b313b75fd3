import Derived.Test.YtmajcjdhhnhmmaaDoorGVal
/- Words for litmuslaw02.BigTexts. -/
namespace Go.Proofs.YtmajcjdhhnhmmaaDoor
open Go.RowKit Go.Num Go.Kp
attribute [local go_sem] Oper.semAt_some u64_mask
theorem good_head {l : List UInt8} (h : goodText l = true) : l.head? ≠ some 45 := by
  cases l with
  | nil => simp
  | cons x t =>
    intro e
    have hx : x = 45 := by simpa using e
    subst hx
    have : isDig 45 = true := by
      unfold goodText at h
      simp only [Bool.and_eq_true, List.all_cons] at h
      exact h.1.2.1
    exact absurd this (by decide)
theorem ztext_inj {a b : Int} (h : ztext a = ztext b) : a = b := by
  by_cases ha : a < 0
  · by_cases hb : b < 0
    · rw [ztext_neg ha, ztext_neg hb] at h
      have := dec_inj (List.cons.inj h).2
      omega
    · rw [ztext_neg ha, ztext_pos hb] at h
      exact absurd (by rw [← h]; rfl) (good_head (goodText_dec b.natAbs))
  · by_cases hb : b < 0
    · rw [ztext_pos ha, ztext_neg hb] at h
      exact absurd (by rw [h]; rfl) (good_head (goodText_dec a.natAbs))
    · rw [ztext_pos ha, ztext_pos hb] at h
      have := dec_inj h
      omega
theorem dec_ten {n : Nat} (h : 0 < n) : dec (n * 10) = dec n ++ [48] := by
  unfold dec; rw [if_neg (by omega), if_neg (by omega)]; unfold decs
  rw [vdig_pos (by omega), Nat.mul_mod_left, Nat.mul_div_cancel _ (by decide)]
  simp [Num.byteOf]
theorem ztext_ten {a : Int} (h : a ≠ 0) : ztext (a * 10) = ztext a ++ [48] := by
  have e : (a * 10).natAbs = a.natAbs * 10 := by rw [Int.natAbs_mul]; rfl
  have h0 : 0 < a.natAbs := Int.natAbs_pos.2 h
  by_cases ha : a < 0
  · rw [ztext_neg ha, ztext_neg (by omega), e, dec_ten h0]; rfl
  · rw [ztext_pos ha, ztext_pos (by omega), e, dec_ten h0]
theorem ztext_len {a : Int} {k : Nat} (h : szz a ≤ k) : (ztext a).length ≤ 10 * k + 2 := by
  have := dec_short h
  by_cases ha : a < 0
  · rw [ztext_neg ha, List.length_cons]; omega
  · rw [ztext_pos ha]; omega
theorem ztext_cons (a : Int) : ∃ c t, ztext a = c :: t ∧ (a < 0 → c = 45) ∧ (¬ a < 0 → c ≠ 45) := by
  by_cases ha : a < 0
  · exact ⟨_, _, ztext_neg ha, fun _ => rfl, fun h => absurd ha h⟩
  · have hg := goodText_dec a.natAbs
    have hh := good_head hg
    rw [ztext_pos ha]
    cases hd : dec a.natAbs with
    | nil => rw [hd] at hg; simp [goodText] at hg
    | cons c t => exact ⟨c, t, rfl, fun h => absurd h ha, fun _ e => hh (by rw [hd, e]; rfl)⟩
theorem parse_text (w : World) (z : Int) (hz : sz z.natAbs ≤ 1000) :
    Calls Tryd.prog 23 #[.string ⟨(ztext z).toArray⟩] w fun e w' => ∃ n' m', e = .returned (.tuple #[.agg #[.bool n', m'], .bool true]) ∧ MadeZ 52 w w' n' m' z := by
  have hl : (dec z.natAbs).length ≤ 900000 := Nat.le_trans (dec_short hz) (by decide)
  by_cases h : z < 0
  · rw [ztext_neg h]
    refine (parse_neg_yes w (dec z.natAbs) (goodText_dec _) (by rw [tval_dec]; omega) hl (by rw [tval_dec]; omega)).mono ?_
    rintro e w1 ⟨n, m, rfl, g⟩
    exact ⟨n, m, rfl, g.to (by rw [tval_dec]; omega)⟩
  · rw [ztext_pos h]
    refine (parse_pos_yes w (dec z.natAbs) (good_head (goodText_dec _)) (goodText_dec _) hl (by rw [tval_dec]; omega)).mono ?_
    rintro e w1 ⟨n, m, rfl, g⟩
    exact ⟨n, m, rfl, g.to (by rw [tval_dec]; omega)⟩
theorem sign_ne {a b : Int} (h : ¬ a = b) : (Int.sign (a - b) == 0) = false := by
  rw [beq_eq_false_iff_ne]
  intro e
  have := Int.sign_eq_zero_iff_zero.1 e
  omega
theorem parse_v (w : World) {z : Int} {s : ByteArray} (hs : ByteArray.mk (ztext z).toArray = s) (hz : szz z ≤ 1000) :
    Calls Tryd.prog 23 #[.string s] w fun e w' => ∃ r, e = .returned r ∧ (∃ u0, r = .tuple #[u0, .bool true] ∧ ZV w' u0 z) ∧ Grows w w' := by
  subst hs
  refine (parse_text w z hz).mono ?_
  rintro e w1 ⟨n, m, rfl, g⟩
  exact ⟨_, rfl, ⟨_, rfl, g.zv hz⟩, g.below⟩
theorem text_alike (a b : Int) : (Int.sign (a - b) == 0) = ((ByteArray.mk (ztext a).toArray).toList == (ByteArray.mk (ztext b).toArray).toList) := by
  rw [ByteArray.toList_mk, ByteArray.toList_mk]
  by_cases h : a = b
  · subst h; rw [Int.sub_self]; exact (beq_self_eq_true _).symm
  · rw [sign_ne h]; exact (beq_eq_false_iff_ne.2 fun e => h (ztext_inj e)).symm
theorem text_first (a : Int) {s : ByteArray} (hs : ByteArray.mk (ztext a).toArray = s) : ∃ (c : Int) (h : 0 < s.size), ((s[0]'h).toNat : Int) = c ∧ decide (Int.sign a < 0) = (c == 45) := by
  obtain ⟨ch, tl, hza, h1, h2⟩ := ztext_cons a
  subst hs
  have hz : ByteArray.mk (ztext a).toArray = ByteArray.mk (ch :: tl).toArray := by rw [hza]
  have h0 : 0 < (ByteArray.mk (ch :: tl).toArray).size := by show 0 < (ch :: tl).toArray.size; simp
  rw [hz]
  refine ⟨_, h0, rfl, ?_⟩
  show decide (Int.sign a < 0) = ((ch.toNat : Int) == 45)
  by_cases ha : a < 0
  · rw [h1 ha, Int.sign_eq_neg_one_of_neg ha]; rfl
  · have hc := h2 ha
    have hn : ¬ Int.sign a < 0 := by
      have := Int.sign_nonneg_iff.2 (show 0 ≤ a by omega)
      omega
    rw [decide_eq_false hn]
    symm
    rw [beq_eq_false_iff_ne]
    intro e
    exact hc (by apply UInt8.toNat_inj.1; have : (45 : UInt8).toNat = 45 := rfl; omega)
end Go.Proofs.YtmajcjdhhnhmmaaDoor
