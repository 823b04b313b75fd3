import Derived.Test.YtbippecchpaleaaGreatDoorGVal
/- Words for litmuslaw02.BigTexts. -/
namespace Go.Proofs.YtbippecchpaleaaGreatDoor
open Go.RowKit Go.Num Go.Kp
attribute [local go_sem] Oper.semAt_some u64_mask
theorem good_head {l : List UInt8} (h : goodText l = true) : l.head? ≠ some 45 := by
  cases l with
  | nil => simp
  | cons x t =>
    intro e
    have hx : x = 45 := by simpa using e
    subst hx
    have : isDig 45 = true := by
      unfold goodText at h
      simp only [Bool.and_eq_true, List.all_cons] at h
      exact h.1.2.1
    exact absurd this (by decide)
theorem ztext_inj {a b : Int} (h : ztext a = ztext b) : a = b := by
  by_cases ha : a < 0
  · by_cases hb : b < 0
    · rw [ztext_neg ha, ztext_neg hb] at h
      have := dec_inj (List.cons.inj h).2
      omega
    · rw [ztext_neg ha, ztext_pos hb] at h
      exact absurd (by rw [← h]; rfl) (good_head (goodText_dec b.natAbs))
  · by_cases hb : b < 0
    · rw [ztext_pos ha, ztext_neg hb] at h
      exact absurd (by rw [h]; rfl) (good_head (goodText_dec a.natAbs))
    · rw [ztext_pos ha, ztext_pos hb] at h
      have := dec_inj h
      omega
theorem ztext_len {a : Int} {k : Nat} (h : szz a ≤ k) : (ztext a).length ≤ 10 * k + 2 := by
  have := dec_short h
  by_cases ha : a < 0
  · rw [ztext_neg ha, List.length_cons]; omega
  · rw [ztext_pos ha]; omega
theorem parse_text (w : World) (z : Int) (hz : sz z.natAbs ≤ 1000) :
    Calls Tryz.prog 87 #[.string ⟨(ztext z).toArray⟩] w fun e w' => ∃ n' m', e = .returned (.tuple #[.agg #[.bool n', m'], .bool true]) ∧ MadeZ 43 w w' n' m' z := by
  have hl : (dec z.natAbs).length ≤ 900000 := Nat.le_trans (dec_short hz) (by decide)
  by_cases h : z < 0
  · rw [ztext_neg h]
    refine (parse_neg_yes w (dec z.natAbs) (goodText_dec _) (by rw [tval_dec]; omega) hl (by rw [tval_dec]; omega)).mono ?_
    rintro e w1 ⟨n, m, rfl, g⟩
    exact ⟨n, m, rfl, g.to (by rw [tval_dec]; omega)⟩
  · rw [ztext_pos h]
    refine (parse_pos_yes w (dec z.natAbs) (good_head (goodText_dec _)) (goodText_dec _) hl (by rw [tval_dec]; omega)).mono ?_
    rintro e w1 ⟨n, m, rfl, g⟩
    exact ⟨n, m, rfl, g.to (by rw [tval_dec]; omega)⟩
theorem parse_v (w : World) {z : Int} {s : ByteArray} (hs : ByteArray.mk (ztext z).toArray = s) (hz : szz z ≤ 1000) :
    Calls Tryz.prog 87 #[.string s] w fun e w' => ∃ r, e = .returned r ∧ (∃ u0, r = .tuple #[u0, .bool true] ∧ ZV w' u0 z) ∧ Grows w w' := by
  subst hs
  refine (parse_text w z hz).mono ?_
  rintro e w1 ⟨n, m, rfl, g⟩
  exact ⟨_, rfl, ⟨_, rfl, g.zv hz⟩, g.below⟩
end Go.Proofs.YtbippecchpaleaaGreatDoor

