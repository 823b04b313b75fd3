import Derived.Test.YtmajcjdhhnhmmaaDoorGVal
/- Words for litmuslaw02.BigFloor. -/
namespace Go.Proofs.YtmajcjdhhnhmmaaDoor
open Go.RowKit Go.Num Go.Kp
theorem floor_ok {a b : Int} : decide (b * Int.fdiv a b + Int.fmod a b = a) = true := decide_eq_true (Int.mul_fdiv_add_fmod a b)
theorem fmod_sign {a b : Int} (h : b ≠ 0) (h0 : Int.fmod a b ≠ 0) : Int.sign (Int.fmod a b) = Int.sign b := by
  rcases Int.lt_trichotomy b 0 with hb | hb | hb
  · have h1 := Int.fmod_nonneg_of_pos (-a) (b := -b) (by omega)
    rw [Int.neg_fmod_neg] at h1
    rw [Int.sign_eq_neg_one_of_neg hb, Int.sign_eq_neg_one_of_neg (by omega)]
  · exact absurd hb h
  · have h1 := Int.fmod_nonneg_of_pos a hb
    rw [Int.sign_eq_one_of_pos hb, Int.sign_eq_one_of_pos (by omega)]
theorem fmod_cmp {a b : Int} (h : 0 < b) : Int.sign (Int.fmod a b - b) = -1 := by
  have := Int.fmod_lt_of_pos a h
  exact Int.sign_eq_neg_one_of_neg (by omega)
theorem fmod_cmp' {a b : Int} (h : b < 0) : Int.sign (Int.fmod a b - b) = 1 := by
  have h1 := Int.fmod_lt_of_pos (-a) (b := -b) (by omega)
  rw [Int.neg_fmod_neg] at h1
  exact Int.sign_eq_one_of_pos (by omega)
theorem fmod_range {b : Int} (c : Int) (h : b ≠ 0) : 0 < b ∧ 0 ≤ Int.fmod c b ∧ Int.fmod c b < b ∨ b < 0 ∧ b < Int.fmod c b ∧ Int.fmod c b ≤ 0 := by
  rcases Int.lt_trichotomy b 0 with hb | hb | hb
  · right
    have h1 := Int.fmod_nonneg_of_pos (-c) (b := -b) (by omega)
    have h2 := Int.fmod_lt_of_pos (-c) (b := -b) (by omega)
    rw [Int.neg_fmod_neg] at h1 h2
    omega
  · exact absurd hb h
  · left
    exact ⟨hb, Int.fmod_nonneg_of_pos c hb, Int.fmod_lt_of_pos c hb⟩
theorem floor_back {a b c : Int} (h : b ≠ 0) : Int.fdiv (a * b + Int.fmod c b) b = a ∧ Int.fmod (a * b + Int.fmod c b) b = Int.fmod c b :=
  fdiv_uniq (by rw [Int.mul_comm]; omega) (fmod_range c h)
theorem floor_times {a b c : Int} (hb : b ≠ 0) (hc : c ≠ 0) : Int.fdiv (a * c) (b * c) = Int.fdiv a b := by
  have h0 := Int.mul_fdiv_add_fmod a b
  have e : Int.fmod a b * c + b * c * Int.fdiv a b = a * c := by rw [Int.mul_right_comm, ← Int.add_mul, Int.add_comm, h0]
  refine (fdiv_uniq e ?_).1
  rcases fmod_range a hb with ⟨h1, h2, h3⟩ | ⟨h1, h2, h3⟩ <;> rcases Int.lt_trichotomy c 0 with h4 | h4 | h4
  · right; exact ⟨Int.mul_neg_of_pos_of_neg h1 h4, Int.mul_lt_mul_of_neg_right h3 h4, Int.mul_nonpos_of_nonneg_of_nonpos h2 (by omega)⟩
  · exact absurd h4 hc
  · left; exact ⟨Int.mul_pos h1 h4, Int.mul_nonneg h2 (by omega), Int.mul_lt_mul_of_pos_right h3 h4⟩
  · left; exact ⟨Int.mul_pos_of_neg_of_neg h1 h4, Int.mul_nonneg_of_nonpos_of_nonpos h3 (by omega), Int.mul_lt_mul_of_neg_right h2 h4⟩
  · exact absurd h4 hc
  · right; exact ⟨Int.mul_neg_of_neg_of_pos h1 h4, Int.mul_lt_mul_of_pos_right h2 h4, Int.mul_nonpos_of_nonpos_of_nonneg h3 (by omega)⟩
end Go.Proofs.YtmajcjdhhnhmmaaDoor
