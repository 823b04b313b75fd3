import Derived.Test.YtmajcjdhhnhmmaaDoorNum
/- Sums, products and long division of rows of limbs, step by step: plain mathematics. -/
namespace Go.Num

/-- One step of a sum. -/
theorem add_step {P W X Y c x y d c' : Nat} (h : W + P * c = X + Y) (hd : c + (x + y) = d + 4294967296 * c') : (W + P * d) + (P * 4294967296) * c' = (X + P * x) + (Y + P * y) := by
  have e : P * (c + (x + y)) = P * (d + 4294967296 * c') := by rw [hd]
  rw [Nat.mul_add, Nat.mul_add, Nat.mul_add, ← Nat.mul_assoc] at e
  omega
/-- One step of a difference. -/
theorem sub_step {P W X Y b x y d b' : Nat} (h : X + P * b = W + Y) (hd : x + 4294967296 * b' = d + y + b) : (X + P * x) + (P * 4294967296) * b' = (W + P * d) + (Y + P * y) := by
  have e : P * (x + 4294967296 * b') = P * (d + y + b) := by rw [hd]
  rw [Nat.mul_add, Nat.mul_add, Nat.mul_add, ← Nat.mul_assoc] at e
  omega
/-- One step of a product by one limb. -/
theorem by_step {P W A x m y d m' : Nat} {M : Nat} (h : W + P * m = M + x * A) (hd : m + x * y = d + 4294967296 * m') : (W + P * d) + (P * 4294967296) * m' = M + x * (A + P * y) := by
  have e : P * (m + x * y) = P * (d + 4294967296 * m') := by rw [hd]
  have e2 : x * (P * y) = P * (x * y) := by rw [Nat.mul_left_comm]
  rw [Nat.mul_add, Nat.mul_add, ← Nat.mul_assoc P 4294967296 m'] at e
  rw [Nat.mul_add, e2]
  omega
theorem pow_succ' (k : Nat) : 4294967296 ^ (k + 1) = 4294967296 ^ k * 4294967296 := Nat.pow_succ ..

/-- The guess is never too small: at first. -/
theorem guess_first {B T v1 V U L D q : Nat} (hV : V = v1 * D + L) (hU : U < (T + 1) * D) (hq : q * V ≤ U) (_hB : B = B) : q * v1 ≤ T := by
  have h1 : q * (v1 * D) ≤ q * V := by rw [hV]; exact Nat.mul_le_mul_left _ (by omega)
  have h2 : q * v1 * D < (T + 1) * D := by rw [Nat.mul_assoc]; omega
  have h3 : q * v1 < T + 1 := Nat.lt_of_mul_lt_mul_right h2
  omega
/-- Where the guess times the two highest limbs is more than the three highest, it is too much. -/
theorem guess_much {q v1 v2 L D V U top u2 left : Nat} (hV : V = (v1 * 4294967296 + v2) * D + L) (hU : U < (top * 4294967296 + u2 + 1) * D) (ht : top = q * v1 + left) (h : left * 4294967296 + u2 < q * v2) : U < q * V := by
  have e1 : q * (v1 * 4294967296 + v2) = (q * v1) * 4294967296 + q * v2 := by rw [Nat.mul_add, Nat.mul_assoc]
  have h1 : top * 4294967296 + u2 + 1 ≤ q * (v1 * 4294967296 + v2) := by rw [e1, ht, Nat.add_mul]; omega
  have h2 : (top * 4294967296 + u2 + 1) * D ≤ q * (v1 * 4294967296 + v2) * D := Nat.mul_le_mul_right _ h1
  have h3 : q * (v1 * 4294967296 + v2) * D ≤ q * V := by rw [hV, Nat.mul_assoc]; exact Nat.mul_le_mul_left _ (Nat.le_add_right _ _)
  exact Nat.lt_of_lt_of_le hU (Nat.le_trans h2 h3)
/-- Where it is not, it is at most one too many. -/
theorem guess_fair {q v1 v2 L D V U top u2 left : Nat} (hV : V = (v1 * 4294967296 + v2) * D + L) (hL : L < D) (hv1 : 0 < v1) (hU : (top * 4294967296 + u2) * D ≤ U) (ht : top = q * v1 + left) (hq : q < 4294967296)
    (h : q * v2 ≤ left * 4294967296 + u2) : (q - 1) * V ≤ U := by
  have e1 : q * (v1 * 4294967296 + v2) = (q * v1) * 4294967296 + q * v2 := by rw [Nat.mul_add, Nat.mul_assoc]
  have h1 : q * (v1 * 4294967296 + v2) ≤ top * 4294967296 + u2 := by rw [e1, ht, Nat.add_mul]; omega
  have h2 : q * (v1 * 4294967296 + v2) * D ≤ (top * 4294967296 + u2) * D := Nat.mul_le_mul_right _ h1
  have h3 : q * V = q * (v1 * 4294967296 + v2) * D + q * L := by rw [hV, Nat.mul_add, Nat.mul_assoc]
  have h4 : q * L ≤ 4294967296 * D := Nat.mul_le_mul (by omega) (by omega)
  have h5 : 4294967296 * D ≤ (v1 * 4294967296 + v2) * D := Nat.mul_le_mul_right _ (by omega)
  rw [Nat.sub_mul]
  omega
/-- The same, where what is left has grown beyond a limb. -/
theorem guess_broke {q v1 v2 L D V U top u2 left : Nat} (hV : V = (v1 * 4294967296 + v2) * D + L) (hL : L < D) (hv1 : 0 < v1) (hv2 : v2 < 4294967296) (hU : (top * 4294967296 + u2) * D ≤ U) (ht : top = q * v1 + left) (hq : q < 4294967296)
    (h : 4294967296 ≤ left) : (q - 1) * V ≤ U := by
  refine guess_fair hV hL hv1 hU ht hq ?_
  have h0 : q * v2 ≤ 4294967296 * v2 := Nat.mul_le_mul_right _ (by omega)
  omega

/-- What is taken away so often: one step. -/
theorem take_step {P U W V q x u w lo hi c b b' : Nat} (h : U + P * b + P * c = W + q * V) (hc : c + q * x = lo + 4294967296 * hi) (hd : u + 4294967296 * b' = w + lo + b) :
    (U + P * u) + (P * 4294967296) * b' + (P * 4294967296) * hi = (W + P * w) + q * (V + P * x) := by
  have e1 : P * (c + q * x) = P * (lo + 4294967296 * hi) := by rw [hc]
  have e2 : P * (u + 4294967296 * b') = P * (w + lo + b) := by rw [hd]
  have e3 : q * (P * x) = P * (q * x) := by rw [Nat.mul_left_comm]
  rw [Nat.mul_add, Nat.mul_add, ← Nat.mul_assoc P 4294967296 hi] at e1
  rw [Nat.mul_add, Nat.mul_add, Nat.mul_add, ← Nat.mul_assoc] at e2
  rw [Nat.mul_add, e3]
  omega
end Go.Num
