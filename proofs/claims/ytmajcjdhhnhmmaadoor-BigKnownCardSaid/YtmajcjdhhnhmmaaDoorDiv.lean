import Derived.Test.YtmajcjdhhnhmmaaDoorKnuth
/- Long division of rows of limbs: what each round of nat.Div keeps. Plain mathematics. -/
namespace Go.Num

theorem val_take_drop (l : List Nat) (k : Nat) (h : k ≤ l.length) : val l = val (l.take k) + 4294967296 ^ k * val (l.drop k) := by
  have := val_append (l.take k) (l.drop k)
  rw [List.take_append_drop, List.length_take, Nat.min_eq_left h] at this
  exact this
theorem val_le_of_top {l : List Nat} {k x : Nat} (h : l[k]? = some x) : 4294967296 ^ k * x ≤ val l := by
  rw [split_at h, Nat.mul_add]
  omega
theorem zeros_of_val {l : List Nat} (h : val l = 0) : ∀ x ∈ l, x = 0 := by
  induction l with
  | nil => intro x hx; cases hx
  | cons y l ih =>
    simp only [val_cons] at h
    intro x hx
    rcases List.mem_cons.1 hx with rfl | hx
    · omega
    · exact ih (by omega) x hx

/-- The top limb of a row with its highest bit set: the row is at least half of what its length allows. -/
theorem half_le {l : List Nat} {n x : Nat} (h : l[n]? = some x) (hx : 2147483648 ≤ x) : 4294967296 ^ n * 2147483648 ≤ val l := by
  have h1 := val_le_of_top h
  have h2 : 4294967296 ^ n * 2147483648 ≤ 4294967296 ^ n * x := Nat.mul_le_mul_left _ hx
  omega

/-- One round: the part at place i, of one limb more than v, is less than 2^32 times v. -/
theorem part_lt {u0 D V : Nat} (h0 : u0 < 4294967296) (hD : D < V) : u0 + 4294967296 * D < 4294967296 * V := by omega

/-- The quotient limb of a round. -/
theorem quo_lt {U V : Nat} (hV : 0 < V) (h : U < 4294967296 * V) : U / V < 4294967296 := by
  rw [Nat.div_lt_iff_lt_mul hV]; exact h

/-- A round carried out: what has been divided so far. A = Q V + u: u = lo + P (part + PP rest), part = x V + left. -/
theorem div_round {A Q V lo P part x left : Nat} (h : A = Q * V + (lo + P * part)) (hp : part = x * V + left) : A = (Q + P * x) * V + (lo + P * left) := by
  rw [h, hp, Nat.mul_add, Nat.add_mul, Nat.mul_assoc]
  omega

/-- What comes of the division of both, moved n bits up. -/
theorem unscale {a b s Q R : Nat} (hs : 0 < s) (h : a * s = Q * (b * s) + R) (hR : R < b * s) : Q = a / b ∧ R / s = a % b := by
  have hb : 0 < b := by
    rcases Nat.eq_zero_or_pos b with h0 | h0
    · subst h0; simp at hR
    · exact h0
  have hQ : Q * (b * s) = (Q * b) * s := by rw [Nat.mul_assoc]
  have hle : Q * b ≤ a := by
    have : (Q * b) * s ≤ a * s := by rw [← hQ]; omega
    exact Nat.le_of_mul_le_mul_right this hs
  obtain ⟨d, hd⟩ : ∃ d, a = Q * b + d := ⟨a - Q * b, by omega⟩
  have hRd : R = d * s := by
    have e : a * s = (Q * b) * s + d * s := by rw [hd, Nat.add_mul]
    omega
  have hdb : d < b := by
    rw [hRd] at hR
    exact Nat.lt_of_mul_lt_mul_right hR
  refine ⟨?_, ?_⟩
  · have : a / b = Q := by
      rw [hd]
      rw [Nat.div_eq_of_lt_le]
      · omega
      · rw [Nat.add_mul]; omega
    exact this.symm
  · rw [hRd, Nat.mul_div_cancel _ hs, hd]
    rw [Nat.mul_comm Q b, Nat.mul_add_mod, Nat.mod_eq_of_lt hdb]
end Go.Num
