import Derived.Test.YtmajcjdhhnhmmaaDoorNum
/- Numbers as rows of bits, the lowest first: plain mathematics, no program in sight. -/
namespace Go.Num

/-- What a row of bits is worth. -/
def bval : List Bool → Nat
  | [] => 0
  | b :: l => b.toNat + 2 * bval l

/-- A row without its highest zeros. -/
def btz : List Bool → List Bool
  | [] => []
  | b :: l => if btz l = [] ∧ b = false then [] else b :: btz l

/-- The bits of a number. -/
def bits (n : Nat) : List Bool := if n = 0 then [] else (n % 2 == 1) :: bits (n / 2)
termination_by n
decreasing_by omega

theorem btz_cons (b : Bool) (l : List Bool) : btz (b :: l) = if btz l = [] ∧ b = false then [] else b :: btz l := rfl
@[simp] theorem bval_nil : bval [] = 0 := rfl
@[simp] theorem bval_cons (b : Bool) (l : List Bool) : bval (b :: l) = b.toNat + 2 * bval l := rfl
theorem toNat_le (b : Bool) : b.toNat ≤ 1 := by cases b <;> decide
theorem bval_append (a b : List Bool) : bval (a ++ b) = bval a + 2 ^ a.length * bval b := by
  induction a with
  | nil => simp
  | cons x a ih =>
    simp only [List.cons_append, bval_cons, List.length_cons, ih, Nat.pow_succ, Nat.mul_add]
    have h : 2 ^ a.length * 2 * bval b = 2 * (2 ^ a.length * bval b) := by
      rw [Nat.mul_comm (2 ^ a.length) 2, Nat.mul_assoc]
    omega
theorem bval_snoc (a : List Bool) (x : Bool) : bval (a ++ [x]) = bval a + 2 ^ a.length * x.toNat := by
  rw [bval_append]; simp
theorem bval_lt (l : List Bool) : bval l < 2 ^ l.length := by
  induction l with
  | nil => simp
  | cons x l ih =>
    have := toNat_le x
    simp only [bval_cons, List.length_cons, Nat.pow_succ]
    omega
theorem bval_zeros (n : Nat) : bval (List.replicate n false) = 0 := by
  induction n with
  | zero => rfl
  | succ n ih => simp [List.replicate_succ, ih]
theorem bval_btz (l : List Bool) : bval (btz l) = bval l := by
  induction l with
  | nil => rfl
  | cons x l ih =>
    rw [btz_cons]
    split
    · rename_i h
      rw [h.1] at ih
      simp [← ih, h.2]
    · simp [ih]
theorem btz_nil_iff (l : List Bool) : btz l = [] ↔ bval l = 0 := by
  induction l with
  | nil => simp [btz]
  | cons x l ih =>
    rw [btz_cons]
    simp only [bval_cons]
    constructor
    · intro h
      split at h
      · rename_i h'
        have := ih.1 h'.1
        rw [h'.2, this]; rfl
      · cases h
    · intro h
      have hx : x = false := by cases x with | false => rfl | true => simp at h
      rw [if_pos ⟨ih.2 (by omega), hx⟩]
theorem bits_zero : bits 0 = [] := by rw [bits]; simp
theorem bits_pos {n : Nat} (h : n ≠ 0) : bits n = (n % 2 == 1) :: bits (n / 2) := by rw [bits]; simp [h]
theorem bits_cons {x : Bool} {v : Nat} (h : x.toNat + 2 * v ≠ 0) : bits (x.toNat + 2 * v) = x :: bits v := by
  rw [bits_pos h]
  have hx := toNat_le x
  congr 1
  · cases x with
    | false => simp
    | true => simp
  · congr 1; omega
theorem bits_bval (l : List Bool) : bits (bval l) = btz l := by
  induction l with
  | nil => simp [btz, bits_zero]
  | cons x l ih =>
    rw [btz_cons]
    split
    · rename_i h'
      have := (btz_nil_iff l).1 h'.1
      simp [h'.2, this, bits_zero]
    · rename_i h'
      have hne : x.toNat + 2 * bval l ≠ 0 := by
        intro e
        refine h' ⟨(btz_nil_iff l).2 (by omega), ?_⟩
        cases x with
        | false => rfl
        | true => simp at e
      rw [bval_cons, bits_cons hne, ih]
theorem bval_bits (n : Nat) : bval (bits n) = n := by
  induction n using Nat.strongRecOn with
  | _ n ih =>
    by_cases h : n = 0
    · rw [h, bits_zero]; rfl
    · rw [bits_pos h, bval_cons, ih _ (by omega)]
      by_cases hp : n % 2 = 1
      · simp [hp]; omega
      · have : n % 2 = 0 := by omega
        simp [this]; omega
theorem btz_bits (n : Nat) : btz (bits n) = bits n := by rw [← bits_bval, bval_bits]
theorem bits_inj {a b : Nat} (h : bits a = bits b) : a = b := by rw [← bval_bits a, ← bval_bits b, h]
theorem bits_nil_iff (n : Nat) : bits n = [] ↔ n = 0 := by
  constructor
  · intro h; rw [← bval_bits n, h]; rfl
  · intro h; rw [h, bits_zero]
theorem bits_length_le (n k : Nat) : (bits n).length ≤ k ↔ n < 2 ^ k := by
  induction k generalizing n with
  | zero => simp [bits_nil_iff]
  | succ k ih =>
    by_cases h : n = 0
    · subst h
      simp [bits_zero]
      exact Nat.pow_pos (by decide)
    · rw [bits_pos h, List.length_cons, Nat.add_le_add_iff_right, ih, Nat.pow_succ]
      rw [Nat.div_lt_iff_lt_mul (by decide)]
theorem btz_length_le (l : List Bool) : (btz l).length ≤ l.length := by
  induction l with
  | nil => simp [btz]
  | cons x l ih =>
    rw [btz_cons]
    split
    · simp
    · simpa using ih
theorem bits_last (n : Nat) (x : Bool) (h : (bits n)[(bits n).length - 1]? = some x) : x = true := by
  induction n using Nat.strongRecOn with
  | _ n ih =>
    by_cases h0 : n = 0
    · rw [h0, bits_zero] at h; simp at h
    · rw [bits_pos h0] at h
      by_cases h1 : n / 2 = 0
      · rw [h1, bits_zero] at h
        simp at h
        rw [← h]
        simp; omega
      · have hne : bits (n / 2) ≠ [] := fun e => h1 ((bits_nil_iff _).1 e)
        have hl : 0 < (bits (n / 2)).length := List.length_pos_iff.2 hne
        refine ih (n / 2) (by omega) ?_
        rw [← h, List.length_cons, Nat.add_sub_cancel]
        obtain ⟨m, hm⟩ : ∃ m, (bits (n / 2)).length = m + 1 := ⟨_, (Nat.succ_pred_eq_of_pos hl).symm⟩
        rw [hm]; simp
theorem btake_tz {l : List Bool} {n : Nat} (hn : n ≤ l.length) (hz : ∀ i x, n ≤ i → l[i]? = some x → x = false) (hl : ∀ x, 0 < n → l[n - 1]? = some x → x = true) : l.take n = btz l := by
  induction l generalizing n with
  | nil => simp [btz]
  | cons y l ih =>
    cases n with
    | zero =>
      have : btz (y :: l) = [] := by
        rw [btz_nil_iff]
        have hall : ∀ (m : List Bool), (∀ (i : Nat) (x : Bool), m[i]? = some x → x = false) → bval m = 0 := by
          intro m
          induction m with
          | nil => intro _; rfl
          | cons a m ihm =>
            intro hm
            have h1 := hm 0 a (by simp)
            have h2 := ihm (fun i x hx => hm (i + 1) x (by simpa using hx))
            simp [h1, h2]
        exact hall _ (fun i x hx => hz i x (Nat.zero_le _) hx)
      rw [this]; simp
    | succ n =>
      have ih' := ih (n := n) (by simpa using hn) (fun i x hi hx => hz (i + 1) x (by omega) (by simpa using hx)) (fun x h0 hx => hl x (by omega) (by
        obtain ⟨m, rfl⟩ : ∃ m, n = m + 1 := ⟨n - 1, by omega⟩
        simpa using hx))
      rw [List.take_succ_cons, ih', btz_cons]
      split
      · rename_i h'
        exfalso
        have hn0 : n = 0 := by
          rcases Nat.eq_zero_or_pos n with h0 | h0
          · exact h0
          · exfalso
            have := congrArg List.length (ih'.trans h'.1)
            simp at this
            have hlen : n ≤ l.length := by simpa using hn
            rcases this with h | h
            · omega
            · rw [h] at hlen; simp at hlen; omega
        subst hn0
        have := hl y (by omega) (by simp)
        rw [h'.2] at this
        cases this
      · rfl
theorem bsplit_at {l : List Bool} {k : Nat} {x : Bool} (h : l[k]? = some x) : bval l = bval (l.take k) + 2 ^ k * (x.toNat + 2 * bval (l.drop (k + 1))) := by
  have hk := len_of_get h
  have e : l = l.take k ++ (x :: l.drop (k + 1)) := by
    have hx : l[k] = x := by
      have := List.getElem?_eq_getElem hk
      rw [this] at h; simpa using h
    rw [← hx, List.getElem_cons_drop, List.take_append_drop]
  have := congrArg bval e
  rw [bval_append, List.length_take, Nat.min_eq_left (by omega), bval_cons] at this
  exact this
theorem blt_of_top {a b : List Bool} {k : Nat} (hx : a[k]? = some false) (hy : b[k]? = some true) (hs : a.drop (k + 1) = b.drop (k + 1)) : bval a < bval b := by
  have e1 := bsplit_at hx
  have e2 := bsplit_at hy
  have l1 := bval_lt (a.take k)
  rw [List.length_take, Nat.min_eq_left (by have := len_of_get hx; omega)] at l1
  rw [hs] at e1
  generalize bval (b.drop (k + 1)) = d at e1 e2
  rw [Nat.mul_add] at e1 e2
  simp at e1 e2
  omega
theorem blt_of_length {a b : Nat} (h : (bits a).length < (bits b).length) : a < b := by
  rcases Nat.lt_or_ge a b with h' | h'
  · exact h'
  · exfalso
    have h1 := (bits_length_le a (bits a).length).1 (Nat.le_refl _)
    have h2 := (bits_length_le b (bits a).length).2 (by omega)
    omega
/-- One step of a sum of bits. -/
theorem badd_step {P W X Y c x y d c' : Nat} (h : W + P * c = X + Y) (hd : c + (x + y) = d + 2 * c') : (W + P * d) + (P * 2) * c' = (X + P * x) + (Y + P * y) := by
  have e : P * (c + (x + y)) = P * (d + 2 * c') := by rw [hd]
  rw [Nat.mul_add, Nat.mul_add, Nat.mul_add, ← Nat.mul_assoc] at e
  omega
theorem bsub_step {P W X Y b x y d b' : Nat} (h : X + P * b = W + Y) (hd : x + 2 * b' = d + y + b) : (X + P * x) + (P * 2) * b' = (W + P * d) + (Y + P * y) := by
  have e : P * (x + 2 * b') = P * (d + y + b) := by rw [hd]
  rw [Nat.mul_add, Nat.mul_add, Nat.mul_add, ← Nat.mul_assoc] at e
  omega
end Go.Num
