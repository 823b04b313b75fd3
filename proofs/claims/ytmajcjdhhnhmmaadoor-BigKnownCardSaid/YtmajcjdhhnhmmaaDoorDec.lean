import Derived.Test.YtmajcjdhhnhmmaaDoorNum
/- Decimal digits, the lowest first: plain mathematics, no program in sight. -/
namespace Go.Num

/-- What a row of digits is worth. -/
def dval : List Nat → Nat
  | [] => 0
  | x :: l => x + 10 * dval l
/-- Each is a digit. -/
def Dig (l : List Nat) : Prop := ∀ x ∈ l, x < 10
/-- The digits of a number, without highest zeros. -/
def vdig (n : Nat) : List Nat := if n = 0 then [] else n % 10 :: vdig (n / 10)
termination_by n
decreasing_by omega
/-- So many lowest digits. -/
def vlow : Nat → Nat → List Nat
  | 0, _ => []
  | k + 1, n => n % 10 :: vlow k (n / 10)
/-- A row without its highest zeros. -/
def dtz : List Nat → List Nat
  | [] => []
  | x :: l => if dtz l = [] ∧ x = 0 then [] else x :: dtz l

@[simp] theorem dval_nil : dval [] = 0 := rfl
@[simp] theorem dval_cons (x : Nat) (l : List Nat) : dval (x :: l) = x + 10 * dval l := rfl
theorem dtz_cons (x : Nat) (l : List Nat) : dtz (x :: l) = if dtz l = [] ∧ x = 0 then [] else x :: dtz l := rfl
theorem vdig_zero : vdig 0 = [] := by rw [vdig]; simp
theorem vdig_pos {n : Nat} (h : n ≠ 0) : vdig n = n % 10 :: vdig (n / 10) := by rw [vdig]; simp [h]
theorem dval_append (a b : List Nat) : dval (a ++ b) = dval a + 10 ^ a.length * dval b := by
  induction a with
  | nil => simp
  | cons x a ih =>
    simp only [List.cons_append, dval_cons, List.length_cons, ih, Nat.pow_succ, Nat.mul_add]
    have h : 10 ^ a.length * 10 * dval b = 10 * (10 ^ a.length * dval b) := by
      rw [Nat.mul_comm (10 ^ a.length) 10, Nat.mul_assoc]
    omega
theorem dval_snoc (a : List Nat) (x : Nat) : dval (a ++ [x]) = dval a + 10 ^ a.length * x := by
  rw [dval_append]; simp
theorem dval_lt {l : List Nat} (h : Dig l) : dval l < 10 ^ l.length := by
  induction l with
  | nil => simp
  | cons x l ih =>
    have h1 := h x (by simp)
    have h2 := ih (fun y hy => h y (by simp [hy]))
    simp only [dval_cons, List.length_cons, Nat.pow_succ]
    omega
theorem dtz_nil_iff (l : List Nat) : dtz l = [] ↔ dval l = 0 := by
  induction l with
  | nil => simp [dtz]
  | cons x l ih =>
    rw [dtz_cons]
    simp only [dval_cons]
    constructor
    · intro h
      split at h
      · rename_i h'
        have := ih.1 h'.1
        omega
      · cases h
    · intro h
      rw [if_pos ⟨ih.2 (by omega), by omega⟩]
theorem vdig_cons {x v : Nat} (hx : x < 10) (h : x + 10 * v ≠ 0) : vdig (x + 10 * v) = x :: vdig v := by
  rw [vdig_pos h]
  congr 1
  · omega
  · congr 1; omega
theorem vdig_dval {l : List Nat} (h : Dig l) : vdig (dval l) = dtz l := by
  induction l with
  | nil => simp [dtz, vdig_zero]
  | cons x l ih =>
    have h1 := h x (by simp)
    have h2 := ih (fun y hy => h y (by simp [hy]))
    rw [dtz_cons]
    split
    · rename_i h'
      have := (dtz_nil_iff l).1 h'.1
      simp [h'.2, this, vdig_zero]
    · rename_i h'
      have hne : x + 10 * dval l ≠ 0 := by
        intro e
        exact h' ⟨(dtz_nil_iff l).2 (by omega), by omega⟩
      rw [dval_cons, vdig_cons h1 hne, h2]
theorem vdig_dig (n : Nat) : Dig (vdig n) := by
  induction n using Nat.strongRecOn with
  | _ n ih =>
    by_cases h : n = 0
    · rw [h, vdig_zero]; intro x hx; cases hx
    · rw [vdig_pos h]
      intro x hx
      rcases List.mem_cons.1 hx with rfl | hx
      · exact Nat.mod_lt _ (by decide)
      · exact ih _ (by omega) x hx
theorem dval_vdig (n : Nat) : dval (vdig n) = n := by
  induction n using Nat.strongRecOn with
  | _ n ih =>
    by_cases h : n = 0
    · rw [h, vdig_zero]; rfl
    · rw [vdig_pos h, dval_cons, ih _ (by omega)]
      omega
theorem vdig_inj {a b : Nat} (h : vdig a = vdig b) : a = b := by rw [← dval_vdig a, ← dval_vdig b, h]
theorem vdig_nil_iff (n : Nat) : vdig n = [] ↔ n = 0 := by
  constructor
  · intro h; rw [← dval_vdig n, h]; rfl
  · intro h; rw [h, vdig_zero]
theorem vdig_length_le (n k : Nat) : (vdig n).length ≤ k ↔ n < 10 ^ k := by
  induction k generalizing n with
  | zero => simp [vdig_nil_iff]
  | succ k ih =>
    by_cases h : n = 0
    · subst h
      simp [vdig_zero]
      exact Nat.pow_pos (by decide)
    · rw [vdig_pos h, List.length_cons, Nat.add_le_add_iff_right, ih, Nat.pow_succ]
      rw [Nat.div_lt_iff_lt_mul (by decide)]
theorem vlow_length (k n : Nat) : (vlow k n).length = k := by
  induction k generalizing n with
  | zero => rfl
  | succ k ih => simp [vlow, ih]
theorem vlow_snoc (k n : Nat) : vlow (k + 1) n = vlow k n ++ [n / 10 ^ k % 10] := by
  induction k generalizing n with
  | zero => simp [vlow]
  | succ k ih =>
    have : vlow (k + 1 + 1) n = n % 10 :: vlow (k + 1) (n / 10) := rfl
    rw [this, ih, Nat.div_div_eq_div_mul, Nat.pow_succ, Nat.mul_comm 10]
    rfl
/-- Of a number below 10^k the k lowest digits are its digits and zeros. -/
theorem vlow_eq {k n : Nat} (h : n < 10 ^ k) : vlow k n = vdig n ++ List.replicate (k - (vdig n).length) 0 := by
  induction k generalizing n with
  | zero =>
    have : n = 0 := by simpa using h
    subst this
    simp [vlow, vdig_zero]
  | succ k ih =>
    have h' : n / 10 < 10 ^ k := by
      rw [Nat.div_lt_iff_lt_mul (by decide), ← Nat.pow_succ]; exact h
    have e : vlow (k + 1) n = n % 10 :: vlow k (n / 10) := rfl
    rw [e, ih h']
    by_cases h0 : n = 0
    · subst h0
      simp [vdig_zero, List.replicate_succ]
    · rw [vdig_pos h0, List.length_cons, List.cons_append]
      congr 3
      omega
theorem vdig_last (n : Nat) (x : Nat) (h : (vdig n)[(vdig n).length - 1]? = some x) : x ≠ 0 := by
  induction n using Nat.strongRecOn with
  | _ n ih =>
    by_cases h0 : n = 0
    · rw [h0, vdig_zero] at h; simp at h
    · rw [vdig_pos h0] at h
      by_cases h1 : n / 10 = 0
      · rw [h1, vdig_zero] at h
        simp at h
        omega
      · have hne : vdig (n / 10) ≠ [] := fun e => h1 ((vdig_nil_iff _).1 e)
        have hl : 0 < (vdig (n / 10)).length := List.length_pos_iff.2 hne
        refine ih (n / 10) (by omega) ?_
        rw [← h, List.length_cons, Nat.add_sub_cancel]
        obtain ⟨m, hm⟩ : ∃ m, (vdig (n / 10)).length = m + 1 := ⟨_, (Nat.succ_pred_eq_of_pos hl).symm⟩
        rw [hm]; simp

/-- A digit's byte. -/
def byteOf (x : Nat) : UInt8 := UInt8.ofNat (48 + x)
/-- The digits of a number as bytes, the highest first; none of 0. -/
def decs (n : Nat) : List UInt8 := ((vdig n).map byteOf).reverse
/-- The text of a number. -/
def dec (n : Nat) : List UInt8 := if n = 0 then [48] else decs n

theorem byteOf_toNat {x : Nat} (h : x < 10) : (byteOf x).toNat = 48 + x := by
  simp [byteOf]; omega
theorem byteOf_inj {x y : Nat} (hx : x < 10) (hy : y < 10) (h : byteOf x = byteOf y) : x = y := by
  have := congrArg UInt8.toNat h
  rw [byteOf_toNat hx, byteOf_toNat hy] at this
  omega
theorem map_byteOf_inj {a b : List Nat} (ha : Dig a) (hb : Dig b) (h : a.map byteOf = b.map byteOf) : a = b := by
  induction a generalizing b with
  | nil => cases b with | nil => rfl | cons y b => simp at h
  | cons x a ih =>
    cases b with
    | nil => simp at h
    | cons y b =>
      simp only [List.map_cons, List.cons.injEq] at h
      rw [byteOf_inj (ha x (by simp)) (hb y (by simp)) h.1, ih (fun z hz => ha z (by simp [hz])) (fun z hz => hb z (by simp [hz])) h.2]
theorem decs_nil_iff (n : Nat) : decs n = [] ↔ n = 0 := by
  simp [decs, vdig_nil_iff]
theorem decs_inj {a b : Nat} (h : decs a = decs b) : a = b := by
  unfold decs at h
  exact vdig_inj (map_byteOf_inj (vdig_dig a) (vdig_dig b) (by simpa using h))
theorem decs_head {n : Nat} {c : UInt8} {l : List UInt8} (h : decs n = c :: l) : c ≠ 48 := by
  intro hc
  have hne : vdig n ≠ [] := by
    intro e
    simp [decs, e] at h
  have hl : 0 < (vdig n).length := List.length_pos_iff.2 hne
  obtain ⟨x, hx⟩ := get_some (l := vdig n) (k := (vdig n).length - 1) (by omega)
  have hx0 := vdig_last n x hx
  have hx10 := vdig_dig n x (List.mem_of_getElem? hx)
  have : (decs n)[0]? = some (byteOf x) := by
    unfold decs
    rw [List.getElem?_reverse (by simpa using hl), List.length_map, List.getElem?_map]
    simp only [Nat.sub_zero]
    rw [hx]; rfl
  rw [h] at this
  simp at this
  rw [hc] at this
  have := congrArg UInt8.toNat this
  rw [byteOf_toNat hx10] at this
  simp at this
  omega
theorem dec_inj {a b : Nat} (h : dec a = dec b) : a = b := by
  unfold dec at h
  split at h <;> split at h
  · omega
  · exact absurd rfl (decs_head h.symm)
  · exact absurd rfl (decs_head h)
  · exact decs_inj h
/-- What nat.Text makes of the k lowest digits: turned round, zeros struck ahead. -/
theorem strike_zeros {k n : Nat} (h : n < 10 ^ k) : ((vlow k n).map byteOf).reverse.dropWhile (fun b => b == 48) = decs n := by
  rw [vlow_eq h]
  simp only [List.map_append, List.map_replicate, List.reverse_append, List.reverse_replicate]
  have h48 : byteOf 0 = 48 := rfl
  rw [h48, List.dropWhile_append_of_pos (by intro x hx; simp [(List.mem_replicate.1 hx).2])]
  show List.dropWhile _ (decs n) = decs n
  cases hd : decs n with
  | nil => rfl
  | cons c l =>
    have := decs_head hd
    rw [List.dropWhile_cons_of_neg (by simpa using this)]
theorem decs_length_le (n k : Nat) : (decs n).length ≤ k ↔ n < 10 ^ k := by
  rw [← vdig_length_le]; simp [decs]

/-- What the digits of a text are worth, the highest first, behind v. -/
def tval (v : Nat) : List UInt8 → Nat
  | [] => v
  | c :: l => tval (10 * v + (c.toNat - 48)) l
/-- Bytes that are digits. -/
def isDig (c : UInt8) : Bool := 48 ≤ c && c ≤ 57
/-- Digits of a number: not none; no 0 ahead but of 0. -/
def goodText (l : List UInt8) : Bool := !l.isEmpty && l.all isDig && (l.head? != some 48 || l == [48])
theorem tval_append (v : Nat) (a b : List UInt8) : tval v (a ++ b) = tval (tval v a) b := by
  induction a generalizing v with
  | nil => rfl
  | cons c a ih => exact ih _
theorem tval_snoc (v : Nat) (a : List UInt8) (c : UInt8) : tval v (a ++ [c]) = 10 * tval v a + (c.toNat - 48) := by
  rw [tval_append]; rfl
theorem isDig_iff (c : UInt8) : isDig c = true ↔ 48 ≤ c.toNat ∧ c.toNat ≤ 57 := by
  simp [isDig, UInt8.le_iff_toNat_le]
theorem tval_rev (l : List Nat) (h : Dig l) : tval 0 (l.map byteOf).reverse = dval l := by
  induction l with
  | nil => rfl
  | cons x l ih =>
    rw [List.map_cons, List.reverse_cons, tval_snoc, ih (fun y hy => h y (by simp [hy])), byteOf_toNat (h x (by simp)), dval_cons]
    omega
theorem tval_dec (n : Nat) : tval 0 (dec n) = n := by
  unfold dec
  split
  · rename_i h; rw [h]; rfl
  · rw [decs, tval_rev _ (vdig_dig n), dval_vdig]
theorem goodText_dec (n : Nat) : goodText (dec n) = true := by
  unfold dec goodText
  split
  · decide
  · rename_i h
    have hne : decs n ≠ [] := fun e => h ((decs_nil_iff n).1 e)
    cases hd : decs n with
    | nil => exact absurd hd hne
    | cons c l =>
      have h1 := decs_head hd
      have h2 : (decs n).all isDig = true := by
        rw [List.all_eq_true]
        intro c hc
        simp only [decs, List.mem_reverse, List.mem_map] at hc
        obtain ⟨x, hx, rfl⟩ := hc
        have := vdig_dig n x hx
        rw [isDig_iff, byteOf_toNat this]
        omega
      rw [hd] at h2
      simp [h2, h1]
end Go.Num
