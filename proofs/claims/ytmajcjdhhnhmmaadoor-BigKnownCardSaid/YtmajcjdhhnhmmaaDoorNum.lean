/- Numbers as rows of limbs of 32 bits, the lowest first: plain mathematics, no program in sight. No conditions but those that each theorem states. -/
namespace Go.Num

/-- What a row of limbs is worth. -/
def val : List Nat → Nat
  | [] => 0
  | x :: l => x + 4294967296 * val l

/-- Each limb is below 2^32. -/
def Lim (l : List Nat) : Prop := ∀ x ∈ l, x < 4294967296

/-- A row without its highest zeros. -/
def tz : List Nat → List Nat
  | [] => []
  | x :: l => if tz l = [] ∧ x = 0 then [] else x :: tz l

/-- The right row of a number. -/
def limbs (n : Nat) : List Nat := if n = 0 then [] else n % 4294967296 :: limbs (n / 4294967296)
termination_by n
decreasing_by omega

theorem tz_cons (x : Nat) (l : List Nat) : tz (x :: l) = if tz l = [] ∧ x = 0 then [] else x :: tz l := rfl
@[simp] theorem val_nil : val [] = 0 := rfl
@[simp] theorem val_cons (x : Nat) (l : List Nat) : val (x :: l) = x + 4294967296 * val l := rfl
theorem val_append (a b : List Nat) : val (a ++ b) = val a + 4294967296 ^ a.length * val b := by
  induction a with
  | nil => simp
  | cons x a ih =>
    simp only [List.cons_append, val_cons, List.length_cons, ih, Nat.pow_succ, Nat.mul_add]
    have h : 4294967296 ^ a.length * 4294967296 * val b = 4294967296 * (4294967296 ^ a.length * val b) := by
      rw [Nat.mul_comm (4294967296 ^ a.length) 4294967296, Nat.mul_assoc]
    omega
theorem val_snoc (a : List Nat) (x : Nat) : val (a ++ [x]) = val a + 4294967296 ^ a.length * x := by
  rw [val_append]; simp
theorem val_zeros (n : Nat) : val (List.replicate n 0) = 0 := by
  induction n with
  | zero => rfl
  | succ n ih => simp [List.replicate_succ, ih]

theorem Lim.nil : Lim [] := fun _ h => by cases h
theorem Lim.cons {x : Nat} {l : List Nat} (hx : x < 4294967296) (h : Lim l) : Lim (x :: l) := by
  intro y hy
  rcases List.mem_cons.1 hy with rfl | hy
  · exact hx
  · exact h y hy
theorem Lim.head {x : Nat} {l : List Nat} (h : Lim (x :: l)) : x < 4294967296 := h x (by simp)
theorem Lim.tail {x : Nat} {l : List Nat} (h : Lim (x :: l)) : Lim l := fun y hy => h y (by simp [hy])
theorem Lim.append {a b : List Nat} (ha : Lim a) (hb : Lim b) : Lim (a ++ b) := by
  intro y hy
  rcases List.mem_append.1 hy with h | h
  · exact ha y h
  · exact hb y h
theorem Lim.left {a b : List Nat} (h : Lim (a ++ b)) : Lim a := fun y hy => h y (by simp [hy])
theorem Lim.right {a b : List Nat} (h : Lim (a ++ b)) : Lim b := fun y hy => h y (by simp [hy])
theorem Lim.one {x : Nat} (hx : x < 4294967296) : Lim [x] := Lim.cons hx Lim.nil
theorem Lim.snoc {a : List Nat} {x : Nat} (ha : Lim a) (hx : x < 4294967296) : Lim (a ++ [x]) := ha.append (Lim.one hx)
theorem Lim.take {a : List Nat} (h : Lim a) (n : Nat) : Lim (a.take n) := fun y hy => h y (List.mem_of_mem_take hy)
theorem Lim.drop {a : List Nat} (h : Lim a) (n : Nat) : Lim (a.drop n) := fun y hy => h y (List.mem_of_mem_drop hy)
theorem Lim.get {a : List Nat} (h : Lim a) {k x : Nat} (hx : a[k]? = some x) : x < 4294967296 := h x (List.mem_of_getElem? hx)
theorem Lim.set {a : List Nat} (h : Lim a) (k x : Nat) (hx : x < 4294967296) : Lim (a.set k x) := by
  intro y hy
  rcases List.mem_or_eq_of_mem_set hy with h' | h'
  · exact h y h'
  · rw [h']; exact hx
theorem Lim.zeros (n : Nat) : Lim (List.replicate n 0) := fun y hy => by
  have := (List.mem_replicate.1 hy).2
  omega

theorem pow_pos' (n : Nat) : 0 < 4294967296 ^ n := Nat.pow_pos (by decide)

theorem val_lt {l : List Nat} (h : Lim l) : val l < 4294967296 ^ l.length := by
  induction l with
  | nil => simp
  | cons x l ih =>
    have h1 := h.head
    have h2 := ih h.tail
    simp only [val_cons, List.length_cons, Nat.pow_succ]
    omega

theorem val_tz (l : List Nat) : val (tz l) = val l := by
  induction l with
  | nil => rfl
  | cons x l ih =>
    unfold tz
    split
    · rename_i h
      rw [h.1] at ih
      simp [← ih, h.2]
    · simp [ih]
theorem tz_nil_iff (l : List Nat) : tz l = [] ↔ val l = 0 := by
  induction l with
  | nil => simp [tz]
  | cons x l ih =>
    unfold tz
    simp only [val_cons]
    constructor
    · intro h
      split at h
      · rename_i h'
        have := ih.1 h'.1
        omega
      · cases h
    · intro h
      rw [if_pos ⟨ih.2 (by omega), by omega⟩]

theorem limbs_zero : limbs 0 = [] := by rw [limbs]; simp
theorem limbs_pos {n : Nat} (h : n ≠ 0) : limbs n = n % 4294967296 :: limbs (n / 4294967296) := by rw [limbs]; simp [h]
theorem limbs_cons {x v : Nat} (hx : x < 4294967296) (h : x + 4294967296 * v ≠ 0) : limbs (x + 4294967296 * v) = x :: limbs v := by
  rw [limbs_pos h]
  congr 1
  · omega
  · congr 1; omega
theorem limbs_val {l : List Nat} (h : Lim l) : limbs (val l) = tz l := by
  induction l with
  | nil => simp [tz, limbs_zero]
  | cons x l ih =>
    have h1 := h.head
    have h2 := ih h.tail
    unfold tz
    split
    · rename_i h'
      have := (tz_nil_iff l).1 h'.1
      simp [h'.2, this, limbs_zero]
    · rename_i h'
      have hne : x + 4294967296 * val l ≠ 0 := by
        intro e
        exact h' ⟨(tz_nil_iff l).2 (by omega), by omega⟩
      rw [val_cons, limbs_cons h1 hne, h2]
theorem limbs_lim (n : Nat) : Lim (limbs n) := by
  induction n using Nat.strongRecOn with
  | _ n ih =>
    by_cases h : n = 0
    · rw [h, limbs_zero]; exact Lim.nil
    · rw [limbs_pos h]
      exact Lim.cons (Nat.mod_lt _ (by decide)) (ih _ (by omega))
theorem val_limbs (n : Nat) : val (limbs n) = n := by
  induction n using Nat.strongRecOn with
  | _ n ih =>
    by_cases h : n = 0
    · rw [h, limbs_zero]; rfl
    · rw [limbs_pos h, val_cons, ih _ (by omega)]
      omega
theorem tz_limbs (n : Nat) : tz (limbs n) = limbs n := by
  rw [← limbs_val (limbs_lim n), val_limbs]
theorem limbs_inj {a b : Nat} (h : limbs a = limbs b) : a = b := by
  rw [← val_limbs a, ← val_limbs b, h]
theorem limbs_nil_iff (n : Nat) : limbs n = [] ↔ n = 0 := by
  constructor
  · intro h; rw [← val_limbs n, h]; rfl
  · intro h; rw [h, limbs_zero]
theorem limbs_length_zero (n : Nat) : (limbs n).length = 0 ↔ n = 0 := by
  rw [List.length_eq_zero_iff, limbs_nil_iff]

/-- How long the right row of a number is. -/
theorem limbs_length_le (n k : Nat) : (limbs n).length ≤ k ↔ n < 4294967296 ^ k := by
  induction k generalizing n with
  | zero => simp [limbs_nil_iff]
  | succ k ih =>
    by_cases h : n = 0
    · subst h
      simp [limbs_zero, pow_pos']
    · rw [limbs_pos h, List.length_cons, Nat.add_le_add_iff_right, ih, Nat.pow_succ]
      rw [Nat.div_lt_iff_lt_mul (by decide)]
theorem tz_length_le (l : List Nat) : (tz l).length ≤ l.length := by
  induction l with
  | nil => simp [tz]
  | cons x l ih =>
    unfold tz
    split
    · simp
    · simpa using ih
theorem limbs_val_length_le {l : List Nat} (h : Lim l) : (limbs (val l)).length ≤ l.length := by
  rw [limbs_val h]; exact tz_length_le l

/-- The highest limb of a right row is not 0. -/
theorem limbs_last (n : Nat) (x : Nat) (h : (limbs n)[(limbs n).length - 1]? = some x) : x ≠ 0 := by
  induction n using Nat.strongRecOn with
  | _ n ih =>
    by_cases h0 : n = 0
    · rw [h0, limbs_zero] at h; simp at h
    · rw [limbs_pos h0] at h
      by_cases h1 : n / 4294967296 = 0
      · rw [h1, limbs_zero] at h
        simp at h
        omega
      · have hne : limbs (n / 4294967296) ≠ [] := fun e => h1 ((limbs_nil_iff _).1 e)
        have hl : 0 < (limbs (n / 4294967296)).length := List.length_pos_iff.2 hne
        refine ih (n / 4294967296) (by omega) ?_
        rw [← h, List.length_cons, Nat.add_sub_cancel]
        obtain ⟨m, hm⟩ : ∃ m, (limbs (n / 4294967296)).length = m + 1 := ⟨_, (Nat.succ_pred_eq_of_pos hl).symm⟩
        rw [hm]; simp

/-- The highest zeros left out by counting down. -/
theorem take_tz {l : List Nat} {n : Nat} (hn : n ≤ l.length) (hz : ∀ i x, n ≤ i → l[i]? = some x → x = 0) (hl : ∀ x, 0 < n → l[n - 1]? = some x → x ≠ 0) : l.take n = tz l := by
  induction l generalizing n with
  | nil => simp [tz]
  | cons y l ih =>
    cases n with
    | zero =>
      have : tz (y :: l) = [] := by
        rw [tz_nil_iff]
        have hall : ∀ (m : List Nat), (∀ (i x : Nat), m[i]? = some x → x = 0) → val m = 0 := by
          intro m
          induction m with
          | nil => intro _; rfl
          | cons a m ihm =>
            intro hm
            have h1 := hm 0 a (by simp)
            have h2 := ihm (fun i x hx => hm (i + 1) x (by simpa using hx))
            simp [h1, h2]
        exact hall _ (fun i x hx => hz i x (Nat.zero_le _) hx)
      rw [this]; simp
    | succ n =>
      have ih' := ih (n := n) (by simpa using hn) (fun i x hi hx => hz (i + 1) x (by omega) (by simpa using hx)) (fun x h0 hx => hl x (by omega) (by
        obtain ⟨m, rfl⟩ : ∃ m, n = m + 1 := ⟨n - 1, by omega⟩
        simpa using hx))
      rw [List.take_succ_cons, ih', tz_cons]
      split
      · rename_i h'
        exfalso
        have hn0 : n = 0 := by
          rcases Nat.eq_zero_or_pos n with h0 | h0
          · exact h0
          · exfalso
            have := congrArg List.length (ih'.trans h'.1)
            simp at this
            have hlen : n ≤ l.length := by simpa using hn
            rcases this with h | h
            · omega
            · rw [h] at hlen; simp at hlen; omega
        subst hn0
        exact hl y (by omega) (by simp) h'.2
      · rfl

theorem take_snoc {α : Type} {l : List α} {k : Nat} {x : α} (h : l[k]? = some x) : l.take (k + 1) = l.take k ++ [x] := by
  rw [List.take_add_one, h]; rfl
theorem take_all {α : Type} (l : List α) {k : Nat} (h : l.length ≤ k) : l.take k = l := List.take_of_length_le h
theorem get_some {α : Type} {l : List α} {k : Nat} (h : k < l.length) : ∃ x, l[k]? = some x := ⟨_, List.getElem?_eq_getElem h⟩
theorem len_of_get {α : Type} {l : List α} {k : Nat} {x : α} (h : l[k]? = some x) : k < l.length := by
  rcases Nat.lt_or_ge k l.length with h' | h'
  · exact h'
  · rw [List.getElem?_eq_none h'] at h; cases h
theorem split_at {l : List Nat} {k x : Nat} (h : l[k]? = some x) : val l = val (l.take k) + 4294967296 ^ k * (x + 4294967296 * val (l.drop (k + 1))) := by
  have hk := len_of_get h
  have e : l = l.take k ++ (x :: l.drop (k + 1)) := by
    have hx : l[k] = x := by
      have := List.getElem?_eq_getElem hk
      rw [this] at h; simpa using h
    rw [← hx, List.getElem_cons_drop, List.take_append_drop]
  have := congrArg val e
  rw [val_append, List.length_take, Nat.min_eq_left (by omega), val_cons] at this
  exact this

/-- Rows that differ at one place, and not above it. -/
theorem lt_of_top {a b : List Nat} (ha : Lim a) {k x y : Nat} (hx : a[k]? = some x) (hy : b[k]? = some y) (hs : a.drop (k + 1) = b.drop (k + 1)) (h : x < y) : val a < val b := by
  have e1 := split_at hx
  have e2 := split_at hy
  have l1 := val_lt (ha.take k)
  rw [List.length_take, Nat.min_eq_left (by have := len_of_get hx; omega)] at l1
  rw [hs] at e1
  generalize val (b.drop (k + 1)) = d at e1 e2
  have hm : 4294967296 ^ k * (x + 4294967296 * d) + 4294967296 ^ k ≤ 4294967296 ^ k * (y + 4294967296 * d) := by
    rw [← Nat.mul_succ]
    exact Nat.mul_le_mul_left _ (by omega)
  omega
theorem lt_of_length {a b : Nat} (h : (limbs a).length < (limbs b).length) : a < b := by
  rcases Nat.lt_or_ge a b with h' | h'
  · exact h'
  · exfalso
    have h1 := (limbs_length_le a (limbs a).length).1 (Nat.le_refl _)
    have h2 := (limbs_length_le b (limbs a).length).2 (by omega)
    omega

/-- How two numbers stand to each other. -/
def cmpN (a b : Nat) : Int := if a < b then -1 else if b < a then 1 else 0
end Go.Num
