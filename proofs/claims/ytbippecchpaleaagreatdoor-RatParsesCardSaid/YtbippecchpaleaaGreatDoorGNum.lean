import Derived.Handy
import Derived.WalkSpells
import Derived.Laws.BitsAllLaws
import Derived.Lib.Hide
import Derived.Maps.AppendAt
import Derived.Deep.Draws
import Derived.Deep.QuietTactic
import Derived.BigQuiet
import Derived.Deep.OwnRows
/- Numbers as rows of limbs of 32 bits, the lowest first: plain mathematics, no program in sight. No conditions but those that each theorem states. -/
namespace Go.Num

/-- What a row of limbs is worth. -/
def val : List Nat → Nat
  | [] => 0
  | x :: l => x + 4294967296 * val l

/-- Each limb is below 2^32. -/
def Lim (l : List Nat) : Prop := ∀ x ∈ l, x < 4294967296

/-- A row without its highest zeros. -/
def tz : List Nat → List Nat
  | [] => []
  | x :: l => if tz l = [] ∧ x = 0 then [] else x :: tz l

/-- The right row of a number. -/
def limbs (n : Nat) : List Nat := if n = 0 then [] else n % 4294967296 :: limbs (n / 4294967296)
termination_by n
decreasing_by omega

theorem tz_cons (x : Nat) (l : List Nat) : tz (x :: l) = if tz l = [] ∧ x = 0 then [] else x :: tz l := rfl
@[simp] theorem val_nil : val [] = 0 := rfl
@[simp] theorem val_cons (x : Nat) (l : List Nat) : val (x :: l) = x + 4294967296 * val l := rfl
theorem val_append (a b : List Nat) : val (a ++ b) = val a + 4294967296 ^ a.length * val b := by
  induction a with
  | nil => simp
  | cons x a ih =>
    simp only [List.cons_append, val_cons, List.length_cons, ih, Nat.pow_succ, Nat.mul_add]
    have h : 4294967296 ^ a.length * 4294967296 * val b = 4294967296 * (4294967296 ^ a.length * val b) := by
      rw [Nat.mul_comm (4294967296 ^ a.length) 4294967296, Nat.mul_assoc]
    omega
theorem val_snoc (a : List Nat) (x : Nat) : val (a ++ [x]) = val a + 4294967296 ^ a.length * x := by
  rw [val_append]; simp
theorem val_zeros (n : Nat) : val (List.replicate n 0) = 0 := by
  induction n with
  | zero => rfl
  | succ n ih => simp [List.replicate_succ, ih]

theorem Lim.nil : Lim [] := fun _ h => by cases h
theorem Lim.cons {x : Nat} {l : List Nat} (hx : x < 4294967296) (h : Lim l) : Lim (x :: l) := by
  intro y hy
  rcases List.mem_cons.1 hy with rfl | hy
  · exact hx
  · exact h y hy
theorem Lim.head {x : Nat} {l : List Nat} (h : Lim (x :: l)) : x < 4294967296 := h x (by simp)
theorem Lim.tail {x : Nat} {l : List Nat} (h : Lim (x :: l)) : Lim l := fun y hy => h y (by simp [hy])
theorem Lim.append {a b : List Nat} (ha : Lim a) (hb : Lim b) : Lim (a ++ b) := by
  intro y hy
  rcases List.mem_append.1 hy with h | h
  · exact ha y h
  · exact hb y h
theorem Lim.left {a b : List Nat} (h : Lim (a ++ b)) : Lim a := fun y hy => h y (by simp [hy])
theorem Lim.right {a b : List Nat} (h : Lim (a ++ b)) : Lim b := fun y hy => h y (by simp [hy])
theorem Lim.one {x : Nat} (hx : x < 4294967296) : Lim [x] := Lim.cons hx Lim.nil
theorem Lim.snoc {a : List Nat} {x : Nat} (ha : Lim a) (hx : x < 4294967296) : Lim (a ++ [x]) := ha.append (Lim.one hx)
theorem Lim.take {a : List Nat} (h : Lim a) (n : Nat) : Lim (a.take n) := fun y hy => h y (List.mem_of_mem_take hy)
theorem Lim.drop {a : List Nat} (h : Lim a) (n : Nat) : Lim (a.drop n) := fun y hy => h y (List.mem_of_mem_drop hy)
theorem Lim.get {a : List Nat} (h : Lim a) {k x : Nat} (hx : a[k]? = some x) : x < 4294967296 := h x (List.mem_of_getElem? hx)
theorem Lim.set {a : List Nat} (h : Lim a) (k x : Nat) (hx : x < 4294967296) : Lim (a.set k x) := by
  intro y hy
  rcases List.mem_or_eq_of_mem_set hy with h' | h'
  · exact h y h'
  · rw [h']; exact hx
theorem Lim.zeros (n : Nat) : Lim (List.replicate n 0) := fun y hy => by
  have := (List.mem_replicate.1 hy).2
  omega

theorem pow_pos' (n : Nat) : 0 < 4294967296 ^ n := Nat.pow_pos (by decide)

theorem val_lt {l : List Nat} (h : Lim l) : val l < 4294967296 ^ l.length := by
  induction l with
  | nil => simp
  | cons x l ih =>
    have h1 := h.head
    have h2 := ih h.tail
    simp only [val_cons, List.length_cons, Nat.pow_succ]
    omega

theorem tz_nil_iff (l : List Nat) : tz l = [] ↔ val l = 0 := by
  induction l with
  | nil => simp [tz]
  | cons x l ih =>
    unfold tz
    simp only [val_cons]
    constructor
    · intro h
      split at h
      · rename_i h'
        have := ih.1 h'.1
        omega
      · cases h
    · intro h
      rw [if_pos ⟨ih.2 (by omega), by omega⟩]

theorem limbs_zero : limbs 0 = [] := by rw [limbs]; simp
theorem limbs_pos {n : Nat} (h : n ≠ 0) : limbs n = n % 4294967296 :: limbs (n / 4294967296) := by rw [limbs]; simp [h]
theorem limbs_cons {x v : Nat} (hx : x < 4294967296) (h : x + 4294967296 * v ≠ 0) : limbs (x + 4294967296 * v) = x :: limbs v := by
  rw [limbs_pos h]
  congr 1
  · omega
  · congr 1; omega
theorem limbs_val {l : List Nat} (h : Lim l) : limbs (val l) = tz l := by
  induction l with
  | nil => simp [tz, limbs_zero]
  | cons x l ih =>
    have h1 := h.head
    have h2 := ih h.tail
    unfold tz
    split
    · rename_i h'
      have := (tz_nil_iff l).1 h'.1
      simp [h'.2, this, limbs_zero]
    · rename_i h'
      have hne : x + 4294967296 * val l ≠ 0 := by
        intro e
        exact h' ⟨(tz_nil_iff l).2 (by omega), by omega⟩
      rw [val_cons, limbs_cons h1 hne, h2]
theorem limbs_lim (n : Nat) : Lim (limbs n) := by
  induction n using Nat.strongRecOn with
  | _ n ih =>
    by_cases h : n = 0
    · rw [h, limbs_zero]; exact Lim.nil
    · rw [limbs_pos h]
      exact Lim.cons (Nat.mod_lt _ (by decide)) (ih _ (by omega))
theorem val_limbs (n : Nat) : val (limbs n) = n := by
  induction n using Nat.strongRecOn with
  | _ n ih =>
    by_cases h : n = 0
    · rw [h, limbs_zero]; rfl
    · rw [limbs_pos h, val_cons, ih _ (by omega)]
      omega
theorem limbs_inj {a b : Nat} (h : limbs a = limbs b) : a = b := by
  rw [← val_limbs a, ← val_limbs b, h]
theorem limbs_nil_iff (n : Nat) : limbs n = [] ↔ n = 0 := by
  constructor
  · intro h; rw [← val_limbs n, h]; rfl
  · intro h; rw [h, limbs_zero]
/-- How long the right row of a number is. -/
theorem limbs_length_le (n k : Nat) : (limbs n).length ≤ k ↔ n < 4294967296 ^ k := by
  induction k generalizing n with
  | zero => simp [limbs_nil_iff]
  | succ k ih =>
    by_cases h : n = 0
    · subst h
      simp [limbs_zero, pow_pos']
    · rw [limbs_pos h, List.length_cons, Nat.add_le_add_iff_right, ih, Nat.pow_succ]
      rw [Nat.div_lt_iff_lt_mul (by decide)]
theorem tz_length_le (l : List Nat) : (tz l).length ≤ l.length := by
  induction l with
  | nil => simp [tz]
  | cons x l ih =>
    unfold tz
    split
    · simp
    · simpa using ih
theorem limbs_val_length_le {l : List Nat} (h : Lim l) : (limbs (val l)).length ≤ l.length := by
  rw [limbs_val h]; exact tz_length_le l

/-- The highest zeros left out by counting down. -/
theorem take_tz {l : List Nat} {n : Nat} (hn : n ≤ l.length) (hz : ∀ i x, n ≤ i → l[i]? = some x → x = 0) (hl : ∀ x, 0 < n → l[n - 1]? = some x → x ≠ 0) : l.take n = tz l := by
  induction l generalizing n with
  | nil => simp [tz]
  | cons y l ih =>
    cases n with
    | zero =>
      have : tz (y :: l) = [] := by
        rw [tz_nil_iff]
        have hall : ∀ (m : List Nat), (∀ (i x : Nat), m[i]? = some x → x = 0) → val m = 0 := by
          intro m
          induction m with
          | nil => intro _; rfl
          | cons a m ihm =>
            intro hm
            have h1 := hm 0 a (by simp)
            have h2 := ihm (fun i x hx => hm (i + 1) x (by simpa using hx))
            simp [h1, h2]
        exact hall _ (fun i x hx => hz i x (Nat.zero_le _) hx)
      rw [this]; simp
    | succ n =>
      have ih' := ih (n := n) (by simpa using hn) (fun i x hi hx => hz (i + 1) x (by omega) (by simpa using hx)) (fun x h0 hx => hl x (by omega) (by
        obtain ⟨m, rfl⟩ : ∃ m, n = m + 1 := ⟨n - 1, by omega⟩
        simpa using hx))
      rw [List.take_succ_cons, ih', tz_cons]
      split
      · rename_i h'
        exfalso
        have hn0 : n = 0 := by
          rcases Nat.eq_zero_or_pos n with h0 | h0
          · exact h0
          · exfalso
            have := congrArg List.length (ih'.trans h'.1)
            simp at this
            have hlen : n ≤ l.length := by simpa using hn
            rcases this with h | h
            · omega
            · rw [h] at hlen; simp at hlen; omega
        subst hn0
        exact hl y (by omega) (by simp) h'.2
      · rfl

theorem take_snoc {α : Type} {l : List α} {k : Nat} {x : α} (h : l[k]? = some x) : l.take (k + 1) = l.take k ++ [x] := by
  rw [List.take_add_one, h]; rfl
theorem take_all {α : Type} (l : List α) {k : Nat} (h : l.length ≤ k) : l.take k = l := List.take_of_length_le h
theorem get_some {α : Type} {l : List α} {k : Nat} (h : k < l.length) : ∃ x, l[k]? = some x := ⟨_, List.getElem?_eq_getElem h⟩
theorem len_of_get {α : Type} {l : List α} {k : Nat} {x : α} (h : l[k]? = some x) : k < l.length := by
  rcases Nat.lt_or_ge k l.length with h' | h'
  · exact h'
  · rw [List.getElem?_eq_none h'] at h; cases h
theorem split_at {l : List Nat} {k x : Nat} (h : l[k]? = some x) : val l = val (l.take k) + 4294967296 ^ k * (x + 4294967296 * val (l.drop (k + 1))) := by
  have hk := len_of_get h
  have e : l = l.take k ++ (x :: l.drop (k + 1)) := by
    have hx : l[k] = x := by
      have := List.getElem?_eq_getElem hk
      rw [this] at h; simpa using h
    rw [← hx, List.getElem_cons_drop, List.take_append_drop]
  have := congrArg val e
  rw [val_append, List.length_take, Nat.min_eq_left (by omega), val_cons] at this
  exact this

/-- Rows that differ at one place, and not above it. -/
theorem lt_of_top {a b : List Nat} (ha : Lim a) {k x y : Nat} (hx : a[k]? = some x) (hy : b[k]? = some y) (hs : a.drop (k + 1) = b.drop (k + 1)) (h : x < y) : val a < val b := by
  have e1 := split_at hx
  have e2 := split_at hy
  have l1 := val_lt (ha.take k)
  rw [List.length_take, Nat.min_eq_left (by have := len_of_get hx; omega)] at l1
  rw [hs] at e1
  generalize val (b.drop (k + 1)) = d at e1 e2
  have hm : 4294967296 ^ k * (x + 4294967296 * d) + 4294967296 ^ k ≤ 4294967296 ^ k * (y + 4294967296 * d) := by
    rw [← Nat.mul_succ]
    exact Nat.mul_le_mul_left _ (by omega)
  omega
theorem lt_of_length {a b : Nat} (h : (limbs a).length < (limbs b).length) : a < b := by
  rcases Nat.lt_or_ge a b with h' | h'
  · exact h'
  · exfalso
    have h1 := (limbs_length_le a (limbs a).length).1 (Nat.le_refl _)
    have h2 := (limbs_length_le b (limbs a).length).2 (by omega)
    omega

/-- How two numbers stand to each other. -/
def cmpN (a b : Nat) : Int := if a < b then -1 else if b < a then 1 else 0
end Go.Num
/- Decimal digits, the lowest first: plain mathematics, no program in sight. -/
namespace Go.Num

/-- What a row of digits is worth. -/
def dval : List Nat → Nat
  | [] => 0
  | x :: l => x + 10 * dval l
/-- Each is a digit. -/
def Dig (l : List Nat) : Prop := ∀ x ∈ l, x < 10
/-- The digits of a number, without highest zeros. -/
def vdig (n : Nat) : List Nat := if n = 0 then [] else n % 10 :: vdig (n / 10)
termination_by n
decreasing_by omega
/-- So many lowest digits. -/
def vlow : Nat → Nat → List Nat
  | 0, _ => []
  | k + 1, n => n % 10 :: vlow k (n / 10)
/-- A row without its highest zeros. -/
def dtz : List Nat → List Nat
  | [] => []
  | x :: l => if dtz l = [] ∧ x = 0 then [] else x :: dtz l

@[simp] theorem dval_nil : dval [] = 0 := rfl
@[simp] theorem dval_cons (x : Nat) (l : List Nat) : dval (x :: l) = x + 10 * dval l := rfl
theorem dtz_cons (x : Nat) (l : List Nat) : dtz (x :: l) = if dtz l = [] ∧ x = 0 then [] else x :: dtz l := rfl
theorem vdig_zero : vdig 0 = [] := by rw [vdig]; simp
theorem vdig_pos {n : Nat} (h : n ≠ 0) : vdig n = n % 10 :: vdig (n / 10) := by rw [vdig]; simp [h]
theorem dval_append (a b : List Nat) : dval (a ++ b) = dval a + 10 ^ a.length * dval b := by
  induction a with
  | nil => simp
  | cons x a ih =>
    simp only [List.cons_append, dval_cons, List.length_cons, ih, Nat.pow_succ, Nat.mul_add]
    have h : 10 ^ a.length * 10 * dval b = 10 * (10 ^ a.length * dval b) := by
      rw [Nat.mul_comm (10 ^ a.length) 10, Nat.mul_assoc]
    omega
theorem dval_snoc (a : List Nat) (x : Nat) : dval (a ++ [x]) = dval a + 10 ^ a.length * x := by
  rw [dval_append]; simp
theorem dtz_nil_iff (l : List Nat) : dtz l = [] ↔ dval l = 0 := by
  induction l with
  | nil => simp [dtz]
  | cons x l ih =>
    rw [dtz_cons]
    simp only [dval_cons]
    constructor
    · intro h
      split at h
      · rename_i h'
        have := ih.1 h'.1
        omega
      · cases h
    · intro h
      rw [if_pos ⟨ih.2 (by omega), by omega⟩]
theorem vdig_cons {x v : Nat} (hx : x < 10) (h : x + 10 * v ≠ 0) : vdig (x + 10 * v) = x :: vdig v := by
  rw [vdig_pos h]
  congr 1
  · omega
  · congr 1; omega
theorem vdig_dval {l : List Nat} (h : Dig l) : vdig (dval l) = dtz l := by
  induction l with
  | nil => simp [dtz, vdig_zero]
  | cons x l ih =>
    have h1 := h x (by simp)
    have h2 := ih (fun y hy => h y (by simp [hy]))
    rw [dtz_cons]
    split
    · rename_i h'
      have := (dtz_nil_iff l).1 h'.1
      simp [h'.2, this, vdig_zero]
    · rename_i h'
      have hne : x + 10 * dval l ≠ 0 := by
        intro e
        exact h' ⟨(dtz_nil_iff l).2 (by omega), by omega⟩
      rw [dval_cons, vdig_cons h1 hne, h2]
theorem vdig_dig (n : Nat) : Dig (vdig n) := by
  induction n using Nat.strongRecOn with
  | _ n ih =>
    by_cases h : n = 0
    · rw [h, vdig_zero]; intro x hx; cases hx
    · rw [vdig_pos h]
      intro x hx
      rcases List.mem_cons.1 hx with rfl | hx
      · exact Nat.mod_lt _ (by decide)
      · exact ih _ (by omega) x hx
theorem dval_vdig (n : Nat) : dval (vdig n) = n := by
  induction n using Nat.strongRecOn with
  | _ n ih =>
    by_cases h : n = 0
    · rw [h, vdig_zero]; rfl
    · rw [vdig_pos h, dval_cons, ih _ (by omega)]
      omega
theorem vdig_inj {a b : Nat} (h : vdig a = vdig b) : a = b := by rw [← dval_vdig a, ← dval_vdig b, h]
theorem vdig_nil_iff (n : Nat) : vdig n = [] ↔ n = 0 := by
  constructor
  · intro h; rw [← dval_vdig n, h]; rfl
  · intro h; rw [h, vdig_zero]
theorem vdig_length_le (n k : Nat) : (vdig n).length ≤ k ↔ n < 10 ^ k := by
  induction k generalizing n with
  | zero => simp [vdig_nil_iff]
  | succ k ih =>
    by_cases h : n = 0
    · subst h
      simp [vdig_zero]
      exact Nat.pow_pos (by decide)
    · rw [vdig_pos h, List.length_cons, Nat.add_le_add_iff_right, ih, Nat.pow_succ]
      rw [Nat.div_lt_iff_lt_mul (by decide)]
theorem vlow_length (k n : Nat) : (vlow k n).length = k := by
  induction k generalizing n with
  | zero => rfl
  | succ k ih => simp [vlow, ih]
theorem vlow_snoc (k n : Nat) : vlow (k + 1) n = vlow k n ++ [n / 10 ^ k % 10] := by
  induction k generalizing n with
  | zero => simp [vlow]
  | succ k ih =>
    have : vlow (k + 1 + 1) n = n % 10 :: vlow (k + 1) (n / 10) := rfl
    rw [this, ih, Nat.div_div_eq_div_mul, Nat.pow_succ, Nat.mul_comm 10]
    rfl
/-- Of a number below 10^k the k lowest digits are its digits and zeros. -/
theorem vlow_eq {k n : Nat} (h : n < 10 ^ k) : vlow k n = vdig n ++ List.replicate (k - (vdig n).length) 0 := by
  induction k generalizing n with
  | zero =>
    have : n = 0 := by simpa using h
    subst this
    simp [vlow, vdig_zero]
  | succ k ih =>
    have h' : n / 10 < 10 ^ k := by
      rw [Nat.div_lt_iff_lt_mul (by decide), ← Nat.pow_succ]; exact h
    have e : vlow (k + 1) n = n % 10 :: vlow k (n / 10) := rfl
    rw [e, ih h']
    by_cases h0 : n = 0
    · subst h0
      simp [vdig_zero, List.replicate_succ]
    · rw [vdig_pos h0, List.length_cons, List.cons_append]
      congr 3
      omega
theorem vdig_last (n : Nat) (x : Nat) (h : (vdig n)[(vdig n).length - 1]? = some x) : x ≠ 0 := by
  induction n using Nat.strongRecOn with
  | _ n ih =>
    by_cases h0 : n = 0
    · rw [h0, vdig_zero] at h; simp at h
    · rw [vdig_pos h0] at h
      by_cases h1 : n / 10 = 0
      · rw [h1, vdig_zero] at h
        simp at h
        omega
      · have hne : vdig (n / 10) ≠ [] := fun e => h1 ((vdig_nil_iff _).1 e)
        have hl : 0 < (vdig (n / 10)).length := List.length_pos_iff.2 hne
        refine ih (n / 10) (by omega) ?_
        rw [← h, List.length_cons, Nat.add_sub_cancel]
        obtain ⟨m, hm⟩ : ∃ m, (vdig (n / 10)).length = m + 1 := ⟨_, (Nat.succ_pred_eq_of_pos hl).symm⟩
        rw [hm]; simp

/-- A digit's byte. -/
def byteOf (x : Nat) : UInt8 := UInt8.ofNat (48 + x)
/-- The digits of a number as bytes, the highest first; none of 0. -/
def decs (n : Nat) : List UInt8 := ((vdig n).map byteOf).reverse
/-- The text of a number. -/
def dec (n : Nat) : List UInt8 := if n = 0 then [48] else decs n

theorem byteOf_toNat {x : Nat} (h : x < 10) : (byteOf x).toNat = 48 + x := by
  simp [byteOf]; omega
theorem byteOf_inj {x y : Nat} (hx : x < 10) (hy : y < 10) (h : byteOf x = byteOf y) : x = y := by
  have := congrArg UInt8.toNat h
  rw [byteOf_toNat hx, byteOf_toNat hy] at this
  omega
theorem map_byteOf_inj {a b : List Nat} (ha : Dig a) (hb : Dig b) (h : a.map byteOf = b.map byteOf) : a = b := by
  induction a generalizing b with
  | nil => cases b with | nil => rfl | cons y b => simp at h
  | cons x a ih =>
    cases b with
    | nil => simp at h
    | cons y b =>
      simp only [List.map_cons, List.cons.injEq] at h
      rw [byteOf_inj (ha x (by simp)) (hb y (by simp)) h.1, ih (fun z hz => ha z (by simp [hz])) (fun z hz => hb z (by simp [hz])) h.2]
theorem decs_nil_iff (n : Nat) : decs n = [] ↔ n = 0 := by
  simp [decs, vdig_nil_iff]
theorem decs_inj {a b : Nat} (h : decs a = decs b) : a = b := by
  unfold decs at h
  exact vdig_inj (map_byteOf_inj (vdig_dig a) (vdig_dig b) (by simpa using h))
theorem decs_head {n : Nat} {c : UInt8} {l : List UInt8} (h : decs n = c :: l) : c ≠ 48 := by
  intro hc
  have hne : vdig n ≠ [] := by
    intro e
    simp [decs, e] at h
  have hl : 0 < (vdig n).length := List.length_pos_iff.2 hne
  obtain ⟨x, hx⟩ := get_some (l := vdig n) (k := (vdig n).length - 1) (by omega)
  have hx0 := vdig_last n x hx
  have hx10 := vdig_dig n x (List.mem_of_getElem? hx)
  have : (decs n)[0]? = some (byteOf x) := by
    unfold decs
    rw [List.getElem?_reverse (by simpa using hl), List.length_map, List.getElem?_map]
    simp only [Nat.sub_zero]
    rw [hx]; rfl
  rw [h] at this
  simp at this
  rw [hc] at this
  have := congrArg UInt8.toNat this
  rw [byteOf_toNat hx10] at this
  simp at this
  omega
theorem dec_inj {a b : Nat} (h : dec a = dec b) : a = b := by
  unfold dec at h
  split at h <;> split at h
  · omega
  · exact absurd rfl (decs_head h.symm)
  · exact absurd rfl (decs_head h)
  · exact decs_inj h
/-- What nat.Text makes of the k lowest digits: turned round, zeros struck ahead. -/
theorem strike_zeros {k n : Nat} (h : n < 10 ^ k) : ((vlow k n).map byteOf).reverse.dropWhile (fun b => b == 48) = decs n := by
  rw [vlow_eq h]
  simp only [List.map_append, List.map_replicate, List.reverse_append, List.reverse_replicate]
  have h48 : byteOf 0 = 48 := rfl
  rw [h48, List.dropWhile_append_of_pos (by intro x hx; simp [(List.mem_replicate.1 hx).2])]
  show List.dropWhile _ (decs n) = decs n
  cases hd : decs n with
  | nil => rfl
  | cons c l =>
    have := decs_head hd
    rw [List.dropWhile_cons_of_neg (by simpa using this)]
theorem decs_length_le (n k : Nat) : (decs n).length ≤ k ↔ n < 10 ^ k := by
  rw [← vdig_length_le]; simp [decs]

/-- What the digits of a text are worth, the highest first, behind v. -/
def tval (v : Nat) : List UInt8 → Nat
  | [] => v
  | c :: l => tval (10 * v + (c.toNat - 48)) l
/-- Bytes that are digits. -/
def isDig (c : UInt8) : Bool := 48 ≤ c && c ≤ 57
/-- Digits of a number: not none; no 0 ahead but of 0. -/
def goodText (l : List UInt8) : Bool := !l.isEmpty && l.all isDig && (l.head? != some 48 || l == [48])
theorem tval_append (v : Nat) (a b : List UInt8) : tval v (a ++ b) = tval (tval v a) b := by
  induction a generalizing v with
  | nil => rfl
  | cons c a ih => exact ih _
theorem tval_snoc (v : Nat) (a : List UInt8) (c : UInt8) : tval v (a ++ [c]) = 10 * tval v a + (c.toNat - 48) := by
  rw [tval_append]; rfl
theorem isDig_iff (c : UInt8) : isDig c = true ↔ 48 ≤ c.toNat ∧ c.toNat ≤ 57 := by
  simp [isDig, UInt8.le_iff_toNat_le]
theorem tval_rev (l : List Nat) (h : Dig l) : tval 0 (l.map byteOf).reverse = dval l := by
  induction l with
  | nil => rfl
  | cons x l ih =>
    rw [List.map_cons, List.reverse_cons, tval_snoc, ih (fun y hy => h y (by simp [hy])), byteOf_toNat (h x (by simp)), dval_cons]
    omega
theorem tval_dec (n : Nat) : tval 0 (dec n) = n := by
  unfold dec
  split
  · rename_i h; rw [h]; rfl
  · rw [decs, tval_rev _ (vdig_dig n), dval_vdig]
theorem goodText_dec (n : Nat) : goodText (dec n) = true := by
  unfold dec goodText
  split
  · decide
  · rename_i h
    have hne : decs n ≠ [] := fun e => h ((decs_nil_iff n).1 e)
    cases hd : decs n with
    | nil => exact absurd hd hne
    | cons c l =>
      have h1 := decs_head hd
      have h2 : (decs n).all isDig = true := by
        rw [List.all_eq_true]
        intro c hc
        simp only [decs, List.mem_reverse, List.mem_map] at hc
        obtain ⟨x, hx, rfl⟩ := hc
        have := vdig_dig n x hx
        rw [isDig_iff, byteOf_toNat this]
        omega
      rw [hd] at h2
      simp [h2, h1]
end Go.Num
/- Numbers as rows of bits, the lowest first: plain mathematics, no program in sight. -/
namespace Go.Num

/-- What a row of bits is worth. -/
def bval : List Bool → Nat
  | [] => 0
  | b :: l => b.toNat + 2 * bval l

/-- A row without its highest zeros. -/
def btz : List Bool → List Bool
  | [] => []
  | b :: l => if btz l = [] ∧ b = false then [] else b :: btz l

/-- The bits of a number. -/
def bits (n : Nat) : List Bool := if n = 0 then [] else (n % 2 == 1) :: bits (n / 2)
termination_by n
decreasing_by omega

theorem btz_cons (b : Bool) (l : List Bool) : btz (b :: l) = if btz l = [] ∧ b = false then [] else b :: btz l := rfl
@[simp] theorem bval_nil : bval [] = 0 := rfl
@[simp] theorem bval_cons (b : Bool) (l : List Bool) : bval (b :: l) = b.toNat + 2 * bval l := rfl
theorem toNat_le (b : Bool) : b.toNat ≤ 1 := by cases b <;> decide
theorem bval_append (a b : List Bool) : bval (a ++ b) = bval a + 2 ^ a.length * bval b := by
  induction a with
  | nil => simp
  | cons x a ih =>
    simp only [List.cons_append, bval_cons, List.length_cons, ih, Nat.pow_succ, Nat.mul_add]
    have h : 2 ^ a.length * 2 * bval b = 2 * (2 ^ a.length * bval b) := by
      rw [Nat.mul_comm (2 ^ a.length) 2, Nat.mul_assoc]
    omega
theorem bval_snoc (a : List Bool) (x : Bool) : bval (a ++ [x]) = bval a + 2 ^ a.length * x.toNat := by
  rw [bval_append]; simp
theorem bval_lt (l : List Bool) : bval l < 2 ^ l.length := by
  induction l with
  | nil => simp
  | cons x l ih =>
    have := toNat_le x
    simp only [bval_cons, List.length_cons, Nat.pow_succ]
    omega
theorem bval_btz (l : List Bool) : bval (btz l) = bval l := by
  induction l with
  | nil => rfl
  | cons x l ih =>
    rw [btz_cons]
    split
    · rename_i h
      rw [h.1] at ih
      simp [← ih, h.2]
    · simp [ih]
theorem btz_nil_iff (l : List Bool) : btz l = [] ↔ bval l = 0 := by
  induction l with
  | nil => simp [btz]
  | cons x l ih =>
    rw [btz_cons]
    simp only [bval_cons]
    constructor
    · intro h
      split at h
      · rename_i h'
        have := ih.1 h'.1
        rw [h'.2, this]; rfl
      · cases h
    · intro h
      have hx : x = false := by cases x with | false => rfl | true => simp at h
      rw [if_pos ⟨ih.2 (by omega), hx⟩]
theorem bits_zero : bits 0 = [] := by rw [bits]; simp
theorem bits_pos {n : Nat} (h : n ≠ 0) : bits n = (n % 2 == 1) :: bits (n / 2) := by rw [bits]; simp [h]
theorem bits_cons {x : Bool} {v : Nat} (h : x.toNat + 2 * v ≠ 0) : bits (x.toNat + 2 * v) = x :: bits v := by
  rw [bits_pos h]
  have hx := toNat_le x
  congr 1
  · cases x with
    | false => simp
    | true => simp
  · congr 1; omega
theorem bits_bval (l : List Bool) : bits (bval l) = btz l := by
  induction l with
  | nil => simp [btz, bits_zero]
  | cons x l ih =>
    rw [btz_cons]
    split
    · rename_i h'
      have := (btz_nil_iff l).1 h'.1
      simp [h'.2, this, bits_zero]
    · rename_i h'
      have hne : x.toNat + 2 * bval l ≠ 0 := by
        intro e
        refine h' ⟨(btz_nil_iff l).2 (by omega), ?_⟩
        cases x with
        | false => rfl
        | true => simp at e
      rw [bval_cons, bits_cons hne, ih]
theorem bval_bits (n : Nat) : bval (bits n) = n := by
  induction n using Nat.strongRecOn with
  | _ n ih =>
    by_cases h : n = 0
    · rw [h, bits_zero]; rfl
    · rw [bits_pos h, bval_cons, ih _ (by omega)]
      by_cases hp : n % 2 = 1
      · simp [hp]; omega
      · have : n % 2 = 0 := by omega
        simp [this]; omega
theorem bits_nil_iff (n : Nat) : bits n = [] ↔ n = 0 := by
  constructor
  · intro h; rw [← bval_bits n, h]; rfl
  · intro h; rw [h, bits_zero]
theorem bits_length_le (n k : Nat) : (bits n).length ≤ k ↔ n < 2 ^ k := by
  induction k generalizing n with
  | zero => simp [bits_nil_iff]
  | succ k ih =>
    by_cases h : n = 0
    · subst h
      simp [bits_zero]
      exact Nat.pow_pos (by decide)
    · rw [bits_pos h, List.length_cons, Nat.add_le_add_iff_right, ih, Nat.pow_succ]
      rw [Nat.div_lt_iff_lt_mul (by decide)]
theorem btz_length_le (l : List Bool) : (btz l).length ≤ l.length := by
  induction l with
  | nil => simp [btz]
  | cons x l ih =>
    rw [btz_cons]
    split
    · simp
    · simpa using ih
theorem btake_tz {l : List Bool} {n : Nat} (hn : n ≤ l.length) (hz : ∀ i x, n ≤ i → l[i]? = some x → x = false) (hl : ∀ x, 0 < n → l[n - 1]? = some x → x = true) : l.take n = btz l := by
  induction l generalizing n with
  | nil => simp [btz]
  | cons y l ih =>
    cases n with
    | zero =>
      have : btz (y :: l) = [] := by
        rw [btz_nil_iff]
        have hall : ∀ (m : List Bool), (∀ (i : Nat) (x : Bool), m[i]? = some x → x = false) → bval m = 0 := by
          intro m
          induction m with
          | nil => intro _; rfl
          | cons a m ihm =>
            intro hm
            have h1 := hm 0 a (by simp)
            have h2 := ihm (fun i x hx => hm (i + 1) x (by simpa using hx))
            simp [h1, h2]
        exact hall _ (fun i x hx => hz i x (Nat.zero_le _) hx)
      rw [this]; simp
    | succ n =>
      have ih' := ih (n := n) (by simpa using hn) (fun i x hi hx => hz (i + 1) x (by omega) (by simpa using hx)) (fun x h0 hx => hl x (by omega) (by
        obtain ⟨m, rfl⟩ : ∃ m, n = m + 1 := ⟨n - 1, by omega⟩
        simpa using hx))
      rw [List.take_succ_cons, ih', btz_cons]
      split
      · rename_i h'
        exfalso
        have hn0 : n = 0 := by
          rcases Nat.eq_zero_or_pos n with h0 | h0
          · exact h0
          · exfalso
            have := congrArg List.length (ih'.trans h'.1)
            simp at this
            have hlen : n ≤ l.length := by simpa using hn
            rcases this with h | h
            · omega
            · rw [h] at hlen; simp at hlen; omega
        subst hn0
        have := hl y (by omega) (by simp)
        rw [h'.2] at this
        cases this
      · rfl
theorem bsplit_at {l : List Bool} {k : Nat} {x : Bool} (h : l[k]? = some x) : bval l = bval (l.take k) + 2 ^ k * (x.toNat + 2 * bval (l.drop (k + 1))) := by
  have hk := len_of_get h
  have e : l = l.take k ++ (x :: l.drop (k + 1)) := by
    have hx : l[k] = x := by
      have := List.getElem?_eq_getElem hk
      rw [this] at h; simpa using h
    rw [← hx, List.getElem_cons_drop, List.take_append_drop]
  have := congrArg bval e
  rw [bval_append, List.length_take, Nat.min_eq_left (by omega), bval_cons] at this
  exact this
theorem blt_of_top {a b : List Bool} {k : Nat} (hx : a[k]? = some false) (hy : b[k]? = some true) (hs : a.drop (k + 1) = b.drop (k + 1)) : bval a < bval b := by
  have e1 := bsplit_at hx
  have e2 := bsplit_at hy
  have l1 := bval_lt (a.take k)
  rw [List.length_take, Nat.min_eq_left (by have := len_of_get hx; omega)] at l1
  rw [hs] at e1
  generalize bval (b.drop (k + 1)) = d at e1 e2
  rw [Nat.mul_add] at e1 e2
  simp at e1 e2
  omega
theorem blt_of_length {a b : Nat} (h : (bits a).length < (bits b).length) : a < b := by
  rcases Nat.lt_or_ge a b with h' | h'
  · exact h'
  · exfalso
    have h1 := (bits_length_le a (bits a).length).1 (Nat.le_refl _)
    have h2 := (bits_length_le b (bits a).length).2 (by omega)
    omega
/-- One step of a sum of bits. -/
theorem badd_step {P W X Y c x y d c' : Nat} (h : W + P * c = X + Y) (hd : c + (x + y) = d + 2 * c') : (W + P * d) + (P * 2) * c' = (X + P * x) + (Y + P * y) := by
  have e : P * (c + (x + y)) = P * (d + 2 * c') := by rw [hd]
  rw [Nat.mul_add, Nat.mul_add, Nat.mul_add, ← Nat.mul_assoc] at e
  omega
theorem bsub_step {P W X Y b x y d b' : Nat} (h : X + P * b = W + Y) (hd : x + 2 * b' = d + y + b) : (X + P * x) + (P * 2) * b' = (W + P * d) + (Y + P * y) := by
  have e : P * (x + 2 * b') = P * (d + y + b) := by rw [hd]
  rw [Nat.mul_add, Nat.mul_add, Nat.mul_add, ← Nat.mul_assoc] at e
  omega
end Go.Num
/- Sums, products and long division of rows of limbs, step by step: plain mathematics. -/
namespace Go.Num

/-- One step of a sum. -/
theorem add_step {P W X Y c x y d c' : Nat} (h : W + P * c = X + Y) (hd : c + (x + y) = d + 4294967296 * c') : (W + P * d) + (P * 4294967296) * c' = (X + P * x) + (Y + P * y) := by
  have e : P * (c + (x + y)) = P * (d + 4294967296 * c') := by rw [hd]
  rw [Nat.mul_add, Nat.mul_add, Nat.mul_add, ← Nat.mul_assoc] at e
  omega
/-- One step of a difference. -/
theorem sub_step {P W X Y b x y d b' : Nat} (h : X + P * b = W + Y) (hd : x + 4294967296 * b' = d + y + b) : (X + P * x) + (P * 4294967296) * b' = (W + P * d) + (Y + P * y) := by
  have e : P * (x + 4294967296 * b') = P * (d + y + b) := by rw [hd]
  rw [Nat.mul_add, Nat.mul_add, Nat.mul_add, ← Nat.mul_assoc] at e
  omega
/-- One step of a product by one limb. -/
theorem by_step {P W A x m y d m' : Nat} {M : Nat} (h : W + P * m = M + x * A) (hd : m + x * y = d + 4294967296 * m') : (W + P * d) + (P * 4294967296) * m' = M + x * (A + P * y) := by
  have e : P * (m + x * y) = P * (d + 4294967296 * m') := by rw [hd]
  have e2 : x * (P * y) = P * (x * y) := by rw [Nat.mul_left_comm]
  rw [Nat.mul_add, Nat.mul_add, ← Nat.mul_assoc P 4294967296 m'] at e
  rw [Nat.mul_add, e2]
  omega
theorem pow_succ' (k : Nat) : 4294967296 ^ (k + 1) = 4294967296 ^ k * 4294967296 := Nat.pow_succ ..

/-- The guess is never too small: at first. -/
theorem guess_first {B T v1 V U L D q : Nat} (hV : V = v1 * D + L) (hU : U < (T + 1) * D) (hq : q * V ≤ U) (_hB : B = B) : q * v1 ≤ T := by
  have h1 : q * (v1 * D) ≤ q * V := by rw [hV]; exact Nat.mul_le_mul_left _ (by omega)
  have h2 : q * v1 * D < (T + 1) * D := by rw [Nat.mul_assoc]; omega
  have h3 : q * v1 < T + 1 := Nat.lt_of_mul_lt_mul_right h2
  omega
/-- Where the guess times the two highest limbs is more than the three highest, it is too much. -/
theorem guess_much {q v1 v2 L D V U top u2 left : Nat} (hV : V = (v1 * 4294967296 + v2) * D + L) (hU : U < (top * 4294967296 + u2 + 1) * D) (ht : top = q * v1 + left) (h : left * 4294967296 + u2 < q * v2) : U < q * V := by
  have e1 : q * (v1 * 4294967296 + v2) = (q * v1) * 4294967296 + q * v2 := by rw [Nat.mul_add, Nat.mul_assoc]
  have h1 : top * 4294967296 + u2 + 1 ≤ q * (v1 * 4294967296 + v2) := by rw [e1, ht, Nat.add_mul]; omega
  have h2 : (top * 4294967296 + u2 + 1) * D ≤ q * (v1 * 4294967296 + v2) * D := Nat.mul_le_mul_right _ h1
  have h3 : q * (v1 * 4294967296 + v2) * D ≤ q * V := by rw [hV, Nat.mul_assoc]; exact Nat.mul_le_mul_left _ (Nat.le_add_right _ _)
  exact Nat.lt_of_lt_of_le hU (Nat.le_trans h2 h3)
/-- Where it is not, it is at most one too many. -/
theorem guess_fair {q v1 v2 L D V U top u2 left : Nat} (hV : V = (v1 * 4294967296 + v2) * D + L) (hL : L < D) (hv1 : 0 < v1) (hU : (top * 4294967296 + u2) * D ≤ U) (ht : top = q * v1 + left) (hq : q < 4294967296)
    (h : q * v2 ≤ left * 4294967296 + u2) : (q - 1) * V ≤ U := by
  have e1 : q * (v1 * 4294967296 + v2) = (q * v1) * 4294967296 + q * v2 := by rw [Nat.mul_add, Nat.mul_assoc]
  have h1 : q * (v1 * 4294967296 + v2) ≤ top * 4294967296 + u2 := by rw [e1, ht, Nat.add_mul]; omega
  have h2 : q * (v1 * 4294967296 + v2) * D ≤ (top * 4294967296 + u2) * D := Nat.mul_le_mul_right _ h1
  have h3 : q * V = q * (v1 * 4294967296 + v2) * D + q * L := by rw [hV, Nat.mul_add, Nat.mul_assoc]
  have h4 : q * L ≤ 4294967296 * D := Nat.mul_le_mul (by omega) (by omega)
  have h5 : 4294967296 * D ≤ (v1 * 4294967296 + v2) * D := Nat.mul_le_mul_right _ (by omega)
  rw [Nat.sub_mul]
  omega
/-- The same, where what is left has grown beyond a limb. -/
theorem guess_broke {q v1 v2 L D V U top u2 left : Nat} (hV : V = (v1 * 4294967296 + v2) * D + L) (hL : L < D) (hv1 : 0 < v1) (hv2 : v2 < 4294967296) (hU : (top * 4294967296 + u2) * D ≤ U) (ht : top = q * v1 + left) (hq : q < 4294967296)
    (h : 4294967296 ≤ left) : (q - 1) * V ≤ U := by
  refine guess_fair hV hL hv1 hU ht hq ?_
  have h0 : q * v2 ≤ 4294967296 * v2 := Nat.mul_le_mul_right _ (by omega)
  omega

end Go.Num
/- Long division of rows of limbs: what each round of nat.Div keeps. Plain mathematics. -/
namespace Go.Num

theorem val_take_drop (l : List Nat) (k : Nat) (h : k ≤ l.length) : val l = val (l.take k) + 4294967296 ^ k * val (l.drop k) := by
  have := val_append (l.take k) (l.drop k)
  rw [List.take_append_drop, List.length_take, Nat.min_eq_left h] at this
  exact this
/-- One round: the part at place i, of one limb more than v, is less than 2^32 times v. -/
theorem part_lt {u0 D V : Nat} (h0 : u0 < 4294967296) (hD : D < V) : u0 + 4294967296 * D < 4294967296 * V := by omega

/-- What comes of the division of both, moved n bits up. -/
theorem unscale {a b s Q R : Nat} (hs : 0 < s) (h : a * s = Q * (b * s) + R) (hR : R < b * s) : Q = a / b ∧ R / s = a % b := by
  have hb : 0 < b := by
    rcases Nat.eq_zero_or_pos b with h0 | h0
    · subst h0; simp at hR
    · exact h0
  have hQ : Q * (b * s) = (Q * b) * s := by rw [Nat.mul_assoc]
  have hle : Q * b ≤ a := by
    have : (Q * b) * s ≤ a * s := by rw [← hQ]; omega
    exact Nat.le_of_mul_le_mul_right this hs
  obtain ⟨d, hd⟩ : ∃ d, a = Q * b + d := ⟨a - Q * b, by omega⟩
  have hRd : R = d * s := by
    have e : a * s = (Q * b) * s + d * s := by rw [hd, Nat.add_mul]
    omega
  have hdb : d < b := by
    rw [hRd] at hR
    exact Nat.lt_of_mul_lt_mul_right hR
  refine ⟨?_, ?_⟩
  · have : a / b = Q := by
      rw [hd]
      rw [Nat.div_eq_of_lt_le]
      · omega
      · rw [Nat.add_mul]; omega
    exact this.symm
  · rw [hRd, Nat.mul_div_cancel _ hs, hd]
    rw [Nat.mul_comm Q b, Nat.mul_add_mod, Nat.mod_eq_of_lt hdb]
end Go.Num
/- Rows in memory: a slice value that reads as a list; what a call leaves. No program in sight. -/
namespace Go.Num
open Go Go.RowKit

theorem below_drewN {B : Nat} {a w : World} (h : Below B a w) (n : Nat) : Below B a (w.drewN n) := ⟨h.os, h.tape, h.output, h.size, h.block⟩
/-- A limb's cell, a byte's, a bit's, a number's. -/
abbrev encU (x : Nat) : Value := .int .u32 (x : Int)
abbrev encY (x : UInt8) : Value := .int .u8 (x.toNat : Int)
abbrev encB (x : Bool) : Value := .bool x
abbrev encI (x : Nat) : Value := .int .i64 (x : Int)

section
variable {α : Type} {enc : α → Value} {w w' : World} {v : Value} {l : List α}

/-- The slice value v reads as l. -/
def Arg (enc : α → Value) (w : World) (v : Value) (l : List α) : Prop :=
  ∃ A c, v = .slice A l.length c ∧ l.length ≤ c ∧ (0 < l.length → ∃ b o, A = some ⟨b, o, none⟩ ∧ ∀ j x, l[j]? = some x → w.cell? ⟨b, o + j, none⟩ = some (enc x))

theorem Arg.keep (h : Arg enc w v l) (hk : ∀ p : Addr, p.block < w.heap.size → w'.cell? p = w.cell? p) : Arg enc w' v l := by
  obtain ⟨A, c, rfl, hc, hr⟩ := h
  refine ⟨A, c, rfl, hc, fun h0 => ?_⟩
  obtain ⟨b, o, rfl, hx⟩ := hr h0
  exact ⟨b, o, rfl, fun j x hj => (hk _ (World.block_lt_of_cell? w _ (hx j x hj))).trans (hx j x hj)⟩
theorem Arg.below (h : Arg enc w v l) (hb : Below w.heap.size w w') : Arg enc w' v l := h.keep fun _ hp => hb.cell hp
theorem Arg.drew (h : Arg enc w v l) : Arg enc w.drew v l := h
theorem Arg.drewN (h : Arg enc w v l) (n : Nat) : Arg enc (w.drewN n) v l := h
theorem Arg.alloc (h : Arg enc w v l) (o : Obj) : Arg enc (w.alloc o) v l := h.keep fun p hp => World.cell?_alloc_lt w o p hp
theorem Arg.nil_ (enc : α → Value) (w : World) (c : Nat) (A : Option Addr) : Arg enc w (.slice A 0 c) ([] : List α) := ⟨A, c, rfl, Nat.zero_le _, fun h => absurd h (by simp)⟩

/-- What Arg says of the memory, apart from the value's shape. -/
def Cells (enc : α → Value) (w : World) (A : Option Addr) (l : List α) : Prop :=
  0 < l.length → ∃ b o, A = some ⟨b, o, none⟩ ∧ ∀ j x, l[j]? = some x → w.cell? ⟨b, o + j, none⟩ = some (enc x)
theorem Arg.mk_ {A : Option Addr} {n c : Nat} (hn : n = l.length) (hc : n ≤ c) (h : Cells enc w A l) : Arg enc w (.slice A n c) l := ⟨A, c, by rw [hn], by omega, h⟩
theorem Arg.open_ (h : Arg enc w v l) : ∃ A c, v = .slice A l.length c ∧ l.length ≤ c ∧ Cells enc w A l := h
theorem Cells.take {A : Option Addr} (h : Cells enc w A l) (k : Nat) : Cells enc w A (l.take k) := fun h0 => by
  obtain ⟨b, o, e, hx⟩ := h (by rw [List.length_take] at h0; omega)
  exact ⟨b, o, e, fun j x hj => hx j x (by rw [List.getElem?_take] at hj; split at hj; exact hj; cases hj)⟩
theorem Cells.keep {A : Option Addr} (h : Cells enc w A l) (hk : ∀ p : Addr, p.block < w.heap.size → w'.cell? p = w.cell? p) : Cells enc w' A l := fun h0 => by
  obtain ⟨b, o, e, hx⟩ := h h0
  exact ⟨b, o, e, fun j x hj => (hk _ (World.block_lt_of_cell? w _ (hx j x hj))).trans (hx j x hj)⟩
theorem Cells.below {A : Option Addr} (h : Cells enc w A l) (hb : Below w.heap.size w w') : Cells enc w' A l := h.keep fun _ hp => hb.cell hp
theorem Cells.alloc {A : Option Addr} (h : Cells enc w A l) (o : Obj) : Cells enc (w.alloc o) A l := h.keep fun p hp => World.cell?_alloc_lt w o p hp
theorem Cells.nil_ (enc : α → Value) (w : World) (A : Option Addr) : Cells enc w A ([] : List α) := fun h => absurd h (by simp)
theorem Cells.drewN {A : Option Addr} (h : Cells enc w A l) (n : Nat) : Cells enc (w.drewN n) A l := h
theorem Cells.drew {A : Option Addr} (h : Cells enc w A l) : Cells enc w.drew A l := h
/-- The cell of one element. -/
theorem Cells.at_ {A : Option Addr} (h : Cells enc w A l) {k : Nat} {x : α} (hx : l[k]? = some x) : ∃ b o, A = some ⟨b, o, none⟩ ∧ w.cell? ⟨b, o + k, none⟩ = some (enc x) := by
  obtain ⟨b, o, e, hc⟩ := h (by have := len_of_get hx; omega)
  exact ⟨b, o, e, hc k x hx⟩

/-- What a call leaves: a row of its own that reads as l; nothing that was there has turned. -/
structure Gives (e : TypeId) (enc : α → Value) (w w' : World) (v : Value) (l : List α) : Prop where
  own : w'.ownsRow w.heap.size e 1 v l.length (l.map enc)
  below : Below w.heap.size w w'

theorem ownsRow_arg {base : Nat} {e : TypeId} (h : w.ownsRow base e 1 v l.length (l.map enc)) : Arg enc w v l := by
  rcases h.2 with ⟨rfl, h0⟩ | ⟨g, cap, cur, rfl, _, _, hnc, _⟩
  · exact ⟨none, 0, by rw [h0], by omega, fun hn => by omega⟩
  · refine ⟨_, cap, rfl, hnc, fun _ => ⟨g, 0, rfl, fun j x hj => ?_⟩⟩
    have hl := len_of_get hj
    rw [Nat.zero_add, h.cellAt j (by omega), List.getElem?_map, hj]
    rfl
theorem Gives.arg {e : TypeId} (h : Gives e enc w w' v l) : Arg enc w' v l := ownsRow_arg h.own
end

section
variable {α : Type} {enc : α → Value} {w w' w1 : World} {v : Value} {l : List α}
theorem ownsRow_base {base base' : Nat} {e : TypeId} {size n : Nat} {xs : List Value} (h : w.ownsRow base e size v n xs) (hb : base' ≤ base) : w.ownsRow base' e size v n xs := by
  refine ⟨h.1, ?_⟩
  rcases h.2 with h0 | ⟨g, cap, cur, e1, hg, rest⟩
  · exact .inl h0
  · exact .inr ⟨g, cap, cur, e1, Nat.le_trans hb hg, rest⟩
theorem Gives.after {e : TypeId} (h : Gives e enc w1 w' v l) (hb : Below w.heap.size w w1) : Gives e enc w w' v l := ⟨ownsRow_base h.own hb.size, hb.trans (h.below.mono hb.size)⟩
/-- A slice literal, laid in a block of its own. -/
theorem arg_lit (w : World) (cs : Array Value) (T : TypeId) (n : Nat) (l : List α) (hn : n = l.length) (h : cs.toList = l.map enc) : Arg enc (w.alloc (.cells cs T)) (.slice (some ⟨w.heap.size, 0, none⟩) n n) l := by
  refine Arg.mk_ hn (Nat.le_refl _) fun _ => ⟨w.heap.size, 0, rfl, fun j x hj => ?_⟩
  rw [Nat.zero_add, cell_of_row _ _ _ _ _ _ (heap_alloc_new w _), ← Array.getElem?_toList, h, List.getElem?_map, hj]
  rfl
end

/-- The value v reads as limbs that are worth n. -/
structure Num (w : World) (v : Value) (l : List Nat) (n : Nat) : Prop where
  arg : Arg encU w v l
  lim : Lim l
  len : l.length ≤ 100000
  val : val l = n
theorem Num.below {w w' : World} {v : Value} {l : List Nat} {n : Nat} (h : Num w v l n) (hb : Below w.heap.size w w') : Num w' v l n := ⟨h.arg.below hb, h.lim, h.len, h.val⟩
theorem Num.keep {w w' : World} {v : Value} {l : List Nat} {n : Nat} (h : Num w v l n) (hk : ∀ p : Addr, p.block < w.heap.size → w'.cell? p = w.cell? p) : Num w' v l n := ⟨h.arg.keep hk, h.lim, h.len, h.val⟩
theorem Num.alloc {w : World} {v : Value} {l : List Nat} {n : Nat} (h : Num w v l n) (o : Obj) : Num (w.alloc o) v l n := ⟨h.arg.alloc o, h.lim, h.len, h.val⟩
theorem Num.drew {w : World} {v : Value} {l : List Nat} {n : Nat} (h : Num w v l n) : Num w.drew v l n := ⟨h.arg, h.lim, h.len, h.val⟩

/-- How many limbs a number has. -/
def sz (n : Nat) : Nat := (limbs n).length
theorem sz_le {n k : Nat} (h : n < 4294967296 ^ k) : sz n ≤ k := (limbs_length_le n k).2 h
theorem lt_sz (n : Nat) : n < 4294967296 ^ sz n := (limbs_length_le n (sz n)).1 (Nat.le_refl _)
theorem sz_mono {a b : Nat} (h : a ≤ b) : sz a ≤ sz b := sz_le (Nat.lt_of_le_of_lt h (lt_sz b))
theorem sz_val {l : List Nat} (h : Lim l) : sz (val l) ≤ l.length := sz_le (val_lt h)
theorem sz_num {w : World} {v : Value} {l : List Nat} {n : Nat} (h : Num w v l n) : sz n ≤ l.length := by rw [← h.val]; exact sz_val h.lim
theorem sz_add (a b : Nat) : sz (a + b) ≤ max (sz a) (sz b) + 1 := by
  refine sz_le ?_
  have ha := lt_sz a
  have hb := lt_sz b
  have h1 : 4294967296 ^ sz a ≤ 4294967296 ^ max (sz a) (sz b) := Nat.pow_le_pow_right (by decide) (Nat.le_max_left _ _)
  have h2 : 4294967296 ^ sz b ≤ 4294967296 ^ max (sz a) (sz b) := Nat.pow_le_pow_right (by decide) (Nat.le_max_right _ _)
  rw [Nat.pow_succ]
  omega
theorem sz_mul (a b : Nat) : sz (a * b) ≤ sz a + sz b := by
  refine sz_le ?_
  rw [Nat.pow_add]
  exact Nat.mul_lt_mul'' (lt_sz a) (lt_sz b)
theorem sz_div (a b : Nat) : sz (a / b) ≤ sz a := sz_mono (Nat.div_le_self _ _)
theorem sz_mod (a b : Nat) : sz (a % b) ≤ sz a := sz_mono (Nat.mod_le _ _)
theorem sz_sub (a b : Nat) : sz (a - b) ≤ sz a := sz_mono (Nat.sub_le _ _)

theorem Gives.num {e : TypeId} {w w' : World} {v : Value} {n : Nat} (h : Gives e encU w w' v (limbs n)) (hn : sz n ≤ 100000) : Num w' v (limbs n) n := ⟨h.arg, limbs_lim n, hn, val_limbs n⟩

/-! Numbers of 64 bits as the walk writes them. -/
theorem u64_mask (n : Int) : Go.bits .and .u64 n 4294967295 = n % 4294967296 := by
  show IntKind.u64.wrap ((BitVec.ofInt 64 n &&& BitVec.ofInt 64 4294967295).toNat : Int) = _
  have h1 : (BitVec.ofInt 64 n &&& BitVec.ofInt 64 4294967295).toNat = (BitVec.ofInt 64 n).toNat % 4294967296 := by
    rw [BitVec.toNat_and]
    have : (BitVec.ofInt 64 4294967295).toNat = 2 ^ 32 - 1 := by decide
    rw [this, Nat.and_two_pow_sub_one_eq_mod]
  rw [h1, BitVec.toNat_ofInt, IntKind.wrap_u64]
  omega
theorem u64_or_hi (s x i : Nat) (hs : s < 2 ^ i) (hx : x * 2 ^ i + s < 18446744073709551616) : Go.bits .or .u64 ((x * 2 ^ i : Nat) : Int) (s : Int) = ((x * 2 ^ i + s : Nat) : Int) := by
  rw [u64_or_nat _ _ (by omega) (by omega)]
  congr 1
  rw [← Nat.shiftLeft_eq]
  exact (Nat.shiftLeft_add_eq_or_of_lt hs x).symm
/-- A limb laid above another one. -/
theorem u64_join (a s : Nat) (ha : a < 4294967296) (hs : s < 4294967296) : Go.bits .or .u64 ((a : Int) * 4294967296) (s : Int) = (a : Int) * 4294967296 + (s : Int) := by
  have h := u64_or_hi s a 32 (by omega) (by omega)
  have e : ((a * 2 ^ 32 : Nat) : Int) = (a : Int) * 4294967296 := by simp
  have e2 : ((a * 2 ^ 32 + s : Nat) : Int) = (a : Int) * 4294967296 + (s : Int) := by simp
  rw [e, e2] at h
  exact h
/-- The state of a slice of limbs that a call builds by append: it is the call's own, its cells are l. -/
def Own (e : TypeId) (base : Nat) (w : World) (v : Value) (l : List Nat) : Prop := w.ownsRow base e 1 v l.length (l.map encU)
theorem Own.gives {e : TypeId} {w w' : World} {v : Value} {l : List Nat} (h : Own e w.heap.size w' v l) (hb : Below w.heap.size w w') : Gives e encU w w' v l := ⟨h, hb⟩
theorem Own.arg {e : TypeId} {base : Nat} {w : World} {v : Value} {l : List Nat} (h : Own e base w v l) : Arg encU w v l := ownsRow_arg h
theorem Own.nil_ (e : TypeId) (base : Nat) (w : World) : Own e base w (.slice none 0 0) [] := World.ownsRow_nil _ _ _ _
theorem Own.row {e : TypeId} {base : Nat} {w : World} {v : Value} {l : List Nat} (h : Own e base w v l) : w.ownsRow base e 1 v l.length (l.map encU) := h
/-- What an append of one limb leaves. -/
theorem Own.pushed {e : TypeId} {w wr w' : World} {v v' : Value} {r : List Nat} {o : Obj} {u : Value} {d : Nat} (h : Own e w.heap.size wr v r) (hb : Below w.heap.size w wr)
    (h' : w'.ownsRow w.heap.size e 1 v' (r.length + 1) (r.map encU ++ [u])) (hg : (wr.alloc o).grownBy w' v.ownBlock) (hu : u = encU d) : Own e w.heap.size w' v' (r ++ [d]) ∧ Below w.heap.size w w' := by
  subst hu
  refine ⟨?_, (hb.alloc hb.size o).grown hg (Nat.le_trans hb.size (by simp)) (fun k hk => (World.ownsRow.lt h k hk).1)⟩
  unfold Own
  rw [List.length_append, List.map_append]
  exact h'
end Go.Num
/- Rows that a call makes and writes in place. No program in sight. -/
namespace Go.Num
open Go Go.RowKit
section
variable {α : Type} {enc : α → Value} {w w' : World} {e : TypeId} {base g n c : Nat} {q : List α}

/-- The n cells at the head of block g, which is the call's own, hold q. -/
def Inp (e : TypeId) (enc : α → Value) (base : Nat) (w : World) (g n c : Nat) (q : List α) : Prop := w.ownsRow base e 1 (.slice (some ⟨g, 0, none⟩) n c) n (q.map enc)
theorem Inp.row (h : Inp e enc base w g n c q) : w.ownsRow base e 1 (.slice (some ⟨g, 0, none⟩) n c) n (q.map enc) := h
theorem Inp.len (h : Inp e enc base w g n c q) : q.length = n := by have := h.1; simpa using this
theorem Inp.own (h : Inp e enc base w g n c q) : w.ownsRow base e 1 (.slice (some ⟨g, 0, none⟩) n c) q.length (q.map enc) := by have := h.row; rw [← h.len] at this; rw [← h.len]; exact this
theorem Inp.arg (h : Inp e enc base w g n c q) : Arg enc w (.slice (some ⟨g, 0, none⟩) n c) q := by have := h.own; exact ownsRow_arg this
theorem Inp.cell (h : Inp e enc base w g n c q) {j : Nat} {x : α} (hx : q[j]? = some x) : w.cell? ⟨g, j, none⟩ = some (enc x) := by
  rw [World.ownsRow.cellAt h.row j (by have := len_of_get hx; rw [h.len] at this; omega), List.getElem?_map, hx]
  rfl
theorem Inp.free (h : Inp e enc base w g n c q) (j : Nat) : w.frozen? ⟨g, j, none⟩ = false := World.ownsRow.frozenAt h.row j
theorem Inp.base_le (h : Inp e enc base w g n c q) : base ≤ g := (World.ownsRow.lt h.row g (by simp [Value.ownBlock])).1
theorem Inp.lt (h : Inp e enc base w g n c q) : g < w.heap.size := (World.ownsRow.lt h.row g (by simp [Value.ownBlock])).2
theorem Inp.set (h : Inp e enc base w g n c q) (j : Nat) (x : α) : Inp e enc base (w.setCell ⟨g, j, none⟩ (enc x)) g n c (q.set j x) := by
  have := (World.ownsRow.stored h.row j (enc x)).1
  unfold Inp
  rw [List.map_set]
  exact this
theorem Inp.drewN (h : Inp e enc base w g n c q) (k : Nat) : Inp e enc base (w.drewN k) g n c q := h
theorem Inp.drew (h : Inp e enc base w g n c q) : Inp e enc base w.drew g n c q := h
theorem Inp.alloc (h : Inp e enc base w g n c q) (o : Obj) : Inp e enc base (w.alloc o) g n c q := World.ownsRow.alloc h.row o
theorem Inp.below (h : Inp e enc base w g n c q) (hb : Below w.heap.size w w') : Inp e enc base w' g n c q :=
  World.ownsRow.kept h.row (row := none) ⟨hb.os, hb.tape, hb.output, hb.size, fun k hk _ => hb.block k hk⟩ (.inr (by simp [Value.ownBlock]))
theorem Inp.gives (h : Inp e enc w.heap.size w' g n c q) (hb : Below w.heap.size w w') : Gives e enc w w' (.slice (some ⟨g, 0, none⟩) n c) q := ⟨h.own, hb⟩
/-- make([]T, n). -/
theorem Inp.made (w : World) (z : α) (hn : n ≤ 1000000000) (_hz : (enc z).cells = #[enc z]) : Inp e enc w.heap.size (w.alloc (.cells (madeCells #[enc z] n) e)) w.heap.size n n (List.replicate n z) := by
  have := World.ownsRow_lit (e := e) (base := w.heap.size) (size := 1) w (madeCells #[enc z] n) n (Nat.le_refl _) (by unfold maxLen; omega) (by simp [madeCells])
  rw [toList_madeCells_one] at this
  unfold Inp
  rw [List.map_replicate]
  exact this
end
end Go.Num

