import Derived.Test.YtdmghakmhfhpiaaDoorWorks
/- Words for the laws: rows that are alike, sizes, the empty row. -/
namespace Go.Proofs.YtdmghakmhfhpiaaDoor
open Go.RowKit Go.Num
attribute [local go_sem] Oper.semAt_some u64_mask
theorem same_yes (w : World) (va vb : Value) (la lb : List Nat) {a b : Nat} (ha : Num w va la a) (hb : Num w vb lb b) (h : la = lb) :
    Calls Tryd.prog 24 #[va, vb] w fun e w' => e = .returned (.bool true) ∧ Below w.heap.size w w' := by
  refine (same_any w va vb la lb ha.arg hb.arg (Nat.le_trans ha.len (by decide))).mono ?_
  rintro e w1 ⟨rfl, h1⟩
  exact ⟨by rw [decide_eq_true h], h1⟩
theorem same_no (w : World) (va vb : Value) (la lb : List Nat) {a b : Nat} (ha : Num w va la a) (hb : Num w vb lb b) (h : la ≠ lb) :
    Calls Tryd.prog 24 #[va, vb] w fun e w' => e = .returned (.bool false) ∧ Below w.heap.size w w' := by
  refine (same_any w va vb la lb ha.arg hb.arg (Nat.le_trans ha.len (by decide))).mono ?_
  rintro e w1 ⟨rfl, h1⟩
  exact ⟨by rw [decide_eq_false h], h1⟩
theorem trim_num (w : World) (v : Value) (l : List Nat) (n : Nat) (h : Num w v l n) :
    Calls Tryd.prog 22 #[v] w fun e w' => ∃ v', e = .returned v' ∧ Gives 39 encU w w' v' (limbs n) := by
  have := trim_any w v l h.arg h.lim (Nat.le_trans h.len (by decide))
  rwa [h.val] at this
theorem sz_add_le {a b i j : Nat} (ha : sz a ≤ i) (hb : sz b ≤ j) : sz (a + b) ≤ max i j + 1 := Nat.le_trans (sz_add a b) (by omega)
theorem sz_mul_le {a b i j : Nat} (ha : sz a ≤ i) (hb : sz b ≤ j) : sz (a * b) ≤ i + j := Nat.le_trans (sz_mul a b) (by omega)
theorem sz_div_le {a i : Nat} (b : Nat) (ha : sz a ≤ i) : sz (a / b) ≤ i := Nat.le_trans (sz_div a b) ha
theorem sz_mod_le {a i : Nat} (b : Nat) (ha : sz a ≤ i) : sz (a % b) ≤ i := Nat.le_trans (sz_mod a b) ha
theorem sz_sub_le {a i : Nat} (b : Nat) (ha : sz a ≤ i) : sz (a - b) ≤ i := Nat.le_trans (sz_sub a b) ha
theorem sz_u64 {n : Nat} (h : n < 18446744073709551616) : sz n ≤ 2 := sz_le (Nat.lt_of_lt_of_le h (by decide))
theorem sz_zero : sz 0 = 0 := by rw [sz, limbs_zero]; rfl
theorem sz_nil : sz 0 ≤ 0 := by rw [sz_zero]; exact Nat.le_refl _
theorem sz_gcd_le {a b i j : Nat} (ha : sz a ≤ i) (hb : sz b ≤ j) : sz (Nat.gcd a b) ≤ max i j := by
  rcases Nat.eq_zero_or_pos a with h | h
  · subst h; rw [Nat.gcd_zero_left]; omega
  · have := sz_mono (Nat.gcd_le_left b h); omega
theorem sz_lit {m : Nat} (l : List Nat) (hl : l.all (fun x => decide (x < 4294967296)) = true) (hv : val l = m) : sz m ≤ l.length := by rw [← hv]; exact sz_val (lim_of hl)
theorem num_nil (w : World) (c : Nat) : Num w (.slice none 0 c) [] 0 := ⟨Arg.nil_ _ _ _ _, Lim.nil, by decide, rfl⟩
theorem len_limbs {n : Nat} (h : 0 < n) : 0 < (limbs n).length := by rw [limbs_pos (by omega)]; simp
theorem len_zero : (limbs 0).length = 0 := by rw [limbs_zero]; rfl
theorem Lim.take {l : List Nat} (h : Lim l) (k : Nat) : Lim (l.take k) := fun x hx => h x (List.mem_of_mem_take hx)
theorem num_few {w : World} {v : Value} {l : List Nat} {k : Nat} (h : Arg encU w v (l.take k)) (hl : Lim l) (hk : k ≤ 100000) : Num w v (l.take k) (val (l.take k)) :=
  ⟨h, Lim.take hl k, by rw [List.length_take]; omega, rfl⟩
theorem sz_few {l : List Nat} (k : Nat) (hl : Lim l) : sz (val (l.take k)) ≤ k := Nat.le_trans (sz_val (Lim.take hl k)) (by rw [List.length_take]; omega)
end Go.Proofs.YtdmghakmhfhpiaaDoor
