import Derived.Test.YtbippecchpaleaaGreatDoorVal4
import Derived.Test.YtbippecchpaleaaGreatDoorGRAll
/- litmusref01 in the word of values. -/
namespace Go.Proofs.YtbippecchpaleaaGreatDoor
open Go.RowKit Go.Num Go.Kp
section
variable (w : World) {u v : Value} {l l' : List Nat} {a b : Nat}
theorem rtrim_v (h : LV w u l a) (hl : l.length ≤ 1000) : Calls Tryz.prog 51 #[u] w fun e w' => ∃ r, e = .returned r ∧ LV w' r (limbs a) a ∧ Grows w w' := by
  obtain ⟨A, c, rfl, s⟩ := h
  refine (rTrim_any w _ l a s hl).mono ?_
  rintro e w1 ⟨v1, rfl, g1, b1⟩
  exact ⟨_, rfl, lv_limbs g1 (Nat.le_trans (sz_num s) hl), b1⟩
theorem raddn_v (h : LV w u l a) (g : LV w v l' b) (hl : l.length ≤ 1000) (hl' : l'.length ≤ 1000) (hs : sz (a + b) ≤ 1000) : Calls Tryz.prog 76 #[u, v] w fun e w' => ∃ r, e = .returned r ∧ LV w' r (limbs (a + b)) (a + b) ∧ Grows w w' := by
  obtain ⟨A, c, rfl, s⟩ := h
  obtain ⟨A', c', rfl, s'⟩ := g
  refine (rAdd_any w _ _ l l' a b s s' hl hl').mono ?_
  rintro e w1 ⟨v1, rfl, g1, b1⟩
  exact ⟨_, rfl, lv_limbs g1 hs, b1⟩
theorem rmuln_v (h : LV w u l a) (g : LV w v l' b) (hl : l.length ≤ 1000) (hl' : l'.length ≤ 1000) (hs : sz (a * b) ≤ 1000) : Calls Tryz.prog 97 #[u, v] w fun e w' => ∃ r, e = .returned r ∧ LV w' r (limbs (a * b)) (a * b) ∧ Grows w w' := by
  obtain ⟨A, c, rfl, s⟩ := h
  obtain ⟨A', c', rfl, s'⟩ := g
  refine (rMul_any w _ _ l l' a b s s' hl hl').mono ?_
  rintro e w1 ⟨v1, rfl, g1, b1⟩
  exact ⟨_, rfl, lv_limbs g1 hs, b1⟩
theorem rsubn_v (h : LV w u l a) (g : LV w v l' b) (hl : l.length ≤ 1000) (hl' : l'.length ≤ 1000) (hab : b ≤ a) : Calls Tryz.prog 101 #[u, v] w fun e w' => ∃ r, e = .returned r ∧ (∃ u0, r = .tuple #[u0, .bool true] ∧ LV w' u0 (limbs (a - b)) (a - b)) ∧ Grows w w' := by
  obtain ⟨A, c, rfl, s⟩ := h
  obtain ⟨A', c', rfl, s'⟩ := g
  refine (rSub_yes w _ _ l l' a b s s' hl hl' hab).mono ?_
  rintro e w1 ⟨v1, rfl, g1, b1⟩
  exact ⟨_, rfl, ⟨_, rfl, lv_limbs g1 (Nat.le_trans (sz_mono (Nat.sub_le a b)) (Nat.le_trans (sz_num s) hl))⟩, b1⟩
theorem rdivn_v (h : LV w u l a) (g : LV w v l' b) (hl : l.length ≤ 1000) (hl' : l'.length ≤ 1000) (hb : 0 < b) : Calls Tryz.prog 75 #[u, v] w fun e w' => ∃ r, e = .returned r ∧ (∃ u0 u1, r = .tuple #[u0, u1, .int .i64 0] ∧ LV w' u0 (limbs (a / b)) (a / b) ∧ LV w' u1 (limbs (a % b)) (a % b)) ∧ Grows w w' := by
  obtain ⟨A, c, rfl, s⟩ := h
  obtain ⟨A', c', rfl, s'⟩ := g
  refine (rDiv_any w _ _ l l' a b s s' hl hl' hb).mono ?_
  rintro e w1 ⟨v1, v2, rfl, g1, g2, b1⟩
  exact ⟨_, rfl, ⟨_, _, rfl, lv_limbs g1 (Nat.le_trans (sz_mono (Nat.div_le_self a b)) (Nat.le_trans (sz_num s) hl)), lv_limbs g2 (Nat.le_trans (sz_mono (Nat.mod_le a b)) (Nat.le_trans (sz_num s) hl))⟩, b1⟩
end
end Go.Proofs.YtbippecchpaleaaGreatDoor

