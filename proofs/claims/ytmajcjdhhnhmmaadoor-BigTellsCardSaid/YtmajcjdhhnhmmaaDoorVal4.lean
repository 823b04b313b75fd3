import Derived.Test.YtmajcjdhhnhmmaaDoorGVal
import Derived.Test.YtmajcjdhhnhmmaaDoorGRAll
/- litmusref01 in the word of values; numbers of which it is known how they are written. -/
namespace Go.Num
open Go Go.RowKit Go.Kp
section
variable {w w' : World} {v : Value} {l : List Nat} {a : Nat} {z : Int} {t : Bool}
theorem Num.lv (h : Num w v l a) : LV w v l a := by
  have h0 := h.arg
  obtain ⟨A, c, e, _⟩ := h0
  exact ⟨A, c, e, h⟩
theorem lv_limbs (h : Arg encU w v (limbs a)) (hs : sz a ≤ 1000) : LV w v (limbs a) a := Num.lv ⟨h, limbs_lim _, Nat.le_trans hs (by decide), val_limbs _⟩
theorem LV.sz_le (h : LV w v l a) : sz a ≤ l.length := by
  obtain ⟨A, c, e, s⟩ := h
  exact sz_num s
/-- A value that reads as z; t tells whether it is right. -/
def WR (w : World) (v : Value) (z : Int) (t : Bool) : Prop := ∃ n A k c l a, v = .agg #[.bool n, .slice A k c] ∧ Num w (.slice A k c) l a ∧ l.length ≤ 1000 ∧ z = sg n a ∧ (decide ((limbs a).length = l.length) && decide (sg n a < 0) == n) = t
theorem WR.wv (h : WR w v z t) : WV w v z := by
  obtain ⟨n, A, k, c, l, a, e, h1, h2, h3, _⟩ := h
  exact ⟨n, A, k, c, e, l, a, h1, h2, h3⟩
theorem WR.grow (h : WR w v z t) (hb : Grows w w') : WR w' v z t := by
  obtain ⟨n, A, k, c, l, a, e, h1, h2, h3⟩ := h
  exact ⟨n, A, k, c, l, a, e, h1.below hb, h2, h3⟩
theorem WV.wr (h : WV w v z) : ∃ t, WR w v z t := by
  obtain ⟨n, A, k, c, e, l, a, h1, h2, h3⟩ := h
  exact ⟨_, n, A, k, c, l, a, e, h1, h2, h3, rfl⟩
theorem tz_full : ∀ {l : List Nat}, (tz l).length = l.length → tz l = l
  | [], _ => rfl
  | x :: l, h => by
    rw [tz_cons] at h ⊢
    split at h
    · simp at h
    · rename_i hc
      rw [if_neg hc, tz_full (by simpa using h)]
theorem Lim.same_limbs {l : List Nat} (h : Lim l) {a : Nat} (e : val l = a) (hl : (limbs a).length = l.length) : limbs a = l := by
  have h1 : limbs a = tz l := by rw [← e]; exact limbs_val h
  rw [h1] at hl ⊢
  exact tz_full hl
end
end Go.Num
namespace Go.Kp
open Go Go.RowKit
section
variable {P : Program} {ops : Array Oper} {Q : Exit → Act → World → Prop} {md : Region.Mode} {R : Nat → Value → World → Prop} {F : List Nat} {n : Nat} {b a : Act} {w0 w : World} {i : Nat} {o : Oper} {listed : Array Bool}
theorem yield_none {g d : Nat} (hk : Going md ops n F Grows R b w0 listed a w) (hr : i ∈ Region.ready md ops listed) (hd : (ops[g]?).bind (·.dst) = some d) (hw : waits md ops g i = true) (hR : ∀ v w, R g v w → v = undef) : yielded ops a.tmps g = none := by
  obtain ⟨v, _, hv, hRv⟩ := hk.dep hr g d hw hd
  unfold yielded
  rw [hd]
  show (match (a.tmps[d]? : Option Value) with | some (.bool b) => some b | _ => none) = none
  rw [hv, hR _ _ hRv]
  rfl
/-- The guard's own operation was barred. -/
theorem Does.undone {g d : Nat} {t : Bool} (hg : o.guard = some (g, t)) (hd : (ops[g]?).bind (·.dst) = some d) (hw : waits md ops g i = true) (hR : ∀ v w, R g v w → v = undef) (hi : ∀ w, R i undef w) (hF : F.contains i = false) : Does P md ops n F Q Grows R b w0 i o := fun listed a w hk hr K hK => by
  have hy := yield_none hk hr hd hw hR
  rw [if_neg (by simp [Region.wanted, hg, hy])]
  exact hK.out _ _ (Grows.refl _) (hi _) (fun h => by rw [List.contains_iff_mem.2 h] at hF; cases hF)
end
end Go.Kp
namespace Go.Proofs.YtmajcjdhhnhmmaaDoor
open Go.RowKit Go.Num Go.Kp
section
variable (w : World) {u v : Value} {l l' : List Nat} {a b : Nat}
theorem rtrim_v (h : LV w u l a) (hl : l.length ≤ 1000) : Calls Tryd.prog 68 #[u] w fun e w' => ∃ r, e = .returned r ∧ LV w' r (limbs a) a ∧ Grows w w' := by
  obtain ⟨A, c, rfl, s⟩ := h
  refine (rTrim_any w _ l a s hl).mono ?_
  rintro e w1 ⟨v1, rfl, g1, b1⟩
  exact ⟨_, rfl, lv_limbs g1 (Nat.le_trans (sz_num s) hl), b1⟩
theorem raddn_v (h : LV w u l a) (g : LV w v l' b) (hl : l.length ≤ 1000) (hl' : l'.length ≤ 1000) (hs : sz (a + b) ≤ 1000) : Calls Tryd.prog 66 #[u, v] w fun e w' => ∃ r, e = .returned r ∧ LV w' r (limbs (a + b)) (a + b) ∧ Grows w w' := by
  obtain ⟨A, c, rfl, s⟩ := h
  obtain ⟨A', c', rfl, s'⟩ := g
  refine (rAdd_any w _ _ l l' a b s s' hl hl').mono ?_
  rintro e w1 ⟨v1, rfl, g1, b1⟩
  exact ⟨_, rfl, lv_limbs g1 hs, b1⟩
theorem rmuln_v (h : LV w u l a) (g : LV w v l' b) (hl : l.length ≤ 1000) (hl' : l'.length ≤ 1000) (hs : sz (a * b) ≤ 1000) : Calls Tryd.prog 50 #[u, v] w fun e w' => ∃ r, e = .returned r ∧ LV w' r (limbs (a * b)) (a * b) ∧ Grows w w' := by
  obtain ⟨A, c, rfl, s⟩ := h
  obtain ⟨A', c', rfl, s'⟩ := g
  refine (rMul_any w _ _ l l' a b s s' hl hl').mono ?_
  rintro e w1 ⟨v1, rfl, g1, b1⟩
  exact ⟨_, rfl, lv_limbs g1 hs, b1⟩
theorem rsubn0_v (h : LV w u l a) (g : LV w v l' b) (hl : l.length ≤ 1000) (hl' : l'.length ≤ 1000) (hab : a < b) : Calls Tryd.prog 67 #[u, v] w fun e w' => ∃ r, e = .returned r ∧ r = .tuple #[.slice none 0 0, .bool false] ∧ Grows w w' := by
  obtain ⟨A, c, rfl, s⟩ := h
  obtain ⟨A', c', rfl, s'⟩ := g
  refine (rSub_no w _ _ l l' a b s s' hl hl' hab).mono ?_
  rintro e w1 ⟨rfl, b1⟩
  exact ⟨_, rfl, rfl, b1⟩
theorem rsubn_v (h : LV w u l a) (g : LV w v l' b) (hl : l.length ≤ 1000) (hl' : l'.length ≤ 1000) (hab : b ≤ a) : Calls Tryd.prog 67 #[u, v] w fun e w' => ∃ r, e = .returned r ∧ (∃ u0, r = .tuple #[u0, .bool true] ∧ LV w' u0 (limbs (a - b)) (a - b)) ∧ Grows w w' := by
  obtain ⟨A, c, rfl, s⟩ := h
  obtain ⟨A', c', rfl, s'⟩ := g
  refine (rSub_yes w _ _ l l' a b s s' hl hl' hab).mono ?_
  rintro e w1 ⟨v1, rfl, g1, b1⟩
  exact ⟨_, rfl, ⟨_, rfl, lv_limbs g1 (Nat.le_trans (sz_mono (Nat.sub_le a b)) (Nat.le_trans (sz_num s) hl))⟩, b1⟩
theorem rdivn0_v (g : LV w v l' 0) : Calls Tryd.prog 52 #[u, v] w fun e w' => ∃ r, e = .returned r ∧ r = .tuple #[.slice none 0 0, .slice none 0 0, .int .i64 3] ∧ Grows w w' := by
  obtain ⟨A', c', rfl, s'⟩ := g
  refine (rDiv_zero w u _ l' s').mono ?_
  rintro e w1 ⟨rfl, b1⟩
  exact ⟨_, rfl, rfl, b1⟩
theorem rdivn_v (h : LV w u l a) (g : LV w v l' b) (hl : l.length ≤ 1000) (hl' : l'.length ≤ 1000) (hb : 0 < b) : Calls Tryd.prog 52 #[u, v] w fun e w' => ∃ r, e = .returned r ∧ (∃ u0 u1, r = .tuple #[u0, u1, .int .i64 0] ∧ LV w' u0 (limbs (a / b)) (a / b) ∧ LV w' u1 (limbs (a % b)) (a % b)) ∧ Grows w w' := by
  obtain ⟨A, c, rfl, s⟩ := h
  obtain ⟨A', c', rfl, s'⟩ := g
  refine (rDiv_any w _ _ l l' a b s s' hl hl' hb).mono ?_
  rintro e w1 ⟨v1, v2, rfl, g1, g2, b1⟩
  exact ⟨_, rfl, ⟨_, _, rfl, lv_limbs g1 (Nat.le_trans (sz_mono (Nat.div_le_self a b)) (Nat.le_trans (sz_num s) hl)), lv_limbs g2 (Nat.le_trans (sz_mono (Nat.mod_le a b)) (Nat.le_trans (sz_num s) hl))⟩, b1⟩
end
end Go.Proofs.YtmajcjdhhnhmmaaDoor
