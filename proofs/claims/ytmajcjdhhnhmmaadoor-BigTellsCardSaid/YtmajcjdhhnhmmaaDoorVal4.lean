import Derived.Test.YtmajcjdhhnhmmaaDoorGVal
/- Numbers of which it is known how they are written; an operation whose guard was barred. -/
namespace Go.Num
open Go Go.RowKit Go.Kp
section
variable {w w' : World} {v : Value} {l : List Nat} {a : Nat} {z : Int} {t : Bool}
theorem Num.lv (h : Num w v l a) : LV w v l a := by
  have h0 := h.arg
  obtain ⟨A, c, e, _⟩ := h0
  exact ⟨A, c, e, h⟩
theorem lv_limbs (h : Arg encU w v (limbs a)) (hs : sz a ≤ 1000) : LV w v (limbs a) a := Num.lv ⟨h, limbs_lim _, Nat.le_trans hs (by decide), val_limbs _⟩
theorem LV.sz_le (h : LV w v l a) : sz a ≤ l.length := by
  obtain ⟨A, c, e, s⟩ := h
  exact sz_num s
/-- A value that reads as z; t tells whether it is right. -/
def WR (w : World) (v : Value) (z : Int) (t : Bool) : Prop := ∃ n A k c l a, v = .agg #[.bool n, .slice A k c] ∧ Num w (.slice A k c) l a ∧ l.length ≤ 1000 ∧ z = sg n a ∧ (decide ((limbs a).length = l.length) && decide (sg n a < 0) == n) = t
theorem WR.wv (h : WR w v z t) : WV w v z := by
  obtain ⟨n, A, k, c, l, a, e, h1, h2, h3, _⟩ := h
  exact ⟨n, A, k, c, e, l, a, h1, h2, h3⟩
theorem WR.grow (h : WR w v z t) (hb : Grows w w') : WR w' v z t := by
  obtain ⟨n, A, k, c, l, a, e, h1, h2, h3⟩ := h
  exact ⟨n, A, k, c, l, a, e, h1.below hb, h2, h3⟩
theorem WV.wr (h : WV w v z) : ∃ t, WR w v z t := by
  obtain ⟨n, A, k, c, e, l, a, h1, h2, h3⟩ := h
  exact ⟨_, n, A, k, c, l, a, e, h1, h2, h3, rfl⟩
theorem tz_full : ∀ {l : List Nat}, (tz l).length = l.length → tz l = l
  | [], _ => rfl
  | x :: l, h => by
    rw [tz_cons] at h ⊢
    split at h
    · simp at h
    · rename_i hc
      rw [if_neg hc, tz_full (by simpa using h)]
theorem Lim.same_limbs {l : List Nat} (h : Lim l) {a : Nat} (e : val l = a) (hl : (limbs a).length = l.length) : limbs a = l := by
  have h1 : limbs a = tz l := by rw [← e]; exact limbs_val h
  rw [h1] at hl ⊢
  exact tz_full hl
end
end Go.Num
namespace Go.Kp
open Go Go.RowKit
section
variable {P : Program} {ops : Array Oper} {Q : Exit → Act → World → Prop} {md : Region.Mode} {R : Nat → Value → World → Prop} {F : List Nat} {n : Nat} {b a : Act} {w0 w : World} {i : Nat} {o : Oper} {listed : Array Bool}
theorem yield_none {g d : Nat} (hk : Going md ops n F Grows R b w0 listed a w) (hr : i ∈ Region.ready md ops listed) (hd : (ops[g]?).bind (·.dst) = some d) (hw : waits md ops g i = true) (hR : ∀ v w, R g v w → v = undef) : yielded ops a.tmps g = none := by
  obtain ⟨v, _, hv, hRv⟩ := hk.dep hr g d hw hd
  unfold yielded
  rw [hd]
  show (match (a.tmps[d]? : Option Value) with | some (.bool b) => some b | _ => none) = none
  rw [hv, hR _ _ hRv]
  rfl
/-- The guard's own operation was barred. -/
theorem Does.undone {g d : Nat} {t : Bool} (hg : o.guard = some (g, t)) (hd : (ops[g]?).bind (·.dst) = some d) (hw : waits md ops g i = true) (hR : ∀ v w, R g v w → v = undef) (hi : ∀ w, R i undef w) (hF : F.contains i = false) : Does P md ops n F Q Grows R b w0 i o := fun listed a w hk hr K hK => by
  have hy := yield_none hk hr hd hw hR
  rw [if_neg (by simp [Region.wanted, hg, hy])]
  exact hK.out _ _ (Grows.refl _) (hi _) (fun h => by rw [List.contains_iff_mem.2 h] at hF; cases hF)
end
end Go.Kp
