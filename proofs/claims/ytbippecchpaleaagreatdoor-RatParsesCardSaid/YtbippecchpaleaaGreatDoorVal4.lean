import Derived.Test.YtbippecchpaleaaGreatDoorGVal
/- Numbers of which it is known how they are written; an operation whose guard was barred. -/
namespace Go.Num
open Go Go.RowKit Go.Kp
section
variable {w w' : World} {v : Value} {l : List Nat} {a : Nat} {z : Int} {t : Bool}
theorem Num.lv (h : Num w v l a) : LV w v l a := by
  have h0 := h.arg
  obtain ⟨A, c, e, _⟩ := h0
  exact ⟨A, c, e, h⟩
theorem lv_limbs (h : Arg encU w v (limbs a)) (hs : sz a ≤ 1000) : LV w v (limbs a) a := Num.lv ⟨h, limbs_lim _, Nat.le_trans hs (by decide), val_limbs _⟩
theorem LV.sz_le (h : LV w v l a) : sz a ≤ l.length := by
  obtain ⟨A, c, e, s⟩ := h
  exact sz_num s
/-- A value that reads as z; t tells whether it is right. -/
def WR (w : World) (v : Value) (z : Int) (t : Bool) : Prop := ∃ n A k c l a, v = .agg #[.bool n, .slice A k c] ∧ Num w (.slice A k c) l a ∧ l.length ≤ 1000 ∧ z = sg n a ∧ (decide ((limbs a).length = l.length) && decide (sg n a < 0) == n) = t
theorem WR.wv (h : WR w v z t) : WV w v z := by
  obtain ⟨n, A, k, c, l, a, e, h1, h2, h3, _⟩ := h
  exact ⟨n, A, k, c, e, l, a, h1, h2, h3⟩
theorem WR.grow (h : WR w v z t) (hb : Grows w w') : WR w' v z t := by
  obtain ⟨n, A, k, c, l, a, e, h1, h2, h3⟩ := h
  exact ⟨n, A, k, c, l, a, e, h1.below hb, h2, h3⟩
theorem WV.wr (h : WV w v z) : ∃ t, WR w v z t := by
  obtain ⟨n, A, k, c, e, l, a, h1, h2, h3⟩ := h
  exact ⟨_, n, A, k, c, l, a, e, h1, h2, h3, rfl⟩
end
end Go.Num
namespace Go.Kp
open Go Go.RowKit
section
variable {P : Program} {ops : Array Oper} {Q : Exit → Act → World → Prop} {md : Region.Mode} {R : Nat → Value → World → Prop} {F : List Nat} {n : Nat} {b a : Act} {w0 w : World} {i : Nat} {o : Oper} {listed : Array Bool}
end
end Go.Kp

