import Derived.Test.YtbippecchpaleaaGreatDoorGRat1
import Derived.Test.YtbippecchpaleaaGreatDoorOwn
/- Fractions whose rows are the answer's own; nat in that word. -/
namespace Go.Proofs.YtbippecchpaleaaGreatDoor
open Go Go.RowKit Go.Num Go.Kp
theorem RowO.put3 {B0 g : Nat} {w : World} {m : Value} {T : TypeId} {n : Bool} {A B : Option Addr} {k c j d : Nat} (h : RowO B0 w m) (hb : Box3 w g T (.bool n) (.slice A k c) (.slice B j d)) (x y t : Value) : RowO B0 (put3 w g x y t) m :=
  h.kept fun i cur hi ⟨z, hz⟩ => by
    have hne : i ≠ g := fun e => by
      subst e
      have h1 := hi.symm.trans (show w.heap[i]? = _ from hb)
      simp only [Option.some.injEq, Obj.cells.injEq] at h1
      rw [h1.1] at hz
      cases hz
    unfold Go.Num.put3
    rw [heap_setCell_other _ ⟨g, 2, none⟩ i _ hne, heap_setCell_other _ ⟨g, 1, none⟩ i _ hne, heap_setCell_other _ ⟨g, 0, none⟩ i _ hne]
/-- The value v is right, and is q; its rows are the answer's own. -/
def RO (B0 : Nat) (w : World) (v : Value) (q : Rat) : Prop := ∃ n A k c B j d, v = .agg #[.bool n, .slice A k c, .slice B j d] ∧ Sound w n (.slice A k c) q.num ∧ Num w (.slice B j d) (limbs q.den) q.den ∧ sz q.den ≤ 1000 ∧ RowO B0 w (.slice A k c) ∧ RowO B0 w (.slice B j d)
section
variable {B0 : Nat} {w w' : World} {v : Value} {q : Rat}
theorem RO.rv (h : RO B0 w v q) : RV w v q := by
  obtain ⟨n, A, k, c, B, j, d, e, h1, h2, h3, _⟩ := h
  exact ⟨n, A, k, c, B, j, d, e, h1, h2, h3⟩
theorem RO.qv (h : RO B0 w v q) : QV w v q := h.rv.qv
theorem RO.grow (h : RO B0 w v q) (hb : Grows w w') : RO B0 w' v q := by
  obtain ⟨n, A, k, c, B, j, d, e, h1, h2, h3, h4, h5⟩ := h
  exact ⟨n, A, k, c, B, j, d, e, h1.below hb, h2.below hb, h3, h4.grow hb, h5.grow hb⟩
theorem RO.to {r : Rat} (h : RO B0 w v q) (e : q = r) : RO B0 w v r := e ▸ h
end
section
variable {w x : World} {B0 g : Nat} {T : TypeId} {m : Bool} {A0 C0 : Option Addr} {k0 c0 j0 d0 : Nat} {v : Value} {q : Rat} {z : Int}
/-- A fraction laid into the result's box. -/
theorem ret3o (h : RO B0 x v q) (hD : Box3 x g T (.bool m) (.slice A0 k0 c0) (.slice C0 j0 d0)) (hB : Below w.heap.size w x) (hg : w.heap.size ≤ g) : ∃ n A k c B j d y, v = .agg #[.bool n, .slice A k c, .slice B j d] ∧ put3 x g (.bool n) (.slice A k c) (.slice B j d) = y ∧ RO B0 y (.agg #[.bool n, .slice A k c, .slice B j d]) q ∧ Below w.heap.size w y ∧ y.cell? ⟨g, 0, none⟩ = some (.bool n) ∧ y.cell? ⟨g, 1, none⟩ = some (.slice A k c) ∧ y.cell? ⟨g, 2, none⟩ = some (.slice B j d) := by
  obtain ⟨n, A, k, c, B, j, d, e, h1, h2, h3, h4, h5⟩ := h
  have hP := put3_own (x' := .bool n) (y' := .slice A k c) (z' := .slice B j d) hD
  exact ⟨n, A, k, c, B, j, d, _, e, rfl, ⟨n, A, k, c, B, j, d, rfl, h1.put3 hD _ _ _, h2.put3 hD _ _ _, h3, h4.put3 hD _ _ _, h5.put3 hD _ _ _⟩, put3_below hB hg, hP.c0, hP.c1, hP.c2⟩
/-- A whole number laid into the result's box. -/
theorem ret2o (h : ZO B0 x v z) (hD : Box2 x g T (.bool m) (.slice A0 k0 c0)) (hB : Below w.heap.size w x) (hg : w.heap.size ≤ g) : ∃ n A k c y, v = .agg #[.bool n, .slice A k c] ∧ put2 x g (.bool n) (.slice A k c) = y ∧ ZO B0 y (.agg #[.bool n, .slice A k c]) z ∧ Below w.heap.size w y ∧ y.cell? ⟨g, 0, none⟩ = some (.bool n) ∧ y.cell? ⟨g, 1, none⟩ = some (.slice A k c) := by
  obtain ⟨n, A, k, c, e, h1, h2⟩ := h
  have hP := put2_own (u := .bool n) (v := .slice A k c) hD
  exact ⟨n, A, k, c, _, e, rfl, ⟨n, A, k, c, rfl, h1.put hD _ _, h2.put hD _ _⟩, put2_below hB hg, hP.c0, hP.c1⟩
end
section
variable {P : Program} {f : FuncId} {vs : Array Value} {w : World} {B0 : Nat} {q : Rat} {z : Int}
/-- What is the answer's own is an answer. -/
theorem Calls.rv (h : Calls P f vs w fun e w' => ∃ r, e = .returned r ∧ RO B0 w' r q ∧ Grows w w') : Calls P f vs w fun e w' => ∃ r, e = .returned r ∧ RV w' r q ∧ Grows w w' :=
  h.mono fun _ _ ⟨r, e, hr, g⟩ => ⟨r, e, hr.rv, g⟩
theorem Calls.zv (h : Calls P f vs w fun e w' => ∃ r, e = .returned r ∧ ZO B0 w' r z ∧ Grows w w') : Calls P f vs w fun e w' => ∃ r, e = .returned r ∧ ZV w' r z ∧ Grows w w' :=
  h.mono fun _ _ ⟨r, e, hr, g⟩ => ⟨r, e, hr.zv, g⟩
end
/-- A division of rows: the quotient is the answer's own. -/
theorem ndiv_o (w : World) {B0 : Nat} (hB : B0 ≤ w.heap.size) {u v : Value} {l l' : List Nat} {a b : Nat} (h : LV w u l a) (g : LV w v l' b) (hs : sz a ≤ 1000) (hb : 0 < b) : Calls Tryz.prog 103 #[u, v] w fun e w' => ∃ r, e = .returned r ∧ (∃ u0 u1, r = .tuple #[u0, u1, .int .i64 0] ∧ LO B0 w' u0 (limbs (a / b)) (a / b) ∧ LV w' u1 (limbs (a % b)) (a % b)) ∧ Grows w w' := by
  obtain ⟨A, c, rfl, s⟩ := h
  obtain ⟨A', c', rfl, s'⟩ := g
  refine (div_any w _ _ l l' a b s s' hb).mono ?_
  rintro e w1 ⟨v1, v2, rfl, g1, g2, _⟩
  have ho := RowO.of_gives g1 (limbs_lim _) hB
  obtain ⟨A1, c1, e1, h1⟩ := g1.lv (Nat.le_trans (sz_mono (Nat.div_le_self a b)) hs)
  exact ⟨_, rfl, ⟨_, _, rfl, ⟨A1, c1, e1, h1, ho⟩, g2.lv (Nat.le_trans (sz_mono (Nat.mod_le a b)) hs)⟩, g1.below⟩
end Go.Proofs.YtbippecchpaleaaGreatDoor
