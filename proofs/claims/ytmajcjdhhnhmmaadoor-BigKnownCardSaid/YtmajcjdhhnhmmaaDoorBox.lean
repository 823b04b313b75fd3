import Derived.Test.YtmajcjdhhnhmmaaDoorPairs
/- What one round over two numbers' limbs does to its two variables (a slice that is appended to, a number). No program in sight. -/
namespace Go.Num
open Go Go.RowKit
section
variable {W w1 : World} {lo N : Nat} {t1 t2 e : TypeId} {size : Nat} {v v' u u' : Value} {k m : Nat} {xs ys : List Value} {tmp : Obj}
theorem box_push (hbo : Boxed W lo t1 v) (hbc : Boxed W (lo + 1) t2 u) (h1 : t1 ≠ e) (h2 : t2 ≠ e) (hrow : W.ownsRow N e size v k xs) (hN : N ≤ W.heap.size) (hgrow : (W.alloc tmp).grownBy w1 v.ownBlock) :
    Boxed w1 lo t1 v ∧ Boxed w1 (lo + 1) t2 u ∧ KeepP lo N W w1 ∧ KeepsOthers W w1 := by
  refine ⟨(hbo.alloc tmp).kept hgrow (hbo.not_row h1 hrow), (hbc.alloc tmp).kept hgrow (hbc.not_row h2 hrow), ?_, ?_⟩
  · refine (KeepP.grown (World.grownBy_alloc W tmp none) hN (fun k h => by cases h)).trans (KeepP.grown hgrow (by simp; omega) fun j ej => .inl ?_)
    exact (World.ownsRow.lt hrow j ej).1
  · refine (KeepsOthers.alloc W tmp).trans (KeepsOthers.of_grownBy hgrow fun j o ej hj => ?_)
    rcases (hrow.alloc tmp).2 with ⟨rfl, _⟩ | ⟨g, cap, cur, rfl, _, hgb, _⟩
    · simp [Value.ownBlock] at ej
    · obtain rfl : g = j := by simpa [Value.ownBlock] using ej
      rw [hgb] at hj; cases hj; rfl
theorem box_store (hbo : Boxed w1 lo t1 v) (hbc : Boxed w1 (lo + 1) t2 u) (h1 : t1 ≠ e) (h2 : t2 ≠ e) (hrow : w1.ownsRow N e size v' k xs) :
    Boxed ((w1.setCell ⟨lo, 0, none⟩ v').setCell ⟨lo + 1, 0, none⟩ u') lo t1 v' ∧ Boxed ((w1.setCell ⟨lo, 0, none⟩ v').setCell ⟨lo + 1, 0, none⟩ u') (lo + 1) t2 u' ∧
      ((w1.setCell ⟨lo, 0, none⟩ v').setCell ⟨lo + 1, 0, none⟩ u').ownsRow N e size v' k xs ∧ KeepP lo N w1 ((w1.setCell ⟨lo, 0, none⟩ v').setCell ⟨lo + 1, 0, none⟩ u') ∧
      KeepsOthers w1 ((w1.setCell ⟨lo, 0, none⟩ v').setCell ⟨lo + 1, 0, none⟩ u') := by
  have a1 : Boxed (w1.setCell ⟨lo, 0, none⟩ v') lo t1 v' := hbo.set v'
  have a2 : Boxed (w1.setCell ⟨lo, 0, none⟩ v') (lo + 1) t2 u := hbc.kept (grownBy_setCell' w1 lo v') (fun e => by have := Option.some.inj e; omega)
  have a3 : (w1.setCell ⟨lo, 0, none⟩ v').ownsRow N e size v' k xs := hrow.kept (grownBy_setCell' w1 lo v') (.inr (hbo.not_row h1 hrow).symm)
  refine ⟨a1.kept (grownBy_setCell' _ (lo + 1) u') (fun e => by have := Option.some.inj e; omega), a2.set u', a3.kept (grownBy_setCell' _ (lo + 1) u') (.inr (a2.not_row h2 a3).symm), ?_, (KeepsOthers.setCell _ _ _).trans (KeepsOthers.setCell _ _ _)⟩
  exact ((KeepP.refl lo N w1).set (p := ⟨lo, 0, none⟩) (.inl rfl) v').set (p := ⟨lo + 1, 0, none⟩) (.inr rfl) u'

/-- The state between two rounds abides the turn of a block that is no cells and lies beyond. -/
theorem box_own (β : Type) (n0 : Nat) (W0 : World) (lo N : Nat) (t1 t2 e : TypeId) (G : β → Value → List Nat → Nat → Prop) (hN : N ≤ n0) (hn : n0 ≤ W0.heap.size) :
    OwnFrom n0 (fun (s : β) W => ∃ v r c, Boxed W lo t1 v ∧ Boxed W (lo + 1) t2 (.int .u64 (c : Nat)) ∧ W.ownsRow N e 1 v r.length (r.map encU) ∧ KeepP lo N W0 W ∧ G s v r c) := by
  rintro s X Y row ⟨v, r, c, h1, h2, h3, h4, hG⟩ hg hr
  refine ⟨v, r, c, h1.kept hg (fun e' => ?_), h2.kept hg (fun e' => ?_), h3.kept hg ?_, h4.trans (KeepP.grown hg (Nat.le_trans (Nat.le_trans hN hn) h4.size) fun k ek => .inl (by have := (hr k ek).1; omega)), hG⟩
  · obtain ⟨_, o, ho, hc⟩ := hr lo e'.symm
    rw [show X.heap[lo]? = _ from h1] at ho; cases ho; cases hc
  · obtain ⟨_, o, ho, hc⟩ := hr (lo + 1) e'.symm
    rw [show X.heap[lo + 1]? = _ from h2] at ho; cases ho; cases hc
  · rcases h3.2 with ⟨rfl, _⟩ | ⟨g, cap, cur, rfl, _, hgb, _⟩
    · exact .inl rfl
    · refine .inr fun e' => ?_
      obtain ⟨_, o, ho, hc⟩ := hr g (by simpa [Value.ownBlock] using e'.symm)
      rw [hgb] at ho; cases ho; cases hc
end

/-- The highest bit of a number of 64 bits. -/
def hi63 (n : Nat) : Nat := n / 9223372036854775808
theorem shr63 (n : Nat) : (n : Int) / 9223372036854775808 = (hi63 n : Int) := by unfold hi63; simp
/-- A difference of 64 bits, with a borrow. -/
theorem sub64 (x y c : Nat) (hx : x < 4294967296) (hy : y < 4294967296) (hc : c ≤ 1) :
    ∃ D : Nat, IntKind.u64.wrap (IntKind.u64.wrap ((x : Int) - (y : Int)) - (c : Int)) = (D : Int) ∧ D / 4294967296 < 4294967296 ∧ hi63 D ≤ 1 ∧ x + 4294967296 * hi63 D = D % 4294967296 + y + c := by
  by_cases h : y + c ≤ x
  · refine ⟨x - y - c, ?_, ?_, ?_, ?_⟩
    · rw [IntKind.wrap_u64, IntKind.wrap_u64]; omega
    · omega
    · unfold hi63; omega
    · unfold hi63; omega
  · refine ⟨x + 18446744073709551616 - y - c, ?_, ?_, ?_, ?_⟩
    · rw [IntKind.wrap_u64, IntKind.wrap_u64]; omega
    · omega
    · unfold hi63; omega
    · unfold hi63; omega
theorem row_snoc {w : World} {base : Nat} {e : TypeId} {v u : Value} {r : List Nat} {d : Nat} (h : w.ownsRow base e 1 v (r.length + 1) (r.map encU ++ [u])) (hu : u = encU d) : w.ownsRow base e 1 v (r ++ [d]).length ((r ++ [d]).map encU) := by
  subst hu
  rw [List.length_append, List.map_append]
  exact h
theorem KeepP.under {lo N n0 : Nat} {w0 w w' : World} (h : KeepP lo N w w') (h1 : n0 ≤ lo) (h2 : n0 ≤ N) (hb : Below n0 w0 w) : Below n0 w0 w' :=
  hb.trans ⟨h.os, h.tape, h.output, h.size, fun k hk => h.block k (by omega) (by omega) (by omega)⟩
/-- Behind the function's return: the block for the rounds' deferred calls. -/
theorem Gives.putObj {α : Type} {enc : α → Value} {e : TypeId} {w w5 : World} {v : Value} {l : List α} (h : Gives e enc w w5 v l) {D : Nat} {o : Obj} (o' : Obj) (hD : w.heap.size ≤ D) (hK : w5.heap[D]? = some o) (ho : o.isCells = false) : Gives e enc w (w5.putObj D o') v l :=
  ⟨ownsRow_putObj h.own o' hK ho, h.below.grown (grownBy_putObj' w5 D o') (Nat.le_trans h.below.size (Nat.le_refl _)) (fun k ek => by cases ek; exact hD)⟩
end Go.Num
