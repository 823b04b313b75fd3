import Derived.Test.YtmajcjdhhnhmmaaDoorRefZ3
import Derived.Test.YtmajcjdhhnhmmaaDoorGKept
import Derived.Laws.Tables
/- Rows of pairs of whole numbers, as values; a box of two numbers. -/
namespace Go.Num
open Go Go.RowKit Go.Kp
/-- Two numbers in one value. -/
def PairV (w : World) (v : Value) (z0 z1 : Int) : Prop := ∃ n0 A0 k0 c0 n1 A1 k1 c1, v = .agg #[.bool n0, .slice A0 k0 c0, .bool n1, .slice A1 k1 c1] ∧ Whole w n0 (.slice A0 k0 c0) z0 ∧ Whole w n1 (.slice A1 k1 c1) z1
theorem PairV.grow {w w' : World} {v : Value} {z0 z1 : Int} (h : PairV w v z0 z1) (hb : Grows w w') : PairV w' v z0 z1 := by
  obtain ⟨n0, A0, k0, c0, n1, A1, k1, c1, e, h0, h1⟩ := h
  exact ⟨n0, A0, k0, c0, n1, A1, k1, c1, e, h0.below hb, h1.below hb⟩
/-- Three pairs. -/
def TripV (w : World) (v : Value) (z0 z1 z2 z3 z4 z5 : Int) : Prop := ∃ n0 A0 k0 c0 n1 A1 k1 c1 n2 A2 k2 c2 n3 A3 k3 c3 n4 A4 k4 c4 n5 A5 k5 c5, v = .agg #[.bool n0, .slice A0 k0 c0, .bool n1, .slice A1 k1 c1, .bool n2, .slice A2 k2 c2, .bool n3, .slice A3 k3 c3, .bool n4, .slice A4 k4 c4, .bool n5, .slice A5 k5 c5] ∧ Whole w n0 (.slice A0 k0 c0) z0 ∧ Whole w n1 (.slice A1 k1 c1) z1 ∧ Whole w n2 (.slice A2 k2 c2) z2 ∧ Whole w n3 (.slice A3 k3 c3) z3 ∧ Whole w n4 (.slice A4 k4 c4) z4 ∧ Whole w n5 (.slice A5 k5 c5) z5
theorem TripV.grow {w w' : World} {v : Value} {z0 z1 z2 z3 z4 z5 : Int} (h : TripV w v z0 z1 z2 z3 z4 z5) (hb : Grows w w') : TripV w' v z0 z1 z2 z3 z4 z5 := by
  obtain ⟨n0, A0, k0, c0, n1, A1, k1, c1, n2, A2, k2, c2, n3, A3, k3, c3, n4, A4, k4, c4, n5, A5, k5, c5, e, h0, h1, h2, h3, h4, h5⟩ := h
  exact ⟨n0, A0, k0, c0, n1, A1, k1, c1, n2, A2, k2, c2, n3, A3, k3, c3, n4, A4, k4, c4, n5, A5, k5, c5, e, h0.below hb, h1.below hb, h2.below hb, h3.below hb, h4.below hb, h5.below hb⟩
/-- Four pairs. -/
def QuadV (w : World) (v : Value) (z0 z1 z2 z3 z4 z5 z6 z7 : Int) : Prop := ∃ n0 A0 k0 c0 n1 A1 k1 c1 n2 A2 k2 c2 n3 A3 k3 c3 n4 A4 k4 c4 n5 A5 k5 c5 n6 A6 k6 c6 n7 A7 k7 c7, v = .agg #[.bool n0, .slice A0 k0 c0, .bool n1, .slice A1 k1 c1, .bool n2, .slice A2 k2 c2, .bool n3, .slice A3 k3 c3, .bool n4, .slice A4 k4 c4, .bool n5, .slice A5 k5 c5, .bool n6, .slice A6 k6 c6, .bool n7, .slice A7 k7 c7] ∧ Whole w n0 (.slice A0 k0 c0) z0 ∧ Whole w n1 (.slice A1 k1 c1) z1 ∧ Whole w n2 (.slice A2 k2 c2) z2 ∧ Whole w n3 (.slice A3 k3 c3) z3 ∧ Whole w n4 (.slice A4 k4 c4) z4 ∧ Whole w n5 (.slice A5 k5 c5) z5 ∧ Whole w n6 (.slice A6 k6 c6) z6 ∧ Whole w n7 (.slice A7 k7 c7) z7
theorem QuadV.grow {w w' : World} {v : Value} {z0 z1 z2 z3 z4 z5 z6 z7 : Int} (h : QuadV w v z0 z1 z2 z3 z4 z5 z6 z7) (hb : Grows w w') : QuadV w' v z0 z1 z2 z3 z4 z5 z6 z7 := by
  obtain ⟨n0, A0, k0, c0, n1, A1, k1, c1, n2, A2, k2, c2, n3, A3, k3, c3, n4, A4, k4, c4, n5, A5, k5, c5, n6, A6, k6, c6, n7, A7, k7, c7, e, h0, h1, h2, h3, h4, h5, h6, h7⟩ := h
  exact ⟨n0, A0, k0, c0, n1, A1, k1, c1, n2, A2, k2, c2, n3, A3, k3, c3, n4, A4, k4, c4, n5, A5, k5, c5, n6, A6, k6, c6, n7, A7, k7, c7, e, h0.below hb, h1.below hb, h2.below hb, h3.below hb, h4.below hb, h5.below hb, h6.below hb, h7.below hb⟩

section
variable {w w' W : World} {g : Nat} {T : TypeId} {cs : Array Value} {a b c d a' b' c' d' : Value}
theorem BoxN.set (h : BoxN w g T cs) (i : Nat) (v : Value) : BoxN (w.setCell ⟨g, i, none⟩ v) g T (cs.setIfInBounds i v) := by
  obtain ⟨hlt, hk⟩ := Array.getElem?_eq_some_iff.1 h
  show (w.heap.modify g _)[g]? = _
  rw [Array.getElem?_eq_getElem (by rw [Array.size_modify]; exact hlt), Array.getElem_modify_self, hk]
  rfl
theorem BoxN.frozen (h : BoxN w g T cs) (i : Nat) : w.frozen? ⟨g, i, none⟩ = false := by simp [World.frozen?, show w.heap[g]? = _ from h]
/-- A box of four cells, written. -/
def put4 (w : World) (g : Nat) (a b c d : Value) : World := (((w.setCell ⟨g, 0, none⟩ a).setCell ⟨g, 1, none⟩ b).setCell ⟨g, 2, none⟩ c).setCell ⟨g, 3, none⟩ d
theorem put4_own (h : BoxN w g T #[a', b', c', d']) : BoxN (put4 w g a b c d) g T #[a, b, c, d] := (((h.set 0 a).set 1 b).set 2 c).set 3 d
theorem put4_below (hb : Below W.heap.size W w) (hg : W.heap.size ≤ g) : Below W.heap.size W (put4 w g a b c d) := (((hb.setCell (p := ⟨g, 0, none⟩) hg a).setCell (p := ⟨g, 1, none⟩) hg b).setCell (p := ⟨g, 2, none⟩) hg c).setCell (p := ⟨g, 3, none⟩) hg d
end
end Go.Num
namespace Go.Proofs.YtmajcjdhhnhmmaaDoor
open Go.RowKit Go.Num Go.Kp
attribute [local go_sem] Oper.semAt_some u64_mask ev_const ev_func ev_global
section
variable {a : Act} {w : World} {d : Option Tmp} {ty : TypeId} {pos : String} {af : Array Edge} {gu : Option (Nat × Bool)}
theorem op_store4 (t t' g : Nat) {p q r s : Value} {n n' : Bool} {A A' : Option Addr} {k c k' c' : Nat} (he : ev a (.tmp t) = .pointer (some ⟨g, 0, none⟩)) (he' : ev a (.tmp t') = .agg #[.bool n, .slice A k c, .bool n', .slice A' k' c']) (h : BoxN w g 27 #[p, q, r, s]) :
    (execOp (ev a) ⟨none, .store 27 (.tmp t) (.tmp t'), ty, pos, af, gu⟩).run Tryd.prog w = .ok .skip (put4 w g (.bool n) (.slice A k c) (.bool n') (.slice A' k' c')) := by
  have b1 := h.set 0 (.bool n)
  have b2 := b1.set 1 (.slice A k c)
  have b3 := b2.set 2 (.bool n')
  have h0 := h.cell 0 rfl
  have h1 := b1.cell 1 rfl
  have h2 := b2.cell 2 rfl
  have h3 := b3.cell 3 rfl
  have f0 := h.frozen 0
  have f1 := b1.frozen 1
  have f2 := b2.frozen 2
  have f3 := b3.frozen 3
  have g0 := h.frozen 0
  have g1 := h.frozen 1
  have g2 := h.frozen 2
  have g3 := h.frozen 3
  have i1 := h.cell 1 rfl
  have i2 := h.cell 2 rfl
  have i3 := h.cell 3 rfl
  clear h b1 b2 b3
  unfold put4
  go_simp
theorem op_load_at (t g i : Nat) {x y : Value} (he : ev a (.tmp t) = .pointer (some ⟨g, i, none⟩)) (h0 : w.cell? ⟨g, i, none⟩ = some x) (h1 : w.cell? ⟨g, i + 1, none⟩ = some y) :
    (execOp (ev a) ⟨d, .load 24 (.tmp t), ty, pos, af, gu⟩).run Tryd.prog w = .ok (.value (.agg #[x, y])) w := by
  go_simp
theorem op_pair (t t' : Nat) {n n' : Bool} {A A' : Option Addr} {k c k' c' : Nat} (he : ev a (.tmp t) = .agg #[.bool n, .slice A k c]) (he' : ev a (.tmp t') = .agg #[.bool n', .slice A' k' c']) :
    (execOp (ev a) ⟨d, .build 27 #[(0, .tmp t), (1, .tmp t')], ty, pos, af, gu⟩).run Tryd.prog w = .ok (.value (.agg #[.bool n, .slice A k c, .bool n', .slice A' k' c'])) w := by
  have h := run_build (P := Tryd.prog) w 27 #[(0, .agg #[.bool n, .slice A k c]), (1, .agg #[.bool n', .slice A' k' c'])] #[.bool n, .slice A k c, .bool n', .slice A' k' c'] (by kernel_rfl)
  simp only [execOp, List.map_toArray, List.map_cons, List.map_nil, he, he', go_sem]
  go_simp
end
section
variable {a : Act} {w : World} {d : Option Tmp} {ty : TypeId} {pos : String} {af : Array Edge} {gu : Option (Nat × Bool)}
theorem op_trip (t0 t1 t2 : Nat) {n0 : Bool} {A0 : Option Addr} {k0 c0 : Nat} {n1 : Bool} {A1 : Option Addr} {k1 c1 : Nat} {n2 : Bool} {A2 : Option Addr} {k2 c2 : Nat} {n3 : Bool} {A3 : Option Addr} {k3 c3 : Nat} {n4 : Bool} {A4 : Option Addr} {k4 c4 : Nat} {n5 : Bool} {A5 : Option Addr} {k5 c5 : Nat} (he0 : ev a (.tmp t0) = .agg #[.bool n0, .slice A0 k0 c0, .bool n1, .slice A1 k1 c1]) (he1 : ev a (.tmp t1) = .agg #[.bool n2, .slice A2 k2 c2, .bool n3, .slice A3 k3 c3]) (he2 : ev a (.tmp t2) = .agg #[.bool n4, .slice A4 k4 c4, .bool n5, .slice A5 k5 c5]) :
    (execOp (ev a) ⟨d, .build 30 #[(0, .tmp t0), (1, .tmp t1), (2, .tmp t2)], ty, pos, af, gu⟩).run Tryd.prog w = .ok (.value (.agg #[.bool n0, .slice A0 k0 c0, .bool n1, .slice A1 k1 c1, .bool n2, .slice A2 k2 c2, .bool n3, .slice A3 k3 c3, .bool n4, .slice A4 k4 c4, .bool n5, .slice A5 k5 c5])) w := by
  have h := run_build (P := Tryd.prog) w 30 #[(0, .agg #[.bool n0, .slice A0 k0 c0, .bool n1, .slice A1 k1 c1]), (1, .agg #[.bool n2, .slice A2 k2 c2, .bool n3, .slice A3 k3 c3]), (2, .agg #[.bool n4, .slice A4 k4 c4, .bool n5, .slice A5 k5 c5])] #[.bool n0, .slice A0 k0 c0, .bool n1, .slice A1 k1 c1, .bool n2, .slice A2 k2 c2, .bool n3, .slice A3 k3 c3, .bool n4, .slice A4 k4 c4, .bool n5, .slice A5 k5 c5] (by kernel_rfl)
  simp only [execOp, List.map_toArray, List.map_cons, List.map_nil, he0, he1, he2, go_sem]
  go_simp
end
theorem idx_trip {W : World} {K : Nat} {z0 z1 z2 z3 z4 z5 : Int} {n0 : Bool} {A0 : Option Addr} {k0 c0 : Nat} {n1 : Bool} {A1 : Option Addr} {k1 c1 : Nat} {n2 : Bool} {A2 : Option Addr} {k2 c2 : Nat} {n3 : Bool} {A3 : Option Addr} {k3 c3 : Nat} {n4 : Bool} {A4 : Option Addr} {k4 c4 : Nat} {n5 : Bool} {A5 : Option Addr} {k5 c5 : Nat} (h0 : Whole W n0 (.slice A0 k0 c0) z0) (s0 : szz z0 ≤ K) (h1 : Whole W n1 (.slice A1 k1 c1) z1) (s1 : szz z1 ≤ K) (h2 : Whole W n2 (.slice A2 k2 c2) z2) (s2 : szz z2 ≤ K) (h3 : Whole W n3 (.slice A3 k3 c3) z3) (s3 : szz z3 ≤ K) (h4 : Whole W n4 (.slice A4 k4 c4) z4) (s4 : szz z4 ≤ K) (h5 : Whole W n5 (.slice A5 k5 c5) z5) (s5 : szz z5 ≤ K) (j : Nat) (hj : j < 3) : ∃ n A k c n' A' k' c' x y, (∀ w : World, (Instr.index 30 (.agg #[.bool n0, .slice A0 k0 c0, .bool n1, .slice A1 k1 c1, .bool n2, .slice A2 k2 c2, .bool n3, .slice A3 k3 c3, .bool n4, .slice A4 k4 c4, .bool n5, .slice A5 k5 c5]) (.int .i64 j)).run Tryd.prog w = .ok (.agg #[.bool n, .slice A k c, .bool n', .slice A' k' c']) w) ∧ Whole W n (.slice A k c) x ∧ Whole W n' (.slice A' k' c') y ∧ szz x ≤ K ∧ szz y ≤ K := by
  have h : j = 0 ∨ j = 1 ∨ j = 2 := by omega
  rcases h with rfl | rfl | rfl
  · exact ⟨n0, A0, k0, c0, n1, A1, k1, c1, z0, z1, fun w => by kernel_rfl, h0, h1, s0, s1⟩
  · exact ⟨n2, A2, k2, c2, n3, A3, k3, c3, z2, z3, fun w => by kernel_rfl, h2, h3, s2, s3⟩
  · exact ⟨n4, A4, k4, c4, n5, A5, k5, c5, z4, z5, fun w => by kernel_rfl, h4, h5, s4, s5⟩
section
variable {a : Act} {w : World} {d : Option Tmp} {ty : TypeId} {pos : String} {af : Array Edge} {gu : Option (Nat × Bool)}
theorem op_quad (t0 t1 t2 t3 : Nat) {n0 : Bool} {A0 : Option Addr} {k0 c0 : Nat} {n1 : Bool} {A1 : Option Addr} {k1 c1 : Nat} {n2 : Bool} {A2 : Option Addr} {k2 c2 : Nat} {n3 : Bool} {A3 : Option Addr} {k3 c3 : Nat} {n4 : Bool} {A4 : Option Addr} {k4 c4 : Nat} {n5 : Bool} {A5 : Option Addr} {k5 c5 : Nat} {n6 : Bool} {A6 : Option Addr} {k6 c6 : Nat} {n7 : Bool} {A7 : Option Addr} {k7 c7 : Nat} (he0 : ev a (.tmp t0) = .agg #[.bool n0, .slice A0 k0 c0, .bool n1, .slice A1 k1 c1]) (he1 : ev a (.tmp t1) = .agg #[.bool n2, .slice A2 k2 c2, .bool n3, .slice A3 k3 c3]) (he2 : ev a (.tmp t2) = .agg #[.bool n4, .slice A4 k4 c4, .bool n5, .slice A5 k5 c5]) (he3 : ev a (.tmp t3) = .agg #[.bool n6, .slice A6 k6 c6, .bool n7, .slice A7 k7 c7]) :
    (execOp (ev a) ⟨d, .build 61 #[(0, .tmp t0), (1, .tmp t1), (2, .tmp t2), (3, .tmp t3)], ty, pos, af, gu⟩).run Tryd.prog w = .ok (.value (.agg #[.bool n0, .slice A0 k0 c0, .bool n1, .slice A1 k1 c1, .bool n2, .slice A2 k2 c2, .bool n3, .slice A3 k3 c3, .bool n4, .slice A4 k4 c4, .bool n5, .slice A5 k5 c5, .bool n6, .slice A6 k6 c6, .bool n7, .slice A7 k7 c7])) w := by
  have h := run_build (P := Tryd.prog) w 61 #[(0, .agg #[.bool n0, .slice A0 k0 c0, .bool n1, .slice A1 k1 c1]), (1, .agg #[.bool n2, .slice A2 k2 c2, .bool n3, .slice A3 k3 c3]), (2, .agg #[.bool n4, .slice A4 k4 c4, .bool n5, .slice A5 k5 c5]), (3, .agg #[.bool n6, .slice A6 k6 c6, .bool n7, .slice A7 k7 c7])] #[.bool n0, .slice A0 k0 c0, .bool n1, .slice A1 k1 c1, .bool n2, .slice A2 k2 c2, .bool n3, .slice A3 k3 c3, .bool n4, .slice A4 k4 c4, .bool n5, .slice A5 k5 c5, .bool n6, .slice A6 k6 c6, .bool n7, .slice A7 k7 c7] (by kernel_rfl)
  simp only [execOp, List.map_toArray, List.map_cons, List.map_nil, he0, he1, he2, he3, go_sem]
  go_simp
end
theorem idx_quad {W : World} {K : Nat} {z0 z1 z2 z3 z4 z5 z6 z7 : Int} {n0 : Bool} {A0 : Option Addr} {k0 c0 : Nat} {n1 : Bool} {A1 : Option Addr} {k1 c1 : Nat} {n2 : Bool} {A2 : Option Addr} {k2 c2 : Nat} {n3 : Bool} {A3 : Option Addr} {k3 c3 : Nat} {n4 : Bool} {A4 : Option Addr} {k4 c4 : Nat} {n5 : Bool} {A5 : Option Addr} {k5 c5 : Nat} {n6 : Bool} {A6 : Option Addr} {k6 c6 : Nat} {n7 : Bool} {A7 : Option Addr} {k7 c7 : Nat} (h0 : Whole W n0 (.slice A0 k0 c0) z0) (s0 : szz z0 ≤ K) (h1 : Whole W n1 (.slice A1 k1 c1) z1) (s1 : szz z1 ≤ K) (h2 : Whole W n2 (.slice A2 k2 c2) z2) (s2 : szz z2 ≤ K) (h3 : Whole W n3 (.slice A3 k3 c3) z3) (s3 : szz z3 ≤ K) (h4 : Whole W n4 (.slice A4 k4 c4) z4) (s4 : szz z4 ≤ K) (h5 : Whole W n5 (.slice A5 k5 c5) z5) (s5 : szz z5 ≤ K) (h6 : Whole W n6 (.slice A6 k6 c6) z6) (s6 : szz z6 ≤ K) (h7 : Whole W n7 (.slice A7 k7 c7) z7) (s7 : szz z7 ≤ K) (j : Nat) (hj : j < 4) : ∃ n A k c n' A' k' c' x y, (∀ w : World, (Instr.index 61 (.agg #[.bool n0, .slice A0 k0 c0, .bool n1, .slice A1 k1 c1, .bool n2, .slice A2 k2 c2, .bool n3, .slice A3 k3 c3, .bool n4, .slice A4 k4 c4, .bool n5, .slice A5 k5 c5, .bool n6, .slice A6 k6 c6, .bool n7, .slice A7 k7 c7]) (.int .i64 j)).run Tryd.prog w = .ok (.agg #[.bool n, .slice A k c, .bool n', .slice A' k' c']) w) ∧ Whole W n (.slice A k c) x ∧ Whole W n' (.slice A' k' c') y ∧ szz x ≤ K ∧ szz y ≤ K := by
  have h : j = 0 ∨ j = 1 ∨ j = 2 ∨ j = 3 := by omega
  rcases h with rfl | rfl | rfl | rfl
  · exact ⟨n0, A0, k0, c0, n1, A1, k1, c1, z0, z1, fun w => by kernel_rfl, h0, h1, s0, s1⟩
  · exact ⟨n2, A2, k2, c2, n3, A3, k3, c3, z2, z3, fun w => by kernel_rfl, h2, h3, s2, s3⟩
  · exact ⟨n4, A4, k4, c4, n5, A5, k5, c5, z4, z5, fun w => by kernel_rfl, h4, h5, s4, s5⟩
  · exact ⟨n6, A6, k6, c6, n7, A7, k7, c7, z6, z7, fun w => by kernel_rfl, h6, h7, s6, s7⟩
end Go.Proofs.YtmajcjdhhnhmmaaDoor
