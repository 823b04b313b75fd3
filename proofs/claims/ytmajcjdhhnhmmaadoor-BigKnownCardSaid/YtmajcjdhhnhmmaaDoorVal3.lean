import Derived.Test.YtmajcjdhhnhmmaaDoorVal2
/- More contracts of package big in the word of values: Small, Of, Right that says no, divs, Parse that says no, Mul of three, Add of none. -/
namespace Go.Num
open Go Go.RowKit Go.Kp
section
variable {w w' : World} {v : Value} {z : Int} {Z : List Int}
theorem RowV.nil_ (w : World) (c : Nat) : RowV w (.slice none 0 c) [] := ⟨none, c, rfl, fun h => absurd h (Nat.lt_irrefl _)⟩
theorem RowV.three {T : TypeId} {n n' n'' : Bool} {A A' A'' : Option Addr} {k c k' c' k'' c'' : Nat} {x y : Int} (h : Whole w n (.slice A k c) z) (h' : Whole w n' (.slice A' k' c') y) (h'' : Whole w n'' (.slice A'' k'' c'') x) : RowV (w.alloc (.cells #[.bool n, .slice A k c, .bool n', .slice A' k' c', .bool n'', .slice A'' k'' c''] T)) (.slice (some ⟨w.heap.size, 0, none⟩) 3 3) [z, y, x] := by
  refine ⟨_, 3, rfl, fun _ => ⟨w.heap.size, 0, rfl, fun j q hj => ?_⟩⟩
  have hc : ∀ i, (w.alloc (.cells #[.bool n, .slice A k c, .bool n', .slice A' k' c', .bool n'', .slice A'' k'' c''] T)).cell? ⟨w.heap.size, i, none⟩ = #[Value.bool n, .slice A k c, .bool n', .slice A' k' c', .bool n'', .slice A'' k'' c''][i]? := fun i => cell_of_row _ _ _ _ _ _ (heap_alloc_new w _)
  rcases j with _ | _ | _ | j
  · obtain rfl : z = q := by simpa using hj
    exact ⟨n, _, (hc 0).trans rfl, (hc 1).trans rfl, h.alloc _⟩
  · obtain rfl : y = q := by simpa using hj
    exact ⟨n', _, (hc 2).trans rfl, (hc 3).trans rfl, h'.alloc _⟩
  · obtain rfl : x = q := by simpa using hj
    exact ⟨n'', _, (hc 4).trans rfl, (hc 5).trans rfl, h''.alloc _⟩
  · simp at hj
end
/-- A row of words that reads as the number a. -/
def LV (w : World) (v : Value) (l : List Nat) (a : Nat) : Prop := ∃ A c, v = .slice A l.length c ∧ Num w v l a
theorem LV.grow {w w' : World} {v : Value} {l : List Nat} {a : Nat} (h : LV w v l a) (hb : Grows w w') : LV w' v l a := by
  obtain ⟨A, c, e, s⟩ := h
  exact ⟨A, c, e, s.below hb⟩
end Go.Num
namespace Go.Proofs.YtmajcjdhhnhmmaaDoor
open Go.RowKit Go.Num Go.Kp
attribute [local go_sem] Oper.semAt_some u64_mask
section
variable (w : World) {u v : Value} {x y z : Int} {Z : List Int}
theorem add0_v (c : Nat) : Calls Tryd.prog 27 #[.slice none 0 c] w fun e w' => ∃ r, e = .returned r ∧ ZV w' r 0 ∧ Grows w w' := by
  refine (Add_row w none c [] (fun h => absurd h (Nat.lt_irrefl _)) (by simp) fun j hj => ?_).mono ?_
  · simp; exact sz_nil'
  · rintro e w1 ⟨n, m, rfl, g⟩
    exact ⟨_, rfl, g.zv sz_nil', g.below⟩
theorem mul3_v (h : RowV w v [x, y, z]) (hx : szz x ≤ 1000) (hy : szz (x * y) ≤ 1000) (hs : szz (x * y * z) ≤ 1000) : Calls Tryd.prog 28 #[v] w fun e w' => ∃ r, e = .returned r ∧ ZV w' r (x * y * z) ∧ Grows w w' := by
  obtain ⟨A, c, rfl, hc⟩ := h
  refine (Mul_row w A c [x, y, z] hc (by simp) fun j hj => ?_).mono ?_
  · rcases j with _ | _ | _ | _ | j
    · exact sz_one
    · have hx' : sz x.natAbs ≤ 1000 := hx
      simpa using hx'
    · have hs' : sz (x * y).natAbs ≤ 1000 := hy
      simpa using hs'
    · have hs' : sz (x * y * z).natAbs ≤ 1000 := hs
      simpa using hs'
    · simp at hj
  · rintro e w1 ⟨n, m, rfl, g⟩
    exact ⟨_, rfl, (g.to (show _ = x * y * z by simp)).zv hs, g.below⟩
theorem small_v (h : WV w u x) (h1 : -9223372036854775808 ≤ x) (h2 : x ≤ 9223372036854775807) : Calls Tryd.prog 38 #[u] w fun e w' => ∃ r, e = .returned r ∧ r = .tuple #[.int .i64 x, .bool true] ∧ Grows w w' := by
  obtain ⟨n, A, i, c, rfl, s⟩ := h
  refine (bsmall_in w _ _ x s h1 h2).mono ?_
  rintro e w1 ⟨rfl, g⟩
  exact ⟨_, rfl, rfl, g⟩
theorem small0_v (h : WV w u x) (h1 : x < -9223372036854775808 ∨ 9223372036854775807 < x) : Calls Tryd.prog 38 #[u] w fun e w' => ∃ r, e = .returned r ∧ r = .tuple #[.int .i64 0, .bool false] ∧ Grows w w' := by
  obtain ⟨n, A, i, c, rfl, s⟩ := h
  refine (bsmall_out w _ _ x s h1).mono ?_
  rintro e w1 ⟨rfl, g⟩
  exact ⟨_, rfl, rfl, g⟩
theorem of_v (n : Bool) {m : Value} {l : List Nat} {a : Nat} (h : LV w m l a) (hz : sg n a = z) (hs : szz z ≤ 1000) : Calls Tryd.prog 34 #[.bool n, m] w fun e w' => ∃ r, e = .returned r ∧ ZV w' r z ∧ Grows w w' := by
  obtain ⟨A, c, rfl, s⟩ := h
  refine (of_num w n _ l a z s hz).mono ?_
  rintro e w1 ⟨n, m, rfl, g⟩
  exact ⟨_, rfl, g.zv hs, g.below⟩
theorem rightL_v {n t : Bool} {m : Value} {l : List Nat} {a : Nat} (h : Num w m l a) (hl : l.length ≤ 1000) (ht : (decide ((limbs a).length = l.length) && decide (sg n a < 0) == n) = t) : Calls Tryd.prog 33 #[.agg #[.bool n, m]] w fun e w' => ∃ r, e = .returned r ∧ r = .bool t ∧ Grows w w' := by
  refine (bright_any w n m l a h hl).mono ?_
  rintro e w1 ⟨rfl, g⟩
  exact ⟨_, rfl, by rw [ht], g⟩
theorem divs_v (a b q r : Int) (ha1 : -9223372036854775808 ≤ a) (ha2 : a ≤ 9223372036854775807) (hb1 : -9223372036854775808 ≤ b) (hb2 : b ≤ 9223372036854775807) (hq1 : -9223372036854775808 ≤ q) (hq2 : q ≤ 9223372036854775807) (hr1 : -9223372036854775808 ≤ r) (hr2 : r ≤ 9223372036854775807) (hb0 : b ≠ 0) (hq : Int.fdiv a b = q) (hr : Int.fmod a b = r) :
    Calls Tryd.prog 48 #[.int .i64 a, .int .i64 b, .int .i64 q, .int .i64 r] w fun e w' => ∃ v, e = .returned v ∧ v = .bool true ∧ Grows w w' := by
  refine (divs_any w a b q r ha1 ha2 hb1 hb2 hq1 hq2 hr1 hr2 hb0 hq hr).mono ?_
  rintro e w1 ⟨rfl, g⟩
  exact ⟨_, rfl, rfl, g⟩
theorem parse_no_v (w : World) (l : List UInt8) (hs : l.length ≤ 900000) (h : (∃ t, l = 45 :: t ∧ (goodText t = false ∨ goodText t = true ∧ tval 0 t = 0)) ∨ l.head? ≠ some 45 ∧ goodText l = false) {s : ByteArray} (e : ByteArray.mk l.toArray = s) :
    Calls Tryd.prog 23 #[.string s] w fun e w' => ∃ r, e = .returned r ∧ (∃ u0, r = .tuple #[u0, .bool false] ∧ ZV w' u0 0) ∧ Grows w w' := by
  subst e
  rcases h with ⟨t, rfl, h | ⟨h, h0⟩⟩ | ⟨h, hg⟩
  · refine (parse_neg_bad w t h (by simp at hs; omega)).mono ?_
    rintro e w1 ⟨rfl, g⟩
    exact ⟨_, rfl, ⟨_, rfl, ZV.zero _ _⟩, g⟩
  · refine (parse_neg_zero w t h h0 (by simp at hs; omega)).mono ?_
    rintro e w1 ⟨rfl, g⟩
    exact ⟨_, rfl, ⟨_, rfl, ZV.zero _ _⟩, g⟩
  · refine (parse_pos_bad w l h hg hs).mono ?_
    rintro e w1 ⟨rfl, g⟩
    exact ⟨_, rfl, ⟨_, rfl, ZV.zero _ _⟩, g⟩
end
section
attribute [local go_sem] ev_const ev_func ev_global
variable {a : Act} {w : World} {d : Option Tmp} {ty : TypeId} {pos : String} {af : Array Edge} {gu : Option (Nat × Bool)}
theorem op_row3 (t t' t'' : Nat) {n n' n'' : Bool} {A A' A'' : Option Addr} {k c k' c' k'' c'' : Nat} (he : ev a (.tmp t) = .agg #[.bool n, .slice A k c]) (he' : ev a (.tmp t') = .agg #[.bool n', .slice A' k' c']) (he'' : ev a (.tmp t'') = .agg #[.bool n'', .slice A'' k'' c'']) :
    (execOp (ev a) ⟨d, .buildSlice 45 3 #[(0, .tmp t), (1, .tmp t'), (2, .tmp t'')], ty, pos, af, gu⟩).run Tryd.prog w = .ok (.value (.slice (some ⟨w.heap.size, 0, none⟩) 3 3)) (w.alloc (.cells #[.bool n, .slice A k c, .bool n', .slice A' k' c', .bool n'', .slice A'' k'' c''] 24)) := by
  go_simp
end
end Go.Proofs.YtmajcjdhhnhmmaaDoor
