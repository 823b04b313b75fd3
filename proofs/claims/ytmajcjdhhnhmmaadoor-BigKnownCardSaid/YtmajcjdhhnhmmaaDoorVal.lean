import Derived.Test.YtmajcjdhhnhmmaaDoorKept
import Derived.Test.YtmajcjdhhnhmmaaDoorBigKit2
import Derived.Test.YtmajcjdhhnhmmaaDoorBigText
import Derived.Test.YtmajcjdhhnhmmaaDoorBigCmp
import Derived.Test.YtmajcjdhhnhmmaaDoorBigSmallC
/- Values that read as whole numbers, as one word; the contracts of package big in that word; the operations of a region at them. -/
namespace Go.Num
open Go Go.RowKit Go.Kp
/-- The value v reads as z. -/
def WV (w : World) (v : Value) (z : Int) : Prop := ∃ n A k c, v = .agg #[.bool n, .slice A k c] ∧ Whole w n (.slice A k c) z
/-- .. and is right. -/
def ZV (w : World) (v : Value) (z : Int) : Prop := ∃ n A k c, v = .agg #[.bool n, .slice A k c] ∧ Sound w n (.slice A k c) z
/-- A row of whole numbers. -/
def RowV (w : World) (v : Value) (Z : List Int) : Prop := ∃ A c, v = .slice A Z.length c ∧ CellsZ w A Z
section
variable {w w' : World} {v : Value} {z : Int} {Z : List Int}
theorem ZV.wv (h : ZV w v z) : WV w v z := by
  obtain ⟨n, A, k, c, e, s⟩ := h
  exact ⟨n, A, k, c, e, s.whole⟩
theorem ZV.grow (h : ZV w v z) (hb : Grows w w') : ZV w' v z := by
  obtain ⟨n, A, k, c, e, s⟩ := h
  exact ⟨n, A, k, c, e, s.below hb⟩
theorem WV.grow (h : WV w v z) (hb : Grows w w') : WV w' v z := by
  obtain ⟨n, A, k, c, e, s⟩ := h
  exact ⟨n, A, k, c, e, s.below hb⟩
theorem RowV.grow (h : RowV w v Z) (hb : Grows w w') : RowV w' v Z := by
  obtain ⟨A, c, e, s⟩ := h
  exact ⟨A, c, e, s.below hb⟩
theorem MadeZ.zv {e : TypeId} {n : Bool} {m : Value} (h : MadeZ e w w' n m z) (hz : sz z.natAbs ≤ 1000) : ZV w' (.agg #[.bool n, m]) z := by
  obtain ⟨A, k, c, rfl⟩ := h.shape
  exact ⟨n, A, k, c, rfl, h.sound hz⟩
theorem ZV.to {z' : Int} (h : ZV w v z) (e : z = z') : ZV w v z' := e ▸ h
theorem ZV.zero (w : World) (c : Nat) : ZV w (.agg #[.bool false, .slice none 0 c]) 0 := ⟨_, _, _, _, rfl, Sound.nil_ w c⟩
theorem grows_of (h : Grows w.drew w') : Below w.heap.size w w' := ((Below.refl _ w).drew).trans h
theorem RowV.one {T : TypeId} {n : Bool} {A : Option Addr} {k c : Nat} (h : Whole w n (.slice A k c) z) : RowV (w.alloc (.cells #[.bool n, .slice A k c] T)) (.slice (some ⟨w.heap.size, 0, none⟩) 1 1) [z] := by
  refine ⟨_, 1, rfl, fun _ => ⟨w.heap.size, 0, rfl, fun j y hj => ?_⟩⟩
  have hc : ∀ i, (w.alloc (.cells #[.bool n, .slice A k c] T)).cell? ⟨w.heap.size, i, none⟩ = #[Value.bool n, .slice A k c][i]? := fun i => cell_of_row _ _ _ _ _ _ (heap_alloc_new w _)
  rcases j with _ | j
  · obtain rfl : z = y := by simpa using hj
    exact ⟨n, _, (hc 0).trans rfl, (hc 1).trans rfl, h.alloc _⟩
  · simp at hj
theorem RowV.two {T : TypeId} {n n' : Bool} {A A' : Option Addr} {k c k' c' : Nat} {y : Int} (h : Whole w n (.slice A k c) z) (h' : Whole w n' (.slice A' k' c') y) : RowV (w.alloc (.cells #[.bool n, .slice A k c, .bool n', .slice A' k' c'] T)) (.slice (some ⟨w.heap.size, 0, none⟩) 2 2) [z, y] := by
  refine ⟨_, 2, rfl, fun _ => ⟨w.heap.size, 0, rfl, fun j x hj => ?_⟩⟩
  have hc : ∀ i, (w.alloc (.cells #[.bool n, .slice A k c, .bool n', .slice A' k' c'] T)).cell? ⟨w.heap.size, i, none⟩ = #[Value.bool n, .slice A k c, .bool n', .slice A' k' c'][i]? := fun i => cell_of_row _ _ _ _ _ _ (heap_alloc_new w _)
  rcases j with _ | _ | j
  · obtain rfl : z = x := by simpa using hj
    exact ⟨n, _, (hc 0).trans rfl, (hc 1).trans rfl, h.alloc _⟩
  · obtain rfl : y = x := by simpa using hj
    exact ⟨n', _, (hc 2).trans rfl, (hc 3).trans rfl, h'.alloc _⟩
  · simp at hj
end
end Go.Num
namespace Go.Proofs.YtmajcjdhhnhmmaaDoor
open Go.RowKit Go.Num Go.Kp
attribute [local go_sem] Oper.semAt_some u64_mask
section
variable (w : World) {u v : Value} {x y z : Int} {Z : List Int}
theorem small_sz {z : Int} {k : Nat} (h : szz z ≤ k) (hk : k ≤ 1000) : sz z.natAbs ≤ 1000 := Nat.le_trans h hk
theorem add2_v (h : RowV w v [x, y]) (hx : szz x ≤ 1000) (hs : szz (x + y) ≤ 1000) : Calls Tryd.prog 27 #[v] w fun e w' => ∃ r, e = .returned r ∧ ZV w' r (x + y) ∧ Grows w w' := by
  obtain ⟨A, c, rfl, hc⟩ := h
  refine (Add_row w A c [x, y] hc (by simp) fun j hj => ?_).mono ?_
  · rcases j with _ | _ | _ | j
    · exact sz_nil'
    · have hx' : sz x.natAbs ≤ 1000 := hx
      simpa using hx'
    · have hs' : sz (x + y).natAbs ≤ 1000 := hs
      simpa using hs'
    · simp at hj
  · rintro e w1 ⟨n, m, rfl, g⟩
    exact ⟨_, rfl, (g.to (show _ = x + y by simp)).zv hs, g.below⟩
theorem add1_v (h : RowV w v [x]) (hx : szz x ≤ 1000) : Calls Tryd.prog 27 #[v] w fun e w' => ∃ r, e = .returned r ∧ ZV w' r x ∧ Grows w w' := by
  obtain ⟨A, c, rfl, hc⟩ := h
  refine (Add_row w A c [x] hc (by simp) fun j hj => ?_).mono ?_
  · rcases j with _ | _ | j
    · exact sz_nil'
    · have hx' : sz x.natAbs ≤ 1000 := hx
      simpa using hx'
    · simp at hj
  · rintro e w1 ⟨n, m, rfl, g⟩
    exact ⟨_, rfl, (g.to (show _ = x by simp)).zv hx, g.below⟩
theorem mul2_v (h : RowV w v [x, y]) (hx : szz x ≤ 1000) (hs : szz (x * y) ≤ 1000) : Calls Tryd.prog 28 #[v] w fun e w' => ∃ r, e = .returned r ∧ ZV w' r (x * y) ∧ Grows w w' := by
  obtain ⟨A, c, rfl, hc⟩ := h
  refine (Mul_row w A c [x, y] hc (by simp) fun j hj => ?_).mono ?_
  · rcases j with _ | _ | _ | j
    · exact sz_one
    · have hx' : sz x.natAbs ≤ 1000 := hx
      simpa using hx'
    · have hs' : sz (x * y).natAbs ≤ 1000 := hs
      simpa using hs'
    · simp at hj
  · rintro e w1 ⟨n, m, rfl, g⟩
    exact ⟨_, rfl, (g.to (show _ = x * y by simp)).zv hs, g.below⟩
theorem mul1_v (h : RowV w v [x]) (hx : szz x ≤ 1000) : Calls Tryd.prog 28 #[v] w fun e w' => ∃ r, e = .returned r ∧ ZV w' r x ∧ Grows w w' := by
  obtain ⟨A, c, rfl, hc⟩ := h
  refine (Mul_row w A c [x] hc (by simp) fun j hj => ?_).mono ?_
  · rcases j with _ | _ | j
    · exact sz_one
    · have hx' : sz x.natAbs ≤ 1000 := hx
      simpa using hx'
    · simp at hj
  · rintro e w1 ⟨n, m, rfl, g⟩
    exact ⟨_, rfl, (g.to (show _ = x by simp)).zv hx, g.below⟩
theorem sub_v (h : WV w u x) (g : WV w v y) (hs : szz (x - y) ≤ 1000) : Calls Tryd.prog 29 #[u, v] w fun e w' => ∃ r, e = .returned r ∧ ZV w' r (x - y) ∧ Grows w w' := by
  obtain ⟨n, A, k, c, rfl, s⟩ := h
  obtain ⟨n', A', k', c', rfl, s'⟩ := g
  refine (sub2_any w _ _ _ _ x y s s').mono ?_
  rintro e w1 ⟨n, m, rfl, g⟩
  exact ⟨_, rfl, g.zv hs, g.below⟩
theorem neg_v (h : WV w u x) (hs : szz (-x) ≤ 1000) : Calls Tryd.prog 30 #[u] w fun e w' => ∃ r, e = .returned r ∧ ZV w' r (-x) ∧ Grows w w' := by
  obtain ⟨n, A, k, c, rfl, s⟩ := h
  refine (neg_any w _ _ x s).mono ?_
  rintro e w1 ⟨n, m, rfl, g⟩
  exact ⟨_, rfl, g.zv hs, g.below⟩
theorem from_v (z : Int) (h1 : -9223372036854775808 ≤ z) (h2 : z ≤ 9223372036854775807) : Calls Tryd.prog 31 #[.int .i64 z] w fun e w' => ∃ r, e = .returned r ∧ ZV w' r z ∧ Grows w w' := by
  refine (bfrom_any w z h1 h2).mono ?_
  rintro e w1 ⟨n, m, rfl, g⟩
  exact ⟨_, rfl, g.zv (Nat.le_trans (szz_i64 h1 h2) (by decide)), g.below⟩
theorem div_v (h : WV w u x) (g : WV w v y) (h0 : y ≠ 0) (hs : szz (Int.fdiv x y) ≤ 1000) : Calls Tryd.prog 16 #[u, v] w fun e w' => ∃ r, e = .returned r ∧ (∃ q, r = .tuple #[q, .int .i64 0] ∧ ZV w' q (Int.fdiv x y)) ∧ Grows w w' := by
  obtain ⟨n, A, k, c, rfl, s⟩ := h
  obtain ⟨n', A', k', c', rfl, s'⟩ := g
  refine (bdiv_any w _ _ _ _ x y s s' h0).mono ?_
  rintro e w1 ⟨n, m, rfl, g⟩
  exact ⟨_, rfl, ⟨_, rfl, g.zv hs⟩, g.below⟩
theorem mod_v (h : WV w u x) (g : WV w v y) (h0 : y ≠ 0) (hs : szz (Int.fmod x y) ≤ 1000) : Calls Tryd.prog 17 #[u, v] w fun e w' => ∃ r, e = .returned r ∧ (∃ q, r = .tuple #[q, .int .i64 0] ∧ ZV w' q (Int.fmod x y)) ∧ Grows w w' := by
  obtain ⟨n, A, k, c, rfl, s⟩ := h
  obtain ⟨n', A', k', c', rfl, s'⟩ := g
  refine (bmod_any w _ _ _ _ x y s s' h0).mono ?_
  rintro e w1 ⟨n, m, rfl, g⟩
  exact ⟨_, rfl, ⟨_, rfl, g.zv hs⟩, g.below⟩
theorem div0_v (h : WV w u x) (g : WV w v 0) : Calls Tryd.prog 16 #[u, v] w fun e w' => ∃ r, e = .returned r ∧ (∃ q, r = .tuple #[q, .int .i64 3] ∧ ZV w' q 0) ∧ Grows w w' := by
  obtain ⟨n, A, k, c, rfl, s⟩ := h
  obtain ⟨n', A', k', c', rfl, s'⟩ := g
  refine (bdiv_zero w _ _ _ _ x s s').mono ?_
  rintro e w1 ⟨rfl, g⟩
  exact ⟨_, rfl, ⟨_, rfl, ZV.zero _ _⟩, g⟩
theorem mod0_v (h : WV w u x) (g : WV w v 0) : Calls Tryd.prog 17 #[u, v] w fun e w' => ∃ r, e = .returned r ∧ (∃ q, r = .tuple #[q, .int .i64 3] ∧ ZV w' q 0) ∧ Grows w w' := by
  obtain ⟨n, A, k, c, rfl, s⟩ := h
  obtain ⟨n', A', k', c', rfl, s'⟩ := g
  refine (bmod_zero w _ _ _ _ x s s').mono ?_
  rintro e w1 ⟨rfl, g⟩
  exact ⟨_, rfl, ⟨_, rfl, ZV.zero _ _⟩, g⟩
theorem sign_v (h : WV w u x) {k : Int} (hk : Int.sign x = k) : Calls Tryd.prog 36 #[u] w fun e w' => ∃ r, e = .returned r ∧ r = .int .i64 k ∧ Grows w w' := by
  obtain ⟨n, A, i, c, rfl, s⟩ := h
  refine (bsign_any w _ _ x s).mono ?_
  rintro e w1 ⟨rfl, g⟩
  exact ⟨_, rfl, by rw [hk], g⟩
theorem cmp_v (h : WV w u x) (g : WV w v y) {k : Int} (hk : Int.sign (x - y) = k) : Calls Tryd.prog 37 #[u, v] w fun e w' => ∃ r, e = .returned r ∧ r = .int .i64 k ∧ Grows w w' := by
  obtain ⟨n, A, i, c, rfl, s⟩ := h
  obtain ⟨n', A', k', c', rfl, s'⟩ := g
  refine (bcmp_any w _ _ _ _ x y s s').mono ?_
  rintro e w1 ⟨rfl, g⟩
  exact ⟨_, rfl, by rw [hk], g⟩
theorem same_v (h : ZV w u x) (g : ZV w v y) {t : Bool} (ht : decide (x = y) = t) : Calls Tryd.prog 26 #[u, v] w fun e w' => ∃ r, e = .returned r ∧ r = .bool t ∧ Grows w w' := by
  obtain ⟨n, A, i, c, rfl, s⟩ := h
  obtain ⟨n', A', k', c', rfl, s'⟩ := g
  refine (same_any w _ _ _ _ x y s s').mono ?_
  rintro e w1 ⟨rfl, g⟩
  exact ⟨_, rfl, by rw [ht], g⟩
theorem right_v (h : ZV w u x) : Calls Tryd.prog 33 #[u] w fun e w' => ∃ r, e = .returned r ∧ r = .bool true ∧ Grows w w' := by
  obtain ⟨n, A, i, c, rfl, s⟩ := h
  refine (bright_sound w _ _ x s).mono ?_
  rintro e w1 ⟨rfl, g⟩
  exact ⟨_, rfl, rfl, g⟩
theorem text_v (h : WV w u x) {s : ByteArray} (hs : ByteArray.mk (ztext x).toArray = s) : Calls Tryd.prog 25 #[u] w fun e w' => ∃ r, e = .returned r ∧ r = .string s ∧ Grows w w' := by
  obtain ⟨n, A, i, c, rfl, sW⟩ := h
  refine (btext_any w _ _ x sW).mono ?_
  rintro e w1 ⟨rfl, g⟩
  exact ⟨_, rfl, by rw [← hs], g⟩
theorem is_v (h : ZV w u x) (s : ByteArray) (hs : ByteArray.mk (ztext x).toArray = s) : Calls Tryd.prog 47 #[u, .string s] w fun e w' => ∃ r, e = .returned r ∧ r = .bool true ∧ Grows w w' := by
  obtain ⟨n, A, i, c, rfl, sW⟩ := h
  refine (is_yes w _ _ x s sW hs).mono ?_
  rintro e w1 ⟨rfl, g⟩
  exact ⟨_, rfl, rfl, g⟩
theorem works_v : Calls Tryd.prog 21 #[] w fun e w' => ∃ r, e = .returned r ∧ r = .bool true ∧ Grows w w' := by
  refine (works_any w).mono ?_
  rintro e w1 ⟨rfl, g⟩
  exact ⟨_, rfl, rfl, g⟩
end

/-! The operations. -/
section
attribute [local go_sem] ev_const ev_func ev_global
variable {a : Act} {w : World} {d : Option Tmp} {ty : TypeId} {pos : String} {af : Array Edge} {gu : Option (Nat × Bool)}
theorem op_load (t g : Nat) {x y : Value} (he : ev a (.tmp t) = .pointer (some ⟨g, 0, none⟩)) (h : Box2 w g 24 x y) :
    (execOp (ev a) ⟨d, .load 24 (.tmp t), ty, pos, af, gu⟩).run Tryd.prog w = .ok (.value (.agg #[x, y])) w := by
  have h0 := h.c0
  have h1 := h.c1
  clear h
  go_simp
theorem op_row1 (t : Nat) {n : Bool} {A : Option Addr} {k c : Nat} (he : ev a (.tmp t) = .agg #[.bool n, .slice A k c]) :
    (execOp (ev a) ⟨d, .buildSlice 45 1 #[(0, .tmp t)], ty, pos, af, gu⟩).run Tryd.prog w = .ok (.value (.slice (some ⟨w.heap.size, 0, none⟩) 1 1)) (w.alloc (.cells #[.bool n, .slice A k c] 24)) := by
  go_simp
theorem op_row2 (t t' : Nat) {n n' : Bool} {A A' : Option Addr} {k c k' c' : Nat} (he : ev a (.tmp t) = .agg #[.bool n, .slice A k c]) (he' : ev a (.tmp t') = .agg #[.bool n', .slice A' k' c']) :
    (execOp (ev a) ⟨d, .buildSlice 45 2 #[(0, .tmp t), (1, .tmp t')], ty, pos, af, gu⟩).run Tryd.prog w = .ok (.value (.slice (some ⟨w.heap.size, 0, none⟩) 2 2)) (w.alloc (.cells #[.bool n, .slice A k c, .bool n', .slice A' k' c'] 24)) := by
  go_simp
end
end Go.Proofs.YtmajcjdhhnhmmaaDoor
