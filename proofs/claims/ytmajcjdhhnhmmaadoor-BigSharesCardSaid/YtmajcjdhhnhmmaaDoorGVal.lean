import Derived.Test.YtmajcjdhhnhmmaaDoorBigWorks
import Derived.Deep.RegionHeld3
import Derived.Deep.RegionWith
import Derived.Deep.CutRange
import Derived.BigRegion
import Derived.Test.YtmajcjdhhnhmmaaDoorGKept
import Derived.Test.YtmajcjdhhnhmmaaDoorBigText
import Derived.Test.YtmajcjdhhnhmmaaDoorBigCmp
import Derived.Test.YtmajcjdhhnhmmaaDoorBigSmallC
import Derived.Tactics
/- Words for the laws over big. -/
namespace Go.Num
open Go Go.RowKit
/-- A block that holds these cells. -/
def BoxN (W : World) (g : Nat) (T : TypeId) (cs : Array Value) : Prop := W.heap[g]? = some (.cells cs T (0, 0))
theorem BoxN.new (W : World) (T : TypeId) (cs : Array Value) : BoxN (W.alloc (.cells cs T)) W.heap.size T cs := heap_alloc_new W _
theorem BoxN.lt {W : World} {g : Nat} {T : TypeId} {cs : Array Value} (h : BoxN W g T cs) : g < W.heap.size := (Array.getElem?_eq_some_iff.1 h).1
theorem BoxN.cell {W : World} {g : Nat} {T : TypeId} {cs : Array Value} (h : BoxN W g T cs) (i : Nat) {v : Value} (hi : cs[i]? = some v) : W.cell? ⟨g, i, none⟩ = some v := by rw [cell_of_row _ _ _ _ _ _ h]; exact hi
theorem BoxN.below {W W' : World} {g : Nat} {T : TypeId} {cs : Array Value} (h : BoxN W g T cs) (hb : Below W.heap.size W W') : BoxN W' g T cs := (hb.block g h.lt).trans h
theorem szz_zero : szz 0 ≤ 0 := sz_le (by decide)
theorem Par2.put0 {w w' : World} {T : TypeId} {x y x' y' : Value} (h : Par2 w w' T x y x' y') (u v : Value) : Par2 w ((w'.setCell ⟨w.heap.size, 0, none⟩ u).setCell ⟨w.heap.size, 1, none⟩ v) T u v x' y' :=
  ⟨(h.below.setCell (p := ⟨w.heap.size, 0, none⟩) (Nat.le_refl _) _).setCell (p := ⟨w.heap.size, 1, none⟩) (Nat.le_refl _) _, (h.p0.set0 _).set1 _, (h.p1.apart (by omega) _ _).apart (by omega) _ _⟩
theorem Par2.put1 {w w' : World} {T : TypeId} {x y x' y' : Value} (h : Par2 w w' T x y x' y') (u v : Value) : Par2 w ((w'.setCell ⟨w.heap.size + 1, 0, none⟩ u).setCell ⟨w.heap.size + 1, 1, none⟩ v) T x y u v :=
  ⟨(h.below.setCell (p := ⟨w.heap.size + 1, 0, none⟩) (by simp) _).setCell (p := ⟨w.heap.size + 1, 1, none⟩) (by simp) _, (h.p0.apart (by omega) _ _).apart (by omega) _ _, (h.p1.set0 _).set1 _⟩
theorem Par2.frozen {w w' : World} {T : TypeId} {x y x' y' : Value} (h : Par2 w w' T x y x' y') : w'.frozen? ⟨w.heap.size, 0, none⟩ = false ∧ w'.frozen? ⟨w.heap.size, 1, none⟩ = false ∧ w'.frozen? ⟨w.heap.size + 1, 0, none⟩ = false ∧ w'.frozen? ⟨w.heap.size + 1, 1, none⟩ = false := ⟨h.p0.f0, h.p0.f1, h.p1.f0, h.p1.f1⟩
end Go.Num
namespace Go.Proofs.YtmajcjdhhnhmmaaDoor
open Go.RowKit Go.Num
theorem sum2_at (w : World) (b : Nat) (hb : b = w.heap.size) (na nb : Bool) (ma mb : Value) (x y : Int) (ha : Whole w na ma x) (hbb : Whole w nb mb y) (hs : sz (x + y).natAbs ≤ 1000) :
    Calls Tryd.prog 27 #[.slice (some ⟨b, 0, none⟩) 2 2] (w.alloc (.cells #[.bool na, ma, .bool nb, mb] 24)) fun e w' => ∃ n' m', e = .returned (.agg #[.bool n', m']) ∧ MadeZ 52 w w' n' m' (x + y) := by
  subst hb; exact sum2_any w na nb ma mb x y ha hbb hs
theorem sum1_at (w : World) (b : Nat) (hb : b = w.heap.size) (na : Bool) (ma : Value) (x : Int) (ha : Whole w na ma x) :
    Calls Tryd.prog 27 #[.slice (some ⟨b, 0, none⟩) 1 1] (w.alloc (.cells #[.bool na, ma] 24)) fun e w' => ∃ n' m', e = .returned (.agg #[.bool n', m']) ∧ MadeZ 52 w w' n' m' x := by
  subst hb; exact sum1_any w na ma x ha
theorem prod2_at (w : World) (b : Nat) (hb : b = w.heap.size) (na nb : Bool) (ma mb : Value) (x y : Int) (ha : Whole w na ma x) (hbb : Whole w nb mb y) (hs : sz (x * y).natAbs ≤ 1000) :
    Calls Tryd.prog 28 #[.slice (some ⟨b, 0, none⟩) 2 2] (w.alloc (.cells #[.bool na, ma, .bool nb, mb] 24)) fun e w' => ∃ n' m', e = .returned (.agg #[.bool n', m']) ∧ MadeZ 52 w w' n' m' (x * y) := by
  subst hb; exact prod2_any w na nb ma mb x y ha hbb hs
theorem prod1_at (w : World) (b : Nat) (hb : b = w.heap.size) (na : Bool) (ma : Value) (x : Int) (ha : Whole w na ma x) :
    Calls Tryd.prog 28 #[.slice (some ⟨b, 0, none⟩) 1 1] (w.alloc (.cells #[.bool na, ma] 24)) fun e w' => ∃ n' m', e = .returned (.agg #[.bool n', m']) ∧ MadeZ 52 w w' n' m' x := by
  subst hb; exact prod1_any w na ma x ha
theorem few_base (w0 w : World) (n : Bool) (m : Value) (l : List Nat) (j : Nat) (ha : Arg encU w0 m l) (hl : Lim l) (hn : l.length ≤ 9223372036854775807) (hj : j ≤ 1000) :
    Calls Tryd.prog 13 #[.agg #[.bool n, m], .int .i64 j] w fun e w' => ∃ n' A k c z, e = .returned (.agg #[.bool n', .slice A k c]) ∧ Whole w0 n' (.slice A k c) z ∧ szz z ≤ j ∧ Below w.heap.size w w' := by
  refine (few_at w0 w n m l j ha hl hn hj).mono ?_
  rintro e w1 ⟨A, k, c, rfl, h1, h2, hb⟩
  refine ⟨n, A, k, c, sg n (val (l.take j)), rfl, ⟨l.take j, _, h1, by omega, rfl⟩, ?_, hb⟩
  unfold szz
  rw [sg_natAbs]
  exact Nat.le_trans (sz_num h1) h2
theorem few_whole (w : World) (n : Bool) (m : Value) (l : List Nat) (j : Nat) (ha : Arg encU w m l) (hl : Lim l) (hn : l.length ≤ 9223372036854775807) (hj : j ≤ 1000) :
    Calls Tryd.prog 13 #[.agg #[.bool n, m], .int .i64 j] w fun e w' => ∃ n' m' z, e = .returned (.agg #[.bool n', m']) ∧ Whole w' n' m' z ∧ szz z ≤ j ∧ Below w.heap.size w w' := by
  refine (few_base w w n m l j ha hl hn hj).mono ?_
  rintro e w1 ⟨n', A, k, c, z, rfl, h1, h2, hb⟩
  exact ⟨n', _, z, rfl, h1.below hb, h2, hb⟩
end Go.Proofs.YtmajcjdhhnhmmaaDoor
/- more words -/
namespace Go.Proofs.YtmajcjdhhnhmmaaDoor
open Go.RowKit Go.Num
theorem sum1_cells (w : World) (b : Nat) (na : Bool) (ma : Value) (x : Int) (hc : BoxN w b 24 #[.bool na, ma]) (ha : Whole w na ma x) :
    Calls Tryd.prog 27 #[.slice (some ⟨b, 0, none⟩) 1 1] w fun e w' => ∃ n' m', e = .returned (.agg #[.bool n', m']) ∧ MadeZ 52 w w' n' m' x := by
  have hZ : CellsZ w (some ⟨b, 0, none⟩) [x] := fun _ => ⟨b, 0, rfl, fun j z hj => by
    rcases j with _ | j
    · obtain rfl : x = z := by simpa using hj
      exact ⟨na, ma, hc.cell 0 rfl, hc.cell 1 rfl, ha⟩
    · simp at hj⟩
  refine (Add_row _ _ 1 [x] hZ (by simp) fun j hj => ?_).mono ?_
  · rcases j with _ | _ | j
    · exact sz_nil'
    · simpa using ha.size
    · simp at hj
  · rintro e w' ⟨n, m, he, g⟩
    exact ⟨n, m, he, g.to (by simp)⟩
end Go.Proofs.YtmajcjdhhnhmmaaDoor
/- Values that read as whole numbers, as one word; the contracts of package big in that word; the operations of a region at them. -/
namespace Go.Num
open Go Go.RowKit Go.Kp
/-- The value v reads as z. -/
def WV (w : World) (v : Value) (z : Int) : Prop := ∃ n A k c, v = .agg #[.bool n, .slice A k c] ∧ Whole w n (.slice A k c) z
/-- .. and is right. -/
def ZV (w : World) (v : Value) (z : Int) : Prop := ∃ n A k c, v = .agg #[.bool n, .slice A k c] ∧ Sound w n (.slice A k c) z
/-- A row of whole numbers. -/
def RowV (w : World) (v : Value) (Z : List Int) : Prop := ∃ A c, v = .slice A Z.length c ∧ CellsZ w A Z
section
variable {w w' : World} {v : Value} {z : Int} {Z : List Int}
theorem ZV.wv (h : ZV w v z) : WV w v z := by
  obtain ⟨n, A, k, c, e, s⟩ := h
  exact ⟨n, A, k, c, e, s.whole⟩
theorem ZV.grow (h : ZV w v z) (hb : Grows w w') : ZV w' v z := by
  obtain ⟨n, A, k, c, e, s⟩ := h
  exact ⟨n, A, k, c, e, s.below hb⟩
theorem WV.grow (h : WV w v z) (hb : Grows w w') : WV w' v z := by
  obtain ⟨n, A, k, c, e, s⟩ := h
  exact ⟨n, A, k, c, e, s.below hb⟩
theorem RowV.grow (h : RowV w v Z) (hb : Grows w w') : RowV w' v Z := by
  obtain ⟨A, c, e, s⟩ := h
  exact ⟨A, c, e, s.below hb⟩
theorem MadeZ.zv {e : TypeId} {n : Bool} {m : Value} (h : MadeZ e w w' n m z) (hz : sz z.natAbs ≤ 1000) : ZV w' (.agg #[.bool n, m]) z := by
  obtain ⟨A, k, c, rfl⟩ := h.shape
  exact ⟨n, A, k, c, rfl, h.sound hz⟩
theorem ZV.to {z' : Int} (h : ZV w v z) (e : z = z') : ZV w v z' := e ▸ h
theorem ZV.zero (w : World) (c : Nat) : ZV w (.agg #[.bool false, .slice none 0 c]) 0 := ⟨_, _, _, _, rfl, Sound.nil_ w c⟩
theorem grows_of (h : Grows w.drew w') : Below w.heap.size w w' := ((Below.refl _ w).drew).trans h
theorem RowV.one {T : TypeId} {n : Bool} {A : Option Addr} {k c : Nat} (h : Whole w n (.slice A k c) z) : RowV (w.alloc (.cells #[.bool n, .slice A k c] T)) (.slice (some ⟨w.heap.size, 0, none⟩) 1 1) [z] := by
  refine ⟨_, 1, rfl, fun _ => ⟨w.heap.size, 0, rfl, fun j y hj => ?_⟩⟩
  have hc : ∀ i, (w.alloc (.cells #[.bool n, .slice A k c] T)).cell? ⟨w.heap.size, i, none⟩ = #[Value.bool n, .slice A k c][i]? := fun i => cell_of_row _ _ _ _ _ _ (heap_alloc_new w _)
  rcases j with _ | j
  · obtain rfl : z = y := by simpa using hj
    exact ⟨n, _, (hc 0).trans rfl, (hc 1).trans rfl, h.alloc _⟩
  · simp at hj
theorem RowV.two {T : TypeId} {n n' : Bool} {A A' : Option Addr} {k c k' c' : Nat} {y : Int} (h : Whole w n (.slice A k c) z) (h' : Whole w n' (.slice A' k' c') y) : RowV (w.alloc (.cells #[.bool n, .slice A k c, .bool n', .slice A' k' c'] T)) (.slice (some ⟨w.heap.size, 0, none⟩) 2 2) [z, y] := by
  refine ⟨_, 2, rfl, fun _ => ⟨w.heap.size, 0, rfl, fun j x hj => ?_⟩⟩
  have hc : ∀ i, (w.alloc (.cells #[.bool n, .slice A k c, .bool n', .slice A' k' c'] T)).cell? ⟨w.heap.size, i, none⟩ = #[Value.bool n, .slice A k c, .bool n', .slice A' k' c'][i]? := fun i => cell_of_row _ _ _ _ _ _ (heap_alloc_new w _)
  rcases j with _ | _ | j
  · obtain rfl : z = x := by simpa using hj
    exact ⟨n, _, (hc 0).trans rfl, (hc 1).trans rfl, h.alloc _⟩
  · obtain rfl : y = x := by simpa using hj
    exact ⟨n', _, (hc 2).trans rfl, (hc 3).trans rfl, h'.alloc _⟩
  · simp at hj
end
end Go.Num
namespace Go.Proofs.YtmajcjdhhnhmmaaDoor
open Go.RowKit Go.Num Go.Kp
attribute [local go_sem] Oper.semAt_some u64_mask
section
variable (w : World) {u v : Value} {x y z : Int} {Z : List Int}
theorem small_sz {z : Int} {k : Nat} (h : szz z ≤ k) (hk : k ≤ 1000) : sz z.natAbs ≤ 1000 := Nat.le_trans h hk
theorem add2_v (h : RowV w v [x, y]) (hx : szz x ≤ 1000) (hs : szz (x + y) ≤ 1000) : Calls Tryd.prog 27 #[v] w fun e w' => ∃ r, e = .returned r ∧ ZV w' r (x + y) ∧ Grows w w' := by
  obtain ⟨A, c, rfl, hc⟩ := h
  refine (Add_row w A c [x, y] hc (by simp) fun j hj => ?_).mono ?_
  · rcases j with _ | _ | _ | j
    · exact sz_nil'
    · have hx' : sz x.natAbs ≤ 1000 := hx
      simpa using hx'
    · have hs' : sz (x + y).natAbs ≤ 1000 := hs
      simpa using hs'
    · simp at hj
  · rintro e w1 ⟨n, m, rfl, g⟩
    exact ⟨_, rfl, (g.to (show _ = x + y by simp)).zv hs, g.below⟩
theorem add1_v (h : RowV w v [x]) (hx : szz x ≤ 1000) : Calls Tryd.prog 27 #[v] w fun e w' => ∃ r, e = .returned r ∧ ZV w' r x ∧ Grows w w' := by
  obtain ⟨A, c, rfl, hc⟩ := h
  refine (Add_row w A c [x] hc (by simp) fun j hj => ?_).mono ?_
  · rcases j with _ | _ | j
    · exact sz_nil'
    · have hx' : sz x.natAbs ≤ 1000 := hx
      simpa using hx'
    · simp at hj
  · rintro e w1 ⟨n, m, rfl, g⟩
    exact ⟨_, rfl, (g.to (show _ = x by simp)).zv hx, g.below⟩
theorem mul2_v (h : RowV w v [x, y]) (hx : szz x ≤ 1000) (hs : szz (x * y) ≤ 1000) : Calls Tryd.prog 28 #[v] w fun e w' => ∃ r, e = .returned r ∧ ZV w' r (x * y) ∧ Grows w w' := by
  obtain ⟨A, c, rfl, hc⟩ := h
  refine (Mul_row w A c [x, y] hc (by simp) fun j hj => ?_).mono ?_
  · rcases j with _ | _ | _ | j
    · exact sz_one
    · have hx' : sz x.natAbs ≤ 1000 := hx
      simpa using hx'
    · have hs' : sz (x * y).natAbs ≤ 1000 := hs
      simpa using hs'
    · simp at hj
  · rintro e w1 ⟨n, m, rfl, g⟩
    exact ⟨_, rfl, (g.to (show _ = x * y by simp)).zv hs, g.below⟩
theorem mul1_v (h : RowV w v [x]) (hx : szz x ≤ 1000) : Calls Tryd.prog 28 #[v] w fun e w' => ∃ r, e = .returned r ∧ ZV w' r x ∧ Grows w w' := by
  obtain ⟨A, c, rfl, hc⟩ := h
  refine (Mul_row w A c [x] hc (by simp) fun j hj => ?_).mono ?_
  · rcases j with _ | _ | j
    · exact sz_one
    · have hx' : sz x.natAbs ≤ 1000 := hx
      simpa using hx'
    · simp at hj
  · rintro e w1 ⟨n, m, rfl, g⟩
    exact ⟨_, rfl, (g.to (show _ = x by simp)).zv hx, g.below⟩
theorem sub_v (h : WV w u x) (g : WV w v y) (hs : szz (x - y) ≤ 1000) : Calls Tryd.prog 29 #[u, v] w fun e w' => ∃ r, e = .returned r ∧ ZV w' r (x - y) ∧ Grows w w' := by
  obtain ⟨n, A, k, c, rfl, s⟩ := h
  obtain ⟨n', A', k', c', rfl, s'⟩ := g
  refine (sub2_any w _ _ _ _ x y s s').mono ?_
  rintro e w1 ⟨n, m, rfl, g⟩
  exact ⟨_, rfl, g.zv hs, g.below⟩
theorem neg_v (h : WV w u x) (hs : szz (-x) ≤ 1000) : Calls Tryd.prog 30 #[u] w fun e w' => ∃ r, e = .returned r ∧ ZV w' r (-x) ∧ Grows w w' := by
  obtain ⟨n, A, k, c, rfl, s⟩ := h
  refine (neg_any w _ _ x s).mono ?_
  rintro e w1 ⟨n, m, rfl, g⟩
  exact ⟨_, rfl, g.zv hs, g.below⟩
theorem from_v (z : Int) (h1 : -9223372036854775808 ≤ z) (h2 : z ≤ 9223372036854775807) : Calls Tryd.prog 31 #[.int .i64 z] w fun e w' => ∃ r, e = .returned r ∧ ZV w' r z ∧ Grows w w' := by
  refine (bfrom_any w z h1 h2).mono ?_
  rintro e w1 ⟨n, m, rfl, g⟩
  exact ⟨_, rfl, g.zv (Nat.le_trans (szz_i64 h1 h2) (by decide)), g.below⟩
theorem div_v (h : WV w u x) (g : WV w v y) (h0 : y ≠ 0) (hs : szz (Int.fdiv x y) ≤ 1000) : Calls Tryd.prog 16 #[u, v] w fun e w' => ∃ r, e = .returned r ∧ (∃ q, r = .tuple #[q, .int .i64 0] ∧ ZV w' q (Int.fdiv x y)) ∧ Grows w w' := by
  obtain ⟨n, A, k, c, rfl, s⟩ := h
  obtain ⟨n', A', k', c', rfl, s'⟩ := g
  refine (bdiv_any w _ _ _ _ x y s s' h0).mono ?_
  rintro e w1 ⟨n, m, rfl, g⟩
  exact ⟨_, rfl, ⟨_, rfl, g.zv hs⟩, g.below⟩
theorem mod_v (h : WV w u x) (g : WV w v y) (h0 : y ≠ 0) (hs : szz (Int.fmod x y) ≤ 1000) : Calls Tryd.prog 17 #[u, v] w fun e w' => ∃ r, e = .returned r ∧ (∃ q, r = .tuple #[q, .int .i64 0] ∧ ZV w' q (Int.fmod x y)) ∧ Grows w w' := by
  obtain ⟨n, A, k, c, rfl, s⟩ := h
  obtain ⟨n', A', k', c', rfl, s'⟩ := g
  refine (bmod_any w _ _ _ _ x y s s' h0).mono ?_
  rintro e w1 ⟨n, m, rfl, g⟩
  exact ⟨_, rfl, ⟨_, rfl, g.zv hs⟩, g.below⟩
theorem div0_v (h : WV w u x) (g : WV w v 0) : Calls Tryd.prog 16 #[u, v] w fun e w' => ∃ r, e = .returned r ∧ (∃ q, r = .tuple #[q, .int .i64 3] ∧ ZV w' q 0) ∧ Grows w w' := by
  obtain ⟨n, A, k, c, rfl, s⟩ := h
  obtain ⟨n', A', k', c', rfl, s'⟩ := g
  refine (bdiv_zero w _ _ _ _ x s s').mono ?_
  rintro e w1 ⟨rfl, g⟩
  exact ⟨_, rfl, ⟨_, rfl, ZV.zero _ _⟩, g⟩
theorem mod0_v (h : WV w u x) (g : WV w v 0) : Calls Tryd.prog 17 #[u, v] w fun e w' => ∃ r, e = .returned r ∧ (∃ q, r = .tuple #[q, .int .i64 3] ∧ ZV w' q 0) ∧ Grows w w' := by
  obtain ⟨n, A, k, c, rfl, s⟩ := h
  obtain ⟨n', A', k', c', rfl, s'⟩ := g
  refine (bmod_zero w _ _ _ _ x s s').mono ?_
  rintro e w1 ⟨rfl, g⟩
  exact ⟨_, rfl, ⟨_, rfl, ZV.zero _ _⟩, g⟩
theorem sign_v (h : WV w u x) {k : Int} (hk : Int.sign x = k) : Calls Tryd.prog 36 #[u] w fun e w' => ∃ r, e = .returned r ∧ r = .int .i64 k ∧ Grows w w' := by
  obtain ⟨n, A, i, c, rfl, s⟩ := h
  refine (bsign_any w _ _ x s).mono ?_
  rintro e w1 ⟨rfl, g⟩
  exact ⟨_, rfl, by rw [hk], g⟩
theorem cmp_v (h : WV w u x) (g : WV w v y) {k : Int} (hk : Int.sign (x - y) = k) : Calls Tryd.prog 37 #[u, v] w fun e w' => ∃ r, e = .returned r ∧ r = .int .i64 k ∧ Grows w w' := by
  obtain ⟨n, A, i, c, rfl, s⟩ := h
  obtain ⟨n', A', k', c', rfl, s'⟩ := g
  refine (bcmp_any w _ _ _ _ x y s s').mono ?_
  rintro e w1 ⟨rfl, g⟩
  exact ⟨_, rfl, by rw [hk], g⟩
theorem same_v (h : ZV w u x) (g : ZV w v y) {t : Bool} (ht : decide (x = y) = t) : Calls Tryd.prog 26 #[u, v] w fun e w' => ∃ r, e = .returned r ∧ r = .bool t ∧ Grows w w' := by
  obtain ⟨n, A, i, c, rfl, s⟩ := h
  obtain ⟨n', A', k', c', rfl, s'⟩ := g
  refine (same_any w _ _ _ _ x y s s').mono ?_
  rintro e w1 ⟨rfl, g⟩
  exact ⟨_, rfl, by rw [ht], g⟩
theorem right_v (h : ZV w u x) : Calls Tryd.prog 33 #[u] w fun e w' => ∃ r, e = .returned r ∧ r = .bool true ∧ Grows w w' := by
  obtain ⟨n, A, i, c, rfl, s⟩ := h
  refine (bright_sound w _ _ x s).mono ?_
  rintro e w1 ⟨rfl, g⟩
  exact ⟨_, rfl, rfl, g⟩
theorem text_v (h : WV w u x) {s : ByteArray} (hs : ByteArray.mk (ztext x).toArray = s) : Calls Tryd.prog 25 #[u] w fun e w' => ∃ r, e = .returned r ∧ r = .string s ∧ Grows w w' := by
  obtain ⟨n, A, i, c, rfl, sW⟩ := h
  refine (btext_any w _ _ x sW).mono ?_
  rintro e w1 ⟨rfl, g⟩
  exact ⟨_, rfl, by rw [← hs], g⟩
theorem is_v (h : ZV w u x) (s : ByteArray) (hs : ByteArray.mk (ztext x).toArray = s) : Calls Tryd.prog 47 #[u, .string s] w fun e w' => ∃ r, e = .returned r ∧ r = .bool true ∧ Grows w w' := by
  obtain ⟨n, A, i, c, rfl, sW⟩ := h
  refine (is_yes w _ _ x s sW hs).mono ?_
  rintro e w1 ⟨rfl, g⟩
  exact ⟨_, rfl, rfl, g⟩
theorem works_v : Calls Tryd.prog 21 #[] w fun e w' => ∃ r, e = .returned r ∧ r = .bool true ∧ Grows w w' := by
  refine (works_any w).mono ?_
  rintro e w1 ⟨rfl, g⟩
  exact ⟨_, rfl, rfl, g⟩
end

/-! The operations. -/
section
attribute [local go_sem] ev_const ev_func ev_global
variable {a : Act} {w : World} {d : Option Tmp} {ty : TypeId} {pos : String} {af : Array Edge} {gu : Option (Nat × Bool)}
theorem op_load (t g : Nat) {x y : Value} (he : ev a (.tmp t) = .pointer (some ⟨g, 0, none⟩)) (h : Box2 w g 24 x y) :
    (execOp (ev a) ⟨d, .load 24 (.tmp t), ty, pos, af, gu⟩).run Tryd.prog w = .ok (.value (.agg #[x, y])) w := by
  have h0 := h.c0
  have h1 := h.c1
  clear h
  go_simp
theorem op_row1 (t : Nat) {n : Bool} {A : Option Addr} {k c : Nat} (he : ev a (.tmp t) = .agg #[.bool n, .slice A k c]) :
    (execOp (ev a) ⟨d, .buildSlice 45 1 #[(0, .tmp t)], ty, pos, af, gu⟩).run Tryd.prog w = .ok (.value (.slice (some ⟨w.heap.size, 0, none⟩) 1 1)) (w.alloc (.cells #[.bool n, .slice A k c] 24)) := by
  go_simp
theorem op_row2 (t t' : Nat) {n n' : Bool} {A A' : Option Addr} {k c k' c' : Nat} (he : ev a (.tmp t) = .agg #[.bool n, .slice A k c]) (he' : ev a (.tmp t') = .agg #[.bool n', .slice A' k' c']) :
    (execOp (ev a) ⟨d, .buildSlice 45 2 #[(0, .tmp t), (1, .tmp t')], ty, pos, af, gu⟩).run Tryd.prog w = .ok (.value (.slice (some ⟨w.heap.size, 0, none⟩) 2 2)) (w.alloc (.cells #[.bool n, .slice A k c, .bool n', .slice A' k' c'] 24)) := by
  go_simp
end
end Go.Proofs.YtmajcjdhhnhmmaaDoor
/- few at a value; boxes that are written behind a region. -/
namespace Go.Num
open Go Go.RowKit Go.Kp
theorem few_szz (n : Bool) {l : List Nat} (j : Nat) (hl : Lim l) : szz (sg n (val (l.take j))) ≤ j := by
  unfold szz
  rw [sg_natAbs]
  exact Nat.le_trans (sz_val fun x hx => hl x (List.mem_of_mem_take hx)) (by rw [List.length_take]; omega)
theorem zlt_or_ge (a b : Int) : a < b ∨ b ≤ a := by omega
theorem sign_in (z : Int) : -1 ≤ Int.sign z ∧ Int.sign z ≤ 1 := by
  rcases Int.lt_trichotomy z 0 with h | h | h
  · rw [Int.sign_eq_neg_one_of_neg h]; decide
  · rw [h]; decide
  · rw [Int.sign_eq_one_of_pos h]; decide
theorem sign_alike (a b : Int) : decide (a = b) = (Int.sign (a - b) == 0) := by
  rcases Int.lt_trichotomy (a - b) 0 with h | h | h
  · rw [Int.sign_eq_neg_one_of_neg h, decide_eq_false (by omega)]; decide
  · rw [h, decide_eq_true (by omega)]; decide
  · rw [Int.sign_eq_one_of_pos h, decide_eq_false (by omega)]; decide
/-- A box of two cells, written. -/
def put2 (w : World) (g : Nat) (x y : Value) : World := (w.setCell ⟨g, 0, none⟩ x).setCell ⟨g, 1, none⟩ y
section
variable {W w : World} {g h : Nat} {T : TypeId} {x y u v : Value}
theorem put2_own (hb : Box2 w g T x y) : Box2 (put2 w g u v) g T u v := (hb.set0 u).set1 v
theorem put2_far (hb : Box2 w g T x y) (hg : g ≠ h) : Box2 (put2 w h u v) g T x y := (hb.apart hg 0 u).apart hg 1 v
theorem put2_below (hb : Below W.heap.size W w) (hg : W.heap.size ≤ g) : Below W.heap.size W (put2 w g u v) := (hb.setCell (p := ⟨g, 0, none⟩) hg u).setCell (p := ⟨g, 1, none⟩) hg v
theorem put2_cell {w : World} {g : Nat} {u v : Value} {p : Addr} (h : p.block ≠ g) : (put2 w g u v).cell? p = w.cell? p := by
  unfold put2
  rw [World.cell?_setCell_far _ _ _ _ (Ne.symm h), World.cell?_setCell_far _ _ _ _ (Ne.symm h)]
theorem Box2.not_limb {w : World} {g : Nat} {T : TypeId} {n : Bool} {A : Option Addr} {k c x : Nat} {p : Addr} (hb : Box2 w g T (.bool n) (.slice A k c)) (h : w.cell? p = some (encU x)) (hp : p.spot = none) : p.block ≠ g := fun e => by
  obtain ⟨q, i, r⟩ := p
  simp only at e hp
  subst e; subst hp
  rw [cell_of_row _ _ _ _ _ _ (show w.heap[q]? = _ from hb)] at h
  rcases i with _ | _ | i <;> simp at h
theorem Cells.put {w : World} {g : Nat} {T : TypeId} {n : Bool} {A B : Option Addr} {k c : Nat} {l : List Nat} (h : Cells encU w B l) (hb : Box2 w g T (.bool n) (.slice A k c)) (u v : Value) : Cells encU (put2 w g u v) B l := fun h0 => by
  obtain ⟨b, o, e, hx⟩ := h h0
  exact ⟨b, o, e, fun j x hj => by rw [put2_cell (hb.not_limb (hx j x hj) rfl)]; exact hx j x hj⟩
theorem Arg.put {w : World} {g : Nat} {T : TypeId} {n : Bool} {A : Option Addr} {k c : Nat} {m : Value} {l : List Nat} (h : Arg encU w m l) (hb : Box2 w g T (.bool n) (.slice A k c)) (u v : Value) : Arg encU (put2 w g u v) m l := by
  obtain ⟨B, d, e, hd, hc⟩ := h.open_
  exact e ▸ Arg.mk_ rfl hd (hc.put hb u v)
theorem Whole.put {w : World} {g : Nat} {T : TypeId} {n n' : Bool} {A : Option Addr} {k c : Nat} {m : Value} {z : Int} (h : Whole w n' m z) (hb : Box2 w g T (.bool n) (.slice A k c)) (u v : Value) : Whole (put2 w g u v) n' m z := by
  obtain ⟨l, a, hn, hl, e⟩ := h
  exact ⟨l, a, ⟨hn.arg.put hb u v, hn.lim, hn.len, hn.val⟩, hl, e⟩
theorem Sound.put {w : World} {g : Nat} {T : TypeId} {n n' : Bool} {A : Option Addr} {k c : Nat} {m : Value} {z : Int} (h : Sound w n' m z) (hb : Box2 w g T (.bool n) (.slice A k c)) (u v : Value) : Sound (put2 w g u v) n' m z :=
  ⟨h.sign, ⟨h.num.arg.put hb u v, h.num.lim, h.num.len, h.num.val⟩, h.short⟩
end
end Go.Num
namespace Go.Kp
open Go
theorem wpList_of_skip {P : Program} {ops : Array Oper} {Q : Exit → Act → World → Prop} {a : Act} {w w' : World} {o : Oper} {rest : List Oper} (hg : o.guard = none) (h : (execOp (ev a) o).run P w = .ok .skip w') (hr : wpList P ops Q rest (a.put o.dst undef) w') : wpList P ops Q (o :: rest) a w := by
  refine wpList_plain hg fun K hK => wp_of_skip h (hK _ _ hr)
end Go.Kp
namespace Go.Proofs.YtmajcjdhhnhmmaaDoor
open Go.RowKit Go.Num Go.Kp
attribute [local go_sem] Oper.semAt_some u64_mask ev_const ev_func ev_global
theorem few_v (w0 w : World) {n : Bool} {m : Value} {l : List Nat} {z : Int} (j : Nat) (ha : Arg encU w0 m l) (hl : Lim l) (hn : l.length ≤ 9223372036854775807) (hj : j ≤ 1000) (hz : sg n (val (l.take j)) = z) :
    Calls Tryd.prog 13 #[.agg #[.bool n, m], .int .i64 j] w fun e w' => ∃ r, e = .returned r ∧ WV w0 r z ∧ Grows w w' := by
  refine (few_at w0 w n m l j ha hl hn hj).mono ?_
  rintro e w1 ⟨A, k, c, rfl, h1, h2, hb⟩
  exact ⟨_, rfl, ⟨n, A, k, c, rfl, ⟨l.take j, _, h1, by omega, hz.symm⟩⟩, hb⟩
theorem op_store {a : Act} {w : World} {ty : TypeId} {pos : String} {af : Array Edge} {gu : Option (Nat × Bool)} (t t' g : Nat) {x y : Value} {n : Bool} {A : Option Addr} {k c : Nat} (he : ev a (.tmp t) = .pointer (some ⟨g, 0, none⟩)) (he' : ev a (.tmp t') = .agg #[.bool n, .slice A k c]) (h : Box2 w g 24 x y) :
    (execOp (ev a) ⟨none, .store 24 (.tmp t) (.tmp t'), ty, pos, af, gu⟩).run Tryd.prog w = .ok .skip (put2 w g (.bool n) (.slice A k c)) := by
  have h0 := h.c0
  have h1 := h.c1
  have h2 := h.f0
  have h3 := h.f1
  have h4 : (w.setCell ⟨g, 0, none⟩ (.bool n)).cell? ⟨g, 1, none⟩ = some y := (h.set0 _).c1
  have h5 : (w.setCell ⟨g, 0, none⟩ (.bool n)).frozen? ⟨g, 1, none⟩ = false := (h.set0 _).f1
  clear h
  unfold put2
  go_simp
/-- Three boxes that were just made, written one behind the other. -/
theorem put2_three {W w : World} {a b c : Nat} {T : TypeId} {x y : Value} {na nb nc : Bool} {ma mb mc : Value} (h : Below W.heap.size W w) (ha : Box2 w a T x y) (hb : Box2 w b T x y) (hc : Box2 w c T x y) (ga : W.heap.size ≤ a) (gb : W.heap.size ≤ b) (gc : W.heap.size ≤ c) (hab : a ≠ b) (hac : a ≠ c) (hbc : b ≠ c) :
    Below W.heap.size W (put2 (put2 (put2 w a (.bool na) ma) b (.bool nb) mb) c (.bool nc) mc) ∧ Box2 (put2 (put2 (put2 w a (.bool na) ma) b (.bool nb) mb) c (.bool nc) mc) a T (.bool na) ma ∧ Box2 (put2 (put2 (put2 w a (.bool na) ma) b (.bool nb) mb) c (.bool nc) mc) b T (.bool nb) mb ∧ Box2 (put2 (put2 (put2 w a (.bool na) ma) b (.bool nb) mb) c (.bool nc) mc) c T (.bool nc) mc :=
  ⟨put2_below (put2_below (put2_below h ga) gb) gc, put2_far (put2_far (put2_own ha) hab) hac, put2_far (put2_own (put2_far hb (Ne.symm hab))) hbc, put2_own (put2_far (put2_far hc (Ne.symm hac)) (Ne.symm hbc))⟩
end Go.Proofs.YtmajcjdhhnhmmaaDoor
/- More contracts of package big in the word of values: Small, Of, Right that says no, divs, Parse that says no, Mul of three, Add of none. -/
namespace Go.Num
open Go Go.RowKit Go.Kp
section
variable {w w' : World} {v : Value} {z : Int} {Z : List Int}
theorem RowV.nil_ (w : World) (c : Nat) : RowV w (.slice none 0 c) [] := ⟨none, c, rfl, fun h => absurd h (Nat.lt_irrefl _)⟩
theorem RowV.three {T : TypeId} {n n' n'' : Bool} {A A' A'' : Option Addr} {k c k' c' k'' c'' : Nat} {x y : Int} (h : Whole w n (.slice A k c) z) (h' : Whole w n' (.slice A' k' c') y) (h'' : Whole w n'' (.slice A'' k'' c'') x) : RowV (w.alloc (.cells #[.bool n, .slice A k c, .bool n', .slice A' k' c', .bool n'', .slice A'' k'' c''] T)) (.slice (some ⟨w.heap.size, 0, none⟩) 3 3) [z, y, x] := by
  refine ⟨_, 3, rfl, fun _ => ⟨w.heap.size, 0, rfl, fun j q hj => ?_⟩⟩
  have hc : ∀ i, (w.alloc (.cells #[.bool n, .slice A k c, .bool n', .slice A' k' c', .bool n'', .slice A'' k'' c''] T)).cell? ⟨w.heap.size, i, none⟩ = #[Value.bool n, .slice A k c, .bool n', .slice A' k' c', .bool n'', .slice A'' k'' c''][i]? := fun i => cell_of_row _ _ _ _ _ _ (heap_alloc_new w _)
  rcases j with _ | _ | _ | j
  · obtain rfl : z = q := by simpa using hj
    exact ⟨n, _, (hc 0).trans rfl, (hc 1).trans rfl, h.alloc _⟩
  · obtain rfl : y = q := by simpa using hj
    exact ⟨n', _, (hc 2).trans rfl, (hc 3).trans rfl, h'.alloc _⟩
  · obtain rfl : x = q := by simpa using hj
    exact ⟨n'', _, (hc 4).trans rfl, (hc 5).trans rfl, h''.alloc _⟩
  · simp at hj
end
/-- A row of words that reads as the number a. -/
def LV (w : World) (v : Value) (l : List Nat) (a : Nat) : Prop := ∃ A c, v = .slice A l.length c ∧ Num w v l a
theorem LV.grow {w w' : World} {v : Value} {l : List Nat} {a : Nat} (h : LV w v l a) (hb : Grows w w') : LV w' v l a := by
  obtain ⟨A, c, e, s⟩ := h
  exact ⟨A, c, e, s.below hb⟩
end Go.Num
namespace Go.Proofs.YtmajcjdhhnhmmaaDoor
open Go.RowKit Go.Num Go.Kp
attribute [local go_sem] Oper.semAt_some u64_mask
section
variable (w : World) {u v : Value} {x y z : Int} {Z : List Int}
theorem add0_v (c : Nat) : Calls Tryd.prog 27 #[.slice none 0 c] w fun e w' => ∃ r, e = .returned r ∧ ZV w' r 0 ∧ Grows w w' := by
  refine (Add_row w none c [] (fun h => absurd h (Nat.lt_irrefl _)) (by simp) fun j hj => ?_).mono ?_
  · simp; exact sz_nil'
  · rintro e w1 ⟨n, m, rfl, g⟩
    exact ⟨_, rfl, g.zv sz_nil', g.below⟩
theorem mul3_v (h : RowV w v [x, y, z]) (hx : szz x ≤ 1000) (hy : szz (x * y) ≤ 1000) (hs : szz (x * y * z) ≤ 1000) : Calls Tryd.prog 28 #[v] w fun e w' => ∃ r, e = .returned r ∧ ZV w' r (x * y * z) ∧ Grows w w' := by
  obtain ⟨A, c, rfl, hc⟩ := h
  refine (Mul_row w A c [x, y, z] hc (by simp) fun j hj => ?_).mono ?_
  · rcases j with _ | _ | _ | _ | j
    · exact sz_one
    · have hx' : sz x.natAbs ≤ 1000 := hx
      simpa using hx'
    · have hs' : sz (x * y).natAbs ≤ 1000 := hy
      simpa using hs'
    · have hs' : sz (x * y * z).natAbs ≤ 1000 := hs
      simpa using hs'
    · simp at hj
  · rintro e w1 ⟨n, m, rfl, g⟩
    exact ⟨_, rfl, (g.to (show _ = x * y * z by simp)).zv hs, g.below⟩
theorem small_v (h : WV w u x) (h1 : -9223372036854775808 ≤ x) (h2 : x ≤ 9223372036854775807) : Calls Tryd.prog 38 #[u] w fun e w' => ∃ r, e = .returned r ∧ r = .tuple #[.int .i64 x, .bool true] ∧ Grows w w' := by
  obtain ⟨n, A, i, c, rfl, s⟩ := h
  refine (bsmall_in w _ _ x s h1 h2).mono ?_
  rintro e w1 ⟨rfl, g⟩
  exact ⟨_, rfl, rfl, g⟩
theorem small0_v (h : WV w u x) (h1 : x < -9223372036854775808 ∨ 9223372036854775807 < x) : Calls Tryd.prog 38 #[u] w fun e w' => ∃ r, e = .returned r ∧ r = .tuple #[.int .i64 0, .bool false] ∧ Grows w w' := by
  obtain ⟨n, A, i, c, rfl, s⟩ := h
  refine (bsmall_out w _ _ x s h1).mono ?_
  rintro e w1 ⟨rfl, g⟩
  exact ⟨_, rfl, rfl, g⟩
theorem of_v (n : Bool) {m : Value} {l : List Nat} {a : Nat} (h : LV w m l a) (hz : sg n a = z) (hs : szz z ≤ 1000) : Calls Tryd.prog 34 #[.bool n, m] w fun e w' => ∃ r, e = .returned r ∧ ZV w' r z ∧ Grows w w' := by
  obtain ⟨A, c, rfl, s⟩ := h
  refine (of_num w n _ l a z s hz).mono ?_
  rintro e w1 ⟨n, m, rfl, g⟩
  exact ⟨_, rfl, g.zv hs, g.below⟩
theorem rightL_v {n t : Bool} {m : Value} {l : List Nat} {a : Nat} (h : Num w m l a) (hl : l.length ≤ 1000) (ht : (decide ((limbs a).length = l.length) && decide (sg n a < 0) == n) = t) : Calls Tryd.prog 33 #[.agg #[.bool n, m]] w fun e w' => ∃ r, e = .returned r ∧ r = .bool t ∧ Grows w w' := by
  refine (bright_any w n m l a h hl).mono ?_
  rintro e w1 ⟨rfl, g⟩
  exact ⟨_, rfl, by rw [ht], g⟩
theorem divs_v (a b q r : Int) (ha1 : -9223372036854775808 ≤ a) (ha2 : a ≤ 9223372036854775807) (hb1 : -9223372036854775808 ≤ b) (hb2 : b ≤ 9223372036854775807) (hq1 : -9223372036854775808 ≤ q) (hq2 : q ≤ 9223372036854775807) (hr1 : -9223372036854775808 ≤ r) (hr2 : r ≤ 9223372036854775807) (hb0 : b ≠ 0) (hq : Int.fdiv a b = q) (hr : Int.fmod a b = r) :
    Calls Tryd.prog 48 #[.int .i64 a, .int .i64 b, .int .i64 q, .int .i64 r] w fun e w' => ∃ v, e = .returned v ∧ v = .bool true ∧ Grows w w' := by
  refine (divs_any w a b q r ha1 ha2 hb1 hb2 hq1 hq2 hr1 hr2 hb0 hq hr).mono ?_
  rintro e w1 ⟨rfl, g⟩
  exact ⟨_, rfl, rfl, g⟩
theorem parse_no_v (w : World) (l : List UInt8) (hs : l.length ≤ 900000) (h : (∃ t, l = 45 :: t ∧ (goodText t = false ∨ goodText t = true ∧ tval 0 t = 0)) ∨ l.head? ≠ some 45 ∧ goodText l = false) {s : ByteArray} (e : ByteArray.mk l.toArray = s) :
    Calls Tryd.prog 23 #[.string s] w fun e w' => ∃ r, e = .returned r ∧ (∃ u0, r = .tuple #[u0, .bool false] ∧ ZV w' u0 0) ∧ Grows w w' := by
  subst e
  rcases h with ⟨t, rfl, h | ⟨h, h0⟩⟩ | ⟨h, hg⟩
  · refine (parse_neg_bad w t h (by simp at hs; omega)).mono ?_
    rintro e w1 ⟨rfl, g⟩
    exact ⟨_, rfl, ⟨_, rfl, ZV.zero _ _⟩, g⟩
  · refine (parse_neg_zero w t h h0 (by simp at hs; omega)).mono ?_
    rintro e w1 ⟨rfl, g⟩
    exact ⟨_, rfl, ⟨_, rfl, ZV.zero _ _⟩, g⟩
  · refine (parse_pos_bad w l h hg hs).mono ?_
    rintro e w1 ⟨rfl, g⟩
    exact ⟨_, rfl, ⟨_, rfl, ZV.zero _ _⟩, g⟩
end
section
attribute [local go_sem] ev_const ev_func ev_global
variable {a : Act} {w : World} {d : Option Tmp} {ty : TypeId} {pos : String} {af : Array Edge} {gu : Option (Nat × Bool)}
theorem op_row3 (t t' t'' : Nat) {n n' n'' : Bool} {A A' A'' : Option Addr} {k c k' c' k'' c'' : Nat} (he : ev a (.tmp t) = .agg #[.bool n, .slice A k c]) (he' : ev a (.tmp t') = .agg #[.bool n', .slice A' k' c']) (he'' : ev a (.tmp t'') = .agg #[.bool n'', .slice A'' k'' c'']) :
    (execOp (ev a) ⟨d, .buildSlice 45 3 #[(0, .tmp t), (1, .tmp t'), (2, .tmp t'')], ty, pos, af, gu⟩).run Tryd.prog w = .ok (.value (.slice (some ⟨w.heap.size, 0, none⟩) 3 3)) (w.alloc (.cells #[.bool n, .slice A k c, .bool n', .slice A' k' c', .bool n'', .slice A'' k'' c''] 24)) := by
  go_simp
end
end Go.Proofs.YtmajcjdhhnhmmaaDoor
