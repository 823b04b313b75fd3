import Derived.Test.YtmajcjdhhnhmmaaDoorBigWorks
import Derived.Deep.RegionHeld3
import Derived.Deep.RegionWith
import Derived.Deep.CutRange
import Derived.BigRegion
/- Words for the laws over big. -/
namespace Go.Num
open Go Go.RowKit
/-- A block that holds these cells. -/
def BoxN (W : World) (g : Nat) (T : TypeId) (cs : Array Value) : Prop := W.heap[g]? = some (.cells cs T (0, 0))
theorem BoxN.new (W : World) (T : TypeId) (cs : Array Value) : BoxN (W.alloc (.cells cs T)) W.heap.size T cs := heap_alloc_new W _
theorem BoxN.lt {W : World} {g : Nat} {T : TypeId} {cs : Array Value} (h : BoxN W g T cs) : g < W.heap.size := (Array.getElem?_eq_some_iff.1 h).1
theorem BoxN.cell {W : World} {g : Nat} {T : TypeId} {cs : Array Value} (h : BoxN W g T cs) (i : Nat) {v : Value} (hi : cs[i]? = some v) : W.cell? ⟨g, i, none⟩ = some v := by rw [cell_of_row _ _ _ _ _ _ h]; exact hi
theorem BoxN.below {W W' : World} {g : Nat} {T : TypeId} {cs : Array Value} (h : BoxN W g T cs) (hb : Below W.heap.size W W') : BoxN W' g T cs := (hb.block g h.lt).trans h
theorem szz_zero : szz 0 ≤ 0 := sz_le (by decide)
theorem Par2.put0 {w w' : World} {T : TypeId} {x y x' y' : Value} (h : Par2 w w' T x y x' y') (u v : Value) : Par2 w ((w'.setCell ⟨w.heap.size, 0, none⟩ u).setCell ⟨w.heap.size, 1, none⟩ v) T u v x' y' :=
  ⟨(h.below.setCell (p := ⟨w.heap.size, 0, none⟩) (Nat.le_refl _) _).setCell (p := ⟨w.heap.size, 1, none⟩) (Nat.le_refl _) _, (h.p0.set0 _).set1 _, (h.p1.apart (by omega) _ _).apart (by omega) _ _⟩
theorem Par2.put1 {w w' : World} {T : TypeId} {x y x' y' : Value} (h : Par2 w w' T x y x' y') (u v : Value) : Par2 w ((w'.setCell ⟨w.heap.size + 1, 0, none⟩ u).setCell ⟨w.heap.size + 1, 1, none⟩ v) T x y u v :=
  ⟨(h.below.setCell (p := ⟨w.heap.size + 1, 0, none⟩) (by simp) _).setCell (p := ⟨w.heap.size + 1, 1, none⟩) (by simp) _, (h.p0.apart (by omega) _ _).apart (by omega) _ _, (h.p1.set0 _).set1 _⟩
theorem Par2.frozen {w w' : World} {T : TypeId} {x y x' y' : Value} (h : Par2 w w' T x y x' y') : w'.frozen? ⟨w.heap.size, 0, none⟩ = false ∧ w'.frozen? ⟨w.heap.size, 1, none⟩ = false ∧ w'.frozen? ⟨w.heap.size + 1, 0, none⟩ = false ∧ w'.frozen? ⟨w.heap.size + 1, 1, none⟩ = false := ⟨h.p0.f0, h.p0.f1, h.p1.f0, h.p1.f1⟩
end Go.Num
namespace Go.Proofs.YtmajcjdhhnhmmaaDoor
open Go.RowKit Go.Num
theorem sum2_at (w : World) (b : Nat) (hb : b = w.heap.size) (na nb : Bool) (ma mb : Value) (x y : Int) (ha : Whole w na ma x) (hbb : Whole w nb mb y) (hs : sz (x + y).natAbs ≤ 1000) :
    Calls Tryd.prog 27 #[.slice (some ⟨b, 0, none⟩) 2 2] (w.alloc (.cells #[.bool na, ma, .bool nb, mb] 24)) fun e w' => ∃ n' m', e = .returned (.agg #[.bool n', m']) ∧ MadeZ 52 w w' n' m' (x + y) := by
  subst hb; exact sum2_any w na nb ma mb x y ha hbb hs
theorem sum1_at (w : World) (b : Nat) (hb : b = w.heap.size) (na : Bool) (ma : Value) (x : Int) (ha : Whole w na ma x) :
    Calls Tryd.prog 27 #[.slice (some ⟨b, 0, none⟩) 1 1] (w.alloc (.cells #[.bool na, ma] 24)) fun e w' => ∃ n' m', e = .returned (.agg #[.bool n', m']) ∧ MadeZ 52 w w' n' m' x := by
  subst hb; exact sum1_any w na ma x ha
theorem prod2_at (w : World) (b : Nat) (hb : b = w.heap.size) (na nb : Bool) (ma mb : Value) (x y : Int) (ha : Whole w na ma x) (hbb : Whole w nb mb y) (hs : sz (x * y).natAbs ≤ 1000) :
    Calls Tryd.prog 28 #[.slice (some ⟨b, 0, none⟩) 2 2] (w.alloc (.cells #[.bool na, ma, .bool nb, mb] 24)) fun e w' => ∃ n' m', e = .returned (.agg #[.bool n', m']) ∧ MadeZ 52 w w' n' m' (x * y) := by
  subst hb; exact prod2_any w na nb ma mb x y ha hbb hs
theorem prod1_at (w : World) (b : Nat) (hb : b = w.heap.size) (na : Bool) (ma : Value) (x : Int) (ha : Whole w na ma x) :
    Calls Tryd.prog 28 #[.slice (some ⟨b, 0, none⟩) 1 1] (w.alloc (.cells #[.bool na, ma] 24)) fun e w' => ∃ n' m', e = .returned (.agg #[.bool n', m']) ∧ MadeZ 52 w w' n' m' x := by
  subst hb; exact prod1_any w na ma x ha
theorem few_base (w0 w : World) (n : Bool) (m : Value) (l : List Nat) (j : Nat) (ha : Arg encU w0 m l) (hl : Lim l) (hn : l.length ≤ 9223372036854775807) (hj : j ≤ 1000) :
    Calls Tryd.prog 13 #[.agg #[.bool n, m], .int .i64 j] w fun e w' => ∃ n' A k c z, e = .returned (.agg #[.bool n', .slice A k c]) ∧ Whole w0 n' (.slice A k c) z ∧ szz z ≤ j ∧ Below w.heap.size w w' := by
  refine (few_at w0 w n m l j ha hl hn hj).mono ?_
  rintro e w1 ⟨A, k, c, rfl, h1, h2, hb⟩
  refine ⟨n, A, k, c, sg n (val (l.take j)), rfl, ⟨l.take j, _, h1, by omega, rfl⟩, ?_, hb⟩
  unfold szz
  rw [sg_natAbs]
  exact Nat.le_trans (sz_num h1) h2
theorem few_whole (w : World) (n : Bool) (m : Value) (l : List Nat) (j : Nat) (ha : Arg encU w m l) (hl : Lim l) (hn : l.length ≤ 9223372036854775807) (hj : j ≤ 1000) :
    Calls Tryd.prog 13 #[.agg #[.bool n, m], .int .i64 j] w fun e w' => ∃ n' m' z, e = .returned (.agg #[.bool n', m']) ∧ Whole w' n' m' z ∧ szz z ≤ j ∧ Below w.heap.size w w' := by
  refine (few_base w w n m l j ha hl hn hj).mono ?_
  rintro e w1 ⟨n', A, k, c, z, rfl, h1, h2, hb⟩
  exact ⟨n', _, z, rfl, h1.below hb, h2, hb⟩
end Go.Proofs.YtmajcjdhhnhmmaaDoor
