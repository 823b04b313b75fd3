import Derived.Test.YtdmghakmhfhpiaaDoorRefDigits
import Derived.Test.YtdmghakmhfhpiaaDoorRefLimbs
import Derived.Test.YtdmghakmhfhpiaaDoorText
import Derived.Laws.IdiomStrings
/- A row of bytes that came of a text: its digits are read and written in place. -/
namespace Go.Proofs.YtdmghakmhfhpiaaDoor
open Go.RowKit Go.Num
structure DRow (w : World) (g n : Nat) (D : List UInt8) : Prop where
  len : D.length = n
  row : ∃ cur fz, w.heap[g]? = some (.cells cur 5 fz) ∧ n ≤ fz.1 ∧ cur.toList.take n = D.map encY
section
variable {w w' : World} {g n : Nat} {D : List UInt8}
theorem DRow.cell (h : DRow w g n D) {j : Nat} {x : UInt8} (hx : D[j]? = some x) : w.cell? ⟨g, j, none⟩ = some (encY x) := by
  obtain ⟨cur, fz, hh, _, hc⟩ := h.row
  have hj : j < n := by have := len_of_get hx; rw [h.len] at this; exact this
  have h1 : (cur.toList.take n)[j]? = some (encY x) := by rw [hc, List.getElem?_map, hx]; rfl
  rw [List.getElem?_take, if_pos hj, Array.getElem?_toList] at h1
  simp only [World.cell?, hh]
  simpa using h1
theorem DRow.free (h : DRow w g n D) {j : Nat} (hj : j < n) : w.frozen? ⟨g, j, none⟩ = false := by
  obtain ⟨cur, fz, hh, hf, _⟩ := h.row
  obtain ⟨lo, hi⟩ := fz
  simp only [World.frozen?, hh]
  have : ¬ lo ≤ j := by simp only at hf; omega
  simp [this]
theorem DRow.kept (h : DRow w g n D) (hb : w'.heap[g]? = w.heap[g]?) : DRow w' g n D := by
  obtain ⟨cur, fz, hh, hf, hc⟩ := h.row
  exact ⟨h.len, cur, fz, hb.trans hh, hf, hc⟩
theorem DRow.lt (h : DRow w g n D) : g < w.heap.size := by
  obtain ⟨cur, fz, hh, _⟩ := h.row
  exact (Array.getElem?_eq_some_iff.1 hh).1
theorem DRow.set (h : DRow w g n D) (j : Nat) (x : UInt8) : DRow (w.setCell ⟨g, j, none⟩ (encY x)) g n (D.set j x) := by
  obtain ⟨cur, fz, hh, hf, hc⟩ := h.row
  refine ⟨by rw [List.length_set]; exact h.len, cur.setIfInBounds j (encY x), fz, ?_, hf, ?_⟩
  · simp [World.setCell, Array.getElem?_modify, hh]
  · rw [Array.toList_setIfInBounds, List.map_set, ← hc, List.take_set]
theorem DRow.apart (h : DRow w g n D) {b e s m : Nat} {v : Value} {xs : List Value} (hr : w.ownsRow b e s v m xs) (he : e ≠ 5) : v.ownBlock ≠ some g := by
  intro ev
  obtain ⟨cur, fz, hh, _⟩ := h.row
  rcases hr.2 with ⟨rfl, _⟩ | ⟨g', cap', cur', rfl, _, hg', _⟩
  · simp [Value.ownBlock] at ev
  · simp only [Value.ownBlock, Option.some.injEq] at ev
    subst ev
    rw [hh] at hg'
    simp only [Option.some.injEq, Obj.cells.injEq] at hg'
    exact he hg'.2.1.symm
theorem DRow.alloc (h : DRow w g n D) (o : Obj) : DRow (w.alloc o) g n D := h.kept (Below.heap_alloc w o g h.lt)
theorem DRow.grown {own : Option Nat} (h : DRow w g n D) (hg : w.grownBy w' own) (hne : own ≠ some g) : DRow w' g n D := h.kept (hg.block g h.lt (fun e => hne e.symm))
theorem DRow.below (h : DRow w g n D) (hb : Below w.heap.size w w') : DRow w' g n D := h.kept (hb.block g h.lt)
theorem DRow.drewN (h : DRow w g n D) (k : Nat) : DRow (w.drewN k) g n D := h.kept rfl
theorem DRow.drew (h : DRow w g n D) : DRow w.drew g n D := h.kept rfl
end
/-- What a text becomes as a row of bytes. -/
def textRow (w : World) (l : List UInt8) : World := w.drew.alloc (.cells (bytesRow ⟨l.toArray⟩ (grownCap w l.length 0 5)) 5 ((bytesRow ⟨l.toArray⟩ (grownCap w l.length 0 5)).size, (bytesRow ⟨l.toArray⟩ (grownCap w l.length 0 5)).size + 1))
theorem conv_text (w : World) (l : List UInt8) : (convert 9 28 (.string ⟨l.toArray⟩)).run Tryd.prog w = .ok (.slice (some ⟨w.heap.size, 0, none⟩) l.length (grownCap w l.length 0 5)) (textRow w l) := by
  rw [run_bytes_of_string w 9 28 5 ⟨l.toArray⟩ Tryd.underlying9 Tryd.underlying28 Tryd.underlying5]
  have e : (ByteArray.mk l.toArray).size = l.length := by show l.toArray.size = _; simp
  rw [e]
  rfl
theorem textRow_row (w : World) (l : List UInt8) : DRow (textRow w l) w.heap.size l.length l := by
  refine ⟨rfl, _, _, World.alloc_heap_new w.drew _, ?_, ?_⟩
  · simp [bytesRow]
  · simp [bytesRow]
theorem textRow_below (w : World) (l : List UInt8) : Below w.heap.size w (textRow w l) := ((Below.refl _ w).drew).alloc (Nat.le_refl _) _
end Go.Proofs.YtdmghakmhfhpiaaDoor
