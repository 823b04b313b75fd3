import Derived.Deep.OwnRows
import Derived.Test.YtmajcjdhhnhmmaaDoorWords
/- Rows that a call makes and writes in place. No program in sight. -/
namespace Go.Num
open Go Go.RowKit
section
variable {α : Type} {enc : α → Value} {w w' : World} {e : TypeId} {base g n c : Nat} {q : List α}

/-- The n cells at the head of block g, which is the call's own, hold q. -/
def Inp (e : TypeId) (enc : α → Value) (base : Nat) (w : World) (g n c : Nat) (q : List α) : Prop := w.ownsRow base e 1 (.slice (some ⟨g, 0, none⟩) n c) n (q.map enc)
theorem Inp.row (h : Inp e enc base w g n c q) : w.ownsRow base e 1 (.slice (some ⟨g, 0, none⟩) n c) n (q.map enc) := h
theorem Inp.len (h : Inp e enc base w g n c q) : q.length = n := by have := h.1; simpa using this
theorem Inp.own (h : Inp e enc base w g n c q) : w.ownsRow base e 1 (.slice (some ⟨g, 0, none⟩) n c) q.length (q.map enc) := by have := h.row; rw [← h.len] at this; rw [← h.len]; exact this
theorem Inp.arg (h : Inp e enc base w g n c q) : Arg enc w (.slice (some ⟨g, 0, none⟩) n c) q := by have := h.own; exact ownsRow_arg this
theorem Inp.cell (h : Inp e enc base w g n c q) {j : Nat} {x : α} (hx : q[j]? = some x) : w.cell? ⟨g, j, none⟩ = some (enc x) := by
  rw [World.ownsRow.cellAt h.row j (by have := len_of_get hx; rw [h.len] at this; omega), List.getElem?_map, hx]
  rfl
theorem Inp.free (h : Inp e enc base w g n c q) (j : Nat) : w.frozen? ⟨g, j, none⟩ = false := World.ownsRow.frozenAt h.row j
theorem Inp.base_le (h : Inp e enc base w g n c q) : base ≤ g := (World.ownsRow.lt h.row g (by simp [Value.ownBlock])).1
theorem Inp.lt (h : Inp e enc base w g n c q) : g < w.heap.size := (World.ownsRow.lt h.row g (by simp [Value.ownBlock])).2
theorem Inp.set (h : Inp e enc base w g n c q) (j : Nat) (x : α) : Inp e enc base (w.setCell ⟨g, j, none⟩ (enc x)) g n c (q.set j x) := by
  have := (World.ownsRow.stored h.row j (enc x)).1
  unfold Inp
  rw [List.map_set]
  exact this
theorem Inp.drewN (h : Inp e enc base w g n c q) (k : Nat) : Inp e enc base (w.drewN k) g n c q := h
theorem Inp.drew (h : Inp e enc base w g n c q) : Inp e enc base w.drew g n c q := h
theorem Inp.alloc (h : Inp e enc base w g n c q) (o : Obj) : Inp e enc base (w.alloc o) g n c q := World.ownsRow.alloc h.row o
theorem Inp.below (h : Inp e enc base w g n c q) (hb : Below w.heap.size w w') : Inp e enc base w' g n c q :=
  World.ownsRow.kept h.row (row := none) ⟨hb.os, hb.tape, hb.output, hb.size, fun k hk _ => hb.block k hk⟩ (.inr (by simp [Value.ownBlock]))
theorem Inp.gives (h : Inp e enc w.heap.size w' g n c q) (hb : Below w.heap.size w w') : Gives e enc w w' (.slice (some ⟨g, 0, none⟩) n c) q := ⟨h.own, hb⟩
/-- make([]T, n). -/
theorem Inp.made (w : World) (z : α) (hn : n ≤ 1000000000) (_hz : (enc z).cells = #[enc z]) : Inp e enc w.heap.size (w.alloc (.cells (madeCells #[enc z] n) e)) w.heap.size n n (List.replicate n z) := by
  have := World.ownsRow_lit (e := e) (base := w.heap.size) (size := 1) w (madeCells #[enc z] n) n (Nat.le_refl _) (by unfold maxLen; omega) (by simp [madeCells])
  rw [toList_madeCells_one] at this
  unfold Inp
  rw [List.map_replicate]
  exact this
end
end Go.Num
