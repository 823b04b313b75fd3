import Derived.Test.YtmajcjdhhnhmmaaDoorSign
/- Where a function's parameters and its result lie while a statement of it runs. No program in sight. -/
namespace Go.Num
open Go Go.RowKit

/-- What lies at an address (a name that simp does not lay open). -/
def peek (w : World) (a : Addr) : Value := (w.cell? a).getD (.bool false)
/-- A block of two cells, whatever they hold. -/
def Has2 (w : World) (g : Nat) (T : TypeId) : Prop := ∃ x y, Box2 w g T x y
theorem Has2.facts {w : World} {g : Nat} {T : TypeId} (h : Has2 w g T) : w.cell? ⟨g, 0, none⟩ = some (peek w ⟨g, 0, none⟩) ∧ w.cell? ⟨g, 1, none⟩ = some (peek w ⟨g, 1, none⟩) ∧ w.frozen? ⟨g, 0, none⟩ = false ∧ w.frozen? ⟨g, 1, none⟩ = false := by
  obtain ⟨x, y, h⟩ := h
  refine ⟨?_, ?_, h.f0, h.f1⟩
  · unfold peek; rw [h.c0]; rfl
  · unfold peek; rw [h.c1]; rfl
theorem Has2.below {w w' : World} {g : Nat} {T : TypeId} (h : Has2 w g T) (hb : Below w.heap.size w w') : Has2 w' g T := by
  obtain ⟨x, y, h⟩ := h
  exact ⟨x, y, h.below hb⟩
theorem Has2.set0 {w : World} {g : Nat} {T : TypeId} (h : Has2 w g T) (v : Value) : Has2 (w.setCell ⟨g, 0, none⟩ v) g T := by
  obtain ⟨x, y, h⟩ := h
  exact ⟨_, _, h.set0 v⟩
theorem Has2.set1 {w : World} {g : Nat} {T : TypeId} (h : Has2 w g T) (v : Value) : Has2 (w.setCell ⟨g, 1, none⟩ v) g T := by
  obtain ⟨x, y, h⟩ := h
  exact ⟨_, _, h.set1 v⟩
theorem Box2.apart {w : World} {g h : Nat} {T : TypeId} {x y : Value} (hb : Box2 w g T x y) (hg : g ≠ h) (k : Nat) (v : Value) : Box2 (w.setCell ⟨h, k, none⟩ v) g T x y := (Below.heap_setCell w ⟨h, k, none⟩ v g hg).trans hb
theorem Box2.drew {w : World} {g : Nat} {T : TypeId} {x y : Value} (hb : Box2 w g T x y) : Box2 w.drew g T x y := hb
theorem Has2.drew {w : World} {g : Nat} {T : TypeId} (hb : Has2 w g T) : Has2 w.drew g T := hb

/-- One parameter of two cells, and a result of two. -/
structure Reg1 (w w' : World) (T : TypeId) (x y : Value) : Prop where
  below : Below w.heap.size w w'
  p0 : Box2 w' w.heap.size T x y
  res : Has2 w' (w.heap.size + 1) T
/-- Two parameters. -/
structure Reg2 (w w' : World) (T : TypeId) (x y x' y' : Value) : Prop where
  below : Below w.heap.size w w'
  p0 : Box2 w' w.heap.size T x y
  p1 : Box2 w' (w.heap.size + 1) T x' y'
  res : Has2 w' (w.heap.size + 1 + 1) T
section
variable {w w' w'' : World} {T : TypeId} {x y x' y' : Value}
theorem Reg1.start (w : World) (T : TypeId) (x y : Value) : Reg1 w ((w.alloc (.cells #[x, y] T)).alloc (.cells #[.bool false, .slice none 0 0] T)) T x y := by
  refine ⟨((Below.refl _ w).alloc (Nat.le_refl _) _).alloc (by simp) _, (Box2.new w T x y).alloc _, ?_⟩
  have := Box2.new (w.alloc (.cells #[x, y] T)) T (.bool false) (.slice none 0 0)
  rw [World.size_alloc] at this
  exact ⟨_, _, this⟩
theorem Reg2.start (w : World) (T : TypeId) (x y x' y' : Value) : Reg2 w (((w.alloc (.cells #[x, y] T)).alloc (.cells #[x', y'] T)).alloc (.cells #[.bool false, .slice none 0 0] T)) T x y x' y' := by
  refine ⟨(((Below.refl _ w).alloc (Nat.le_refl _) _).alloc (by simp) _).alloc (by simp; omega) _, ((Box2.new w T x y).alloc _).alloc _, ?_, ?_⟩
  · have := Box2.new (w.alloc (.cells #[x, y] T)) T x' y'
    rw [World.size_alloc] at this
    exact this.alloc _
  · have := Box2.new ((w.alloc (.cells #[x, y] T)).alloc (.cells #[x', y'] T)) T (.bool false) (.slice none 0 0)
    simp only [World.size_alloc] at this
    exact ⟨_, _, this⟩
theorem Reg1.call (h : Reg1 w w' T x y) (hb : Below w'.heap.size w' w'') : Reg1 w w'' T x y := ⟨h.below.trans (hb.mono h.below.size), h.p0.below hb, h.res.below hb⟩
theorem Reg2.call (h : Reg2 w w' T x y x' y') (hb : Below w'.heap.size w' w'') : Reg2 w w'' T x y x' y' := ⟨h.below.trans (hb.mono h.below.size), h.p0.below hb, h.p1.below hb, h.res.below hb⟩
theorem Reg1.drew (h : Reg1 w w' T x y) : Reg1 w w'.drew T x y := ⟨⟨h.below.os, h.below.tape, h.below.output, h.below.size, h.below.block⟩, h.p0, h.res⟩
theorem Reg2.drew (h : Reg2 w w' T x y x' y') : Reg2 w w'.drew T x y x' y' := ⟨⟨h.below.os, h.below.tape, h.below.output, h.below.size, h.below.block⟩, h.p0, h.p1, h.res⟩
theorem Reg1.put (h : Reg1 w w' T x y) (u v : Value) : Reg1 w ((w'.setCell ⟨w.heap.size + 1, 0, none⟩ u).setCell ⟨w.heap.size + 1, 1, none⟩ v) T x y :=
  ⟨(h.below.setCell (p := ⟨w.heap.size + 1, 0, none⟩) (by simp) _).setCell (p := ⟨w.heap.size + 1, 1, none⟩) (by simp) _, (h.p0.apart (by omega) _ _).apart (by omega) _ _, (h.res.set0 _).set1 _⟩
theorem Reg2.put (h : Reg2 w w' T x y x' y') (u v : Value) : Reg2 w ((w'.setCell ⟨w.heap.size + 1 + 1, 0, none⟩ u).setCell ⟨w.heap.size + 1 + 1, 1, none⟩ v) T x y x' y' :=
  ⟨(h.below.setCell (p := ⟨w.heap.size + 1 + 1, 0, none⟩) (by simp; omega) _).setCell (p := ⟨w.heap.size + 1 + 1, 1, none⟩) (by simp; omega) _, (h.p0.apart (by omega) _ _).apart (by omega) _ _, (h.p1.apart (by omega) _ _).apart (by omega) _ _, (h.res.set0 _).set1 _⟩
theorem Reg1.put0 (h : Reg1 w w' T x y) (u v : Value) : Reg1 w ((w'.setCell ⟨w.heap.size, 0, none⟩ u).setCell ⟨w.heap.size, 1, none⟩ v) T u v :=
  ⟨(h.below.setCell (p := ⟨w.heap.size, 0, none⟩) (by simp) _).setCell (p := ⟨w.heap.size, 1, none⟩) (by simp) _, (h.p0.set0 _).set1 _, by
    obtain ⟨a, b, r⟩ := h.res
    exact ⟨a, b, (r.apart (by omega) _ _).apart (by omega) _ _⟩⟩
theorem Reg2.put0 (h : Reg2 w w' T x y x' y') (u v : Value) : Reg2 w ((w'.setCell ⟨w.heap.size, 0, none⟩ u).setCell ⟨w.heap.size, 1, none⟩ v) T u v x' y' :=
  ⟨(h.below.setCell (p := ⟨w.heap.size, 0, none⟩) (by simp) _).setCell (p := ⟨w.heap.size, 1, none⟩) (by simp) _, (h.p0.set0 _).set1 _, (h.p1.apart (by omega) _ _).apart (by omega) _ _, by
    obtain ⟨a, b, r⟩ := h.res
    exact ⟨a, b, (r.apart (by omega) _ _).apart (by omega) _ _⟩⟩
theorem Reg2.put1 (h : Reg2 w w' T x y x' y') (u v : Value) : Reg2 w ((w'.setCell ⟨w.heap.size + 1, 0, none⟩ u).setCell ⟨w.heap.size + 1, 1, none⟩ v) T x y u v :=
  ⟨(h.below.setCell (p := ⟨w.heap.size + 1, 0, none⟩) (by simp) _).setCell (p := ⟨w.heap.size + 1, 1, none⟩) (by simp) _, (h.p0.apart (by omega) _ _).apart (by omega) _ _, (h.p1.set0 _).set1 _, by
    obtain ⟨a, b, r⟩ := h.res
    exact ⟨a, b, (r.apart (by omega) _ _).apart (by omega) _ _⟩⟩
theorem Reg1.facts (h : Reg1 w w' T x y) : w'.cell? ⟨w.heap.size, 0, none⟩ = some x ∧ w'.cell? ⟨w.heap.size, 1, none⟩ = some y ∧ w'.cell? ⟨w.heap.size + 1, 0, none⟩ = some (peek w' ⟨w.heap.size + 1, 0, none⟩) ∧ w'.cell? ⟨w.heap.size + 1, 1, none⟩ = some (peek w' ⟨w.heap.size + 1, 1, none⟩) ∧
    w'.frozen? ⟨w.heap.size + 1, 0, none⟩ = false ∧ w'.frozen? ⟨w.heap.size + 1, 1, none⟩ = false ∧ Reg1 w w' T x y := by
  obtain ⟨h1, h2, h3, h4⟩ := h.res.facts
  exact ⟨h.p0.c0, h.p0.c1, h1, h2, h3, h4, h⟩
theorem Reg2.facts (h : Reg2 w w' T x y x' y') : w'.cell? ⟨w.heap.size, 0, none⟩ = some x ∧ w'.cell? ⟨w.heap.size, 1, none⟩ = some y ∧ w'.cell? ⟨w.heap.size + 1, 0, none⟩ = some x' ∧ w'.cell? ⟨w.heap.size + 1, 1, none⟩ = some y' ∧
    w'.cell? ⟨w.heap.size + 1 + 1, 0, none⟩ = some (peek w' ⟨w.heap.size + 1 + 1, 0, none⟩) ∧ w'.cell? ⟨w.heap.size + 1 + 1, 1, none⟩ = some (peek w' ⟨w.heap.size + 1 + 1, 1, none⟩) ∧
    w'.frozen? ⟨w.heap.size + 1 + 1, 0, none⟩ = false ∧ w'.frozen? ⟨w.heap.size + 1 + 1, 1, none⟩ = false ∧ Reg2 w w' T x y x' y' := by
  obtain ⟨h1, h2, h3, h4⟩ := h.res.facts
  exact ⟨h.p0.c0, h.p0.c1, h.p1.c0, h.p1.c1, h1, h2, h3, h4, h⟩
theorem Reg2.more (h : Reg2 w w' T x y x' y') : w'.frozen? ⟨w.heap.size, 0, none⟩ = false ∧ w'.frozen? ⟨w.heap.size, 1, none⟩ = false ∧ w'.frozen? ⟨w.heap.size + 1, 0, none⟩ = false ∧ w'.frozen? ⟨w.heap.size + 1, 1, none⟩ = false := ⟨h.p0.f0, h.p0.f1, h.p1.f0, h.p1.f1⟩
theorem Reg1.more (h : Reg1 w w' T x y) : w'.frozen? ⟨w.heap.size, 0, none⟩ = false ∧ w'.frozen? ⟨w.heap.size, 1, none⟩ = false := ⟨h.p0.f0, h.p0.f1⟩
theorem Gives.carry {e : TypeId} {m : Value} {l : List Nat} (h : Gives e encU w w' m l) (hb : Below w'.heap.size w' w'') : Gives e encU w w'' m l := by
  refine ⟨?_, h.below.trans (hb.mono h.below.size)⟩
  refine World.ownsRow.kept h.own (row := none) ⟨hb.os, hb.tape, hb.output, hb.size, fun k hk _ => hb.block k hk⟩ ?_
  rcases h.own.2 with ⟨rfl, _⟩ | ⟨g, cap, cur, rfl, _⟩
  · exact .inl rfl
  · exact .inr (by simp [Value.ownBlock])
theorem MadeZ.carry {e : TypeId} {n : Bool} {m : Value} {z : Int} (h : MadeZ e w w' n m z) (hb : Below w'.heap.size w' w'') : MadeZ e w w'' n m z := ⟨h.sign, h.gives.carry hb⟩
theorem MadeZ.drew {e : TypeId} {n : Bool} {m : Value} {z : Int} (h : MadeZ e w w' n m z) : MadeZ e w w'.drew n m z := h.carry (Below.refl _ _).drew
theorem MadeZ.put {e : TypeId} {n : Bool} {m : Value} {z : Int} (h : MadeZ e w w' n m z) {g : Nat} (hr : Box2 w' g T x y) (hg : w.heap.size ≤ g) (he : T ≠ e) (u v : Value) :
    MadeZ e w ((w'.setCell ⟨g, 0, none⟩ u).setCell ⟨g, 1, none⟩ v) n m z := (h.set hr hg he 0 u).set (hr.set0 u) hg he 1 v
/-- Behind the last call: what it made, once it is laid as the result. -/
theorem MadeZ.laid {e : TypeId} {n : Bool} {m : Value} {z : Int} (h : MadeZ e w' w'' n m z) (hb : Below w.heap.size w w') {g : Nat} (hr : Has2 w'' g T) (hg : w.heap.size ≤ g) (he : T ≠ e) (u v : Value) :
    MadeZ e w ((w''.setCell ⟨g, 0, none⟩ u).setCell ⟨g, 1, none⟩ v) n m z := by
  obtain ⟨x, y, hr⟩ := hr
  exact ((h.after hb).set hr hg he 0 u).set (hr.set0 u) hg he 1 v
theorem Has2.c0' {g : Nat} (h : Has2 w g T) (u v : Value) : ((w.setCell ⟨g, 0, none⟩ u).setCell ⟨g, 1, none⟩ v).cell? ⟨g, 0, none⟩ = some u := by
  obtain ⟨x, y, h⟩ := h
  exact ((h.set0 u).set1 v).c0
theorem Has2.c1' {g : Nat} (h : Has2 w g T) (u v : Value) : ((w.setCell ⟨g, 0, none⟩ u).setCell ⟨g, 1, none⟩ v).cell? ⟨g, 1, none⟩ = some v := by
  obtain ⟨x, y, h⟩ := h
  exact ((h.set0 u).set1 v).c1
theorem Has2.c0s {g : Nat} (h : Has2 w g T) (u : Value) : (w.setCell ⟨g, 0, none⟩ u).cell? ⟨g, 0, none⟩ = some u := by
  obtain ⟨x, y, h⟩ := h
  exact (h.set0 u).c0
end
end Go.Num
