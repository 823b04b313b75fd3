import Derived.Test.YtmajcjdhhnhmmaaDoorReg
/- What lies in memory between big.divided and the function that it hands back. No program in sight. -/
namespace Go.Num
open Go Go.RowKit
theorem Boxed.apart {w : World} {g h : Nat} {T : TypeId} {v : Value} (hb : Boxed w g T v) (hg : g ≠ h) (k : Nat) (u : Value) : Boxed (w.setCell ⟨h, k, none⟩ u) g T v := (Below.heap_setCell w ⟨h, k, none⟩ u g hg).trans hb
theorem Box2.not_boxed {w : World} {g h : Nat} {T S : TypeId} {x y v : Value} (hb : Box2 w g T x y) (hc : Boxed w h S v) : h ≠ g := fun e => by
  subst e
  have := (show w.heap[h]? = _ from hb).symm.trans hc
  simp at this
theorem Boxed.below' {w w' : World} {g : Nat} {T : TypeId} {v : Value} (h : Boxed w g T v) (hb : Below w.heap.size w w') : Boxed w' g T v := (hb.block g h.lt).trans h
theorem Has2.apart {w : World} {g h : Nat} {T : TypeId} (hb : Has2 w g T) (hg : g ≠ h) (k : Nat) (u : Value) : Has2 (w.setCell ⟨h, k, none⟩ u) g T := by
  obtain ⟨x, y, r⟩ := hb
  exact ⟨x, y, r.apart hg k u⟩
theorem Gives.put {e T : TypeId} {w w' : World} {m : Value} {l : List Nat} (h : Gives e encU w w' m l) {g : Nat} (hr : Has2 w' g T) (hg : w.heap.size ≤ g) (he : T ≠ e) (u v : Value) : Gives e encU w ((w'.setCell ⟨g, 0, none⟩ u).setCell ⟨g, 1, none⟩ v) m l := by
  obtain ⟨x, y, r⟩ := hr
  exact (h.set r hg he 0 u).set (r.set0 u) hg he 1 v
theorem MadeZ.put' {e T : TypeId} {w w' : World} {n : Bool} {m : Value} {z : Int} (h : MadeZ e w w' n m z) {g : Nat} (hr : Has2 w' g T) (hg : w.heap.size ≤ g) (he : T ≠ e) (u v : Value) : MadeZ e w ((w'.setCell ⟨g, 0, none⟩ u).setCell ⟨g, 1, none⟩ v) n m z := ⟨h.sign, h.gives.put hr hg he u v⟩

/-- Both numbers, what they are divided into, and where the answers will lie. -/
structure Tell (U T S : TypeId) (w0 w : World) (A Q R G : Nat) (n : Bool) (m : Value) (k : Bool) (o : Value) (vq vr : Value) (y z : Int) : Prop where
  hA : w0.heap.size ≤ A
  hAG : A + 1 < G
  hQG : Q < G
  hRG : R < G
  p0 : Box2 w A T (.bool n) m
  p1 : Box2 w (A + 1) T (.bool k) o
  bq : Boxed w Q S vq
  br : Boxed w R S vr
  my : MadeZ U w0 w n m y
  mz : MadeZ U w0 w k o z
  gq : Gives U encU w0 w vq (limbs (y.natAbs / z.natAbs))
  gr : Gives U encU w0 w vr (limbs (y.natAbs % z.natAbs))
  r1 : Has2 w G T
  r2 : Has2 w (G + 1) T
section
variable {U T S : TypeId} {w0 w w' : World} {A Q R G : Nat} {n k : Bool} {m o vq vr : Value} {y z : Int}
theorem Tell.call (h : Tell U T S w0 w A Q R G n m k o vq vr y z) (hb : Below w.heap.size w w') : Tell U T S w0 w' A Q R G n m k o vq vr y z :=
  ⟨h.hA, h.hAG, h.hQG, h.hRG, h.p0.below hb, h.p1.below hb, Boxed.below' h.bq hb, Boxed.below' h.br hb, h.my.carry hb, h.mz.carry hb, h.gq.carry hb, h.gr.carry hb, h.r1.below hb, h.r2.below hb⟩
theorem Tell.drew (h : Tell U T S w0 w A Q R G n m k o vq vr y z) : Tell U T S w0 w.drew A Q R G n m k o vq vr y z := h.call (Below.refl _ _).drew
theorem Tell.below (h : Tell U T S w0 w A Q R G n m k o vq vr y z) : Below w0.heap.size w0 w := h.my.below
theorem Tell.put1 (h : Tell U T S w0 w A Q R G n m k o vq vr y z) (he : T ≠ U) (a b : Value) :
    Tell U T S w0 ((w.setCell ⟨G, 0, none⟩ a).setCell ⟨G, 1, none⟩ b) A Q R G n m k o vq vr y z := by
  obtain ⟨h1, h2, h3, h4, p0, p1, bq, br, my, mz, gq, gr, r1, r2⟩ := h
  refine ⟨h1, h2, h3, h4, ?_, ?_, ?_, ?_, ?_, ?_, ?_, ?_, ?_, ?_⟩
  · exact (p0.apart (by omega) _ _).apart (by omega) _ _
  · exact (p1.apart (by omega) _ _).apart (by omega) _ _
  · exact Boxed.apart (Boxed.apart bq (by omega) _ _) (by omega) _ _
  · exact Boxed.apart (Boxed.apart br (by omega) _ _) (by omega) _ _
  · exact my.put' r1 (by omega) he _ _
  · exact mz.put' r1 (by omega) he _ _
  · exact gq.put r1 (by omega) he _ _
  · exact gr.put r1 (by omega) he _ _
  · exact (r1.set0 _).set1 _
  · exact (r2.apart (by omega) _ _).apart (by omega) _ _
theorem Tell.put2 (h : Tell U T S w0 w A Q R G n m k o vq vr y z) (he : T ≠ U) (a b : Value) :
    Tell U T S w0 ((w.setCell ⟨G + 1, 0, none⟩ a).setCell ⟨G + 1, 1, none⟩ b) A Q R G n m k o vq vr y z := by
  obtain ⟨h1, h2, h3, h4, p0, p1, bq, br, my, mz, gq, gr, r1, r2⟩ := h
  refine ⟨h1, h2, h3, h4, ?_, ?_, ?_, ?_, ?_, ?_, ?_, ?_, ?_, ?_⟩
  · exact (p0.apart (by omega) _ _).apart (by omega) _ _
  · exact (p1.apart (by omega) _ _).apart (by omega) _ _
  · exact Boxed.apart (Boxed.apart bq (by omega) _ _) (by omega) _ _
  · exact Boxed.apart (Boxed.apart br (by omega) _ _) (by omega) _ _
  · exact my.put' r2 (by omega) he _ _
  · exact mz.put' r2 (by omega) he _ _
  · exact gq.put r2 (by omega) he _ _
  · exact gr.put r2 (by omega) he _ _
  · exact (r1.apart (by omega) _ _).apart (by omega) _ _
  · exact (r2.set0 _).set1 _
theorem Tell.cells (h : Tell U T S w0 w A Q R G n m k o vq vr y z) :
    w.cell? ⟨A, 0, none⟩ = some (.bool n) ∧ w.cell? ⟨A, 1, none⟩ = some m ∧ w.cell? ⟨A + 1, 0, none⟩ = some (.bool k) ∧ w.cell? ⟨A + 1, 1, none⟩ = some o ∧ w.cell? ⟨Q, 0, none⟩ = some vq ∧ w.cell? ⟨R, 0, none⟩ = some vr ∧
    w.cell? ⟨G, 0, none⟩ = some (peek w ⟨G, 0, none⟩) ∧ w.cell? ⟨G, 1, none⟩ = some (peek w ⟨G, 1, none⟩) ∧ w.cell? ⟨G + 1, 0, none⟩ = some (peek w ⟨G + 1, 0, none⟩) ∧ w.cell? ⟨G + 1, 1, none⟩ = some (peek w ⟨G + 1, 1, none⟩) ∧
    w.frozen? ⟨G, 0, none⟩ = false ∧ w.frozen? ⟨G, 1, none⟩ = false ∧ w.frozen? ⟨G + 1, 0, none⟩ = false ∧ w.frozen? ⟨G + 1, 1, none⟩ = false ∧ Tell U T S w0 w A Q R G n m k o vq vr y z := by
  obtain ⟨a1, a2, a3, a4⟩ := h.r1.facts
  obtain ⟨b1, b2, b3, b4⟩ := h.r2.facts
  exact ⟨h.p0.c0, h.p0.c1, h.p1.c0, h.p1.c1, h.bq.cell, h.br.cell, a1, a2, b1, b2, a3, a4, b3, b4, h⟩
end
/-- Before the numbers are made right. -/
structure Kept (U T S : TypeId) (w0 w : World) (A Q R : Nat) (n : Bool) (m : Value) (k : Bool) (o : Value) (vq vr : Value) (y z : Int) : Prop where
  hA : w0.heap.size ≤ A
  p0 : Box2 w A T (.bool n) m
  p1 : Box2 w (A + 1) T (.bool k) o
  bq : Boxed w Q S vq
  br : Boxed w R S vr
  wy : Whole w0 n m y
  wz : Whole w0 k o z
  gq : Gives U encU w0 w vq (limbs (y.natAbs / z.natAbs))
  gr : Gives U encU w0 w vr (limbs (y.natAbs % z.natAbs))
theorem Kept.call {U T S : TypeId} {w0 w w' : World} {A Q R : Nat} {n k : Bool} {m o vq vr : Value} {y z : Int} (h : Kept U T S w0 w A Q R n m k o vq vr y z) (hb : Below w.heap.size w w') : Kept U T S w0 w' A Q R n m k o vq vr y z :=
  ⟨h.hA, h.p0.below hb, h.p1.below hb, Boxed.below' h.bq hb, Boxed.below' h.br hb, h.wy, h.wz, h.gq.carry hb, h.gr.carry hb⟩
end Go.Num
