import Derived.RangeFuncBox
import Derived.Test.YtbippecchpaleaaGreatDoorGNum
/- Whole numbers with signs: what a sign and a row of limbs are worth. No program in sight. -/
namespace Go.Num
open Go Go.RowKit

/-- A sign and a size. -/
def sg (n : Bool) (a : Nat) : Int := if n = true then -(a : Int) else (a : Int)
theorem sg_true (a : Nat) : sg true a = -(a : Int) := rfl
theorem sg_false (a : Nat) : sg false a = (a : Int) := rfl
theorem sg_natAbs (n : Bool) (a : Nat) : (sg n a).natAbs = a := by cases n <;> simp [sg]
theorem sg_not (n : Bool) (a : Nat) : sg (!n) a = -sg n a := by cases n <;> simp [sg]
theorem sg_zero (n : Bool) : sg n 0 = 0 := by cases n <;> simp [sg]
theorem sg_lt (n : Bool) (a : Nat) : decide (sg n a < 0) = (n && decide (0 < a)) := by
  cases n
  · simp [sg]
  · rw [sg_true]; simp
theorem sg_own (z : Int) : sg (decide (z < 0)) z.natAbs = z := by
  by_cases h : z < 0
  · rw [decide_eq_true h, sg_true]; omega
  · rw [decide_eq_false h, sg_false]; omega
theorem sg_mul (n k : Bool) (a b : Nat) : sg (n != k) (a * b) = sg n a * sg k b := by cases n <;> cases k <;> simp [sg, Int.neg_mul, Int.mul_neg]
theorem sg_add (n : Bool) (a b : Nat) : sg n (a + b) = sg n a + sg n b := by cases n <;> simp [sg] <;> omega
theorem sg_sub {n k : Bool} {a b : Nat} (hn : (n == k) = false) (h : b ≤ a) : sg n (a - b) = sg n a + sg k b := by
  cases n <;> cases k <;> simp at hn <;> simp [sg] <;> omega
theorem sg_sub' {n k : Bool} {a b : Nat} (hn : (n == k) = false) (h : a ≤ b) : sg k (b - a) = sg n a + sg k b := by
  cases n <;> cases k <;> simp at hn <;> simp [sg] <;> omega
/-- Sign n and the row m read as z. -/
def Whole (w : World) (n : Bool) (m : Value) (z : Int) : Prop := ∃ l a, Num w m l a ∧ l.length ≤ 1000 ∧ z = sg n a
/-- They are right, too. -/
structure Sound (w : World) (n : Bool) (m : Value) (z : Int) : Prop where
  sign : n = decide (z < 0)
  num : Num w m (limbs z.natAbs) z.natAbs
  short : sz z.natAbs ≤ 1000
/-- What a call leaves. -/
structure MadeZ (e : TypeId) (w w' : World) (n : Bool) (m : Value) (z : Int) : Prop where
  sign : n = decide (z < 0)
  gives : Gives e encU w w' m (limbs z.natAbs)
/-- What a call answers, of whatever memory. -/
structure HasZ (w w' : World) (n : Bool) (m : Value) (z : Int) : Prop where
  sign : n = decide (z < 0)
  arg : Arg encU w' m (limbs z.natAbs)
  below : Below w.heap.size w w'

section
variable {w w' w1 : World} {n : Bool} {m : Value} {z : Int} {e : TypeId}
theorem Whole.of {l : List Nat} {a : Nat} (n : Bool) (h : Num w m l a) (hl : l.length ≤ 1000) : Whole w n m (sg n a) := ⟨l, a, h, hl, rfl⟩
theorem Whole.below (h : Whole w n m z) (hb : Below w.heap.size w w') : Whole w' n m z := by
  obtain ⟨l, a, h, hl, e⟩ := h
  exact ⟨l, a, h.below hb, hl, e⟩
theorem Whole.alloc (h : Whole w n m z) (o : Obj) : Whole (w.alloc o) n m z := by
  obtain ⟨l, a, h, hl, e⟩ := h
  exact ⟨l, a, h.alloc o, hl, e⟩
theorem Whole.size (h : Whole w n m z) : sz z.natAbs ≤ 1000 := by
  obtain ⟨l, a, h, hl, e⟩ := h
  rw [e, sg_natAbs]
  exact Nat.le_trans (sz_num h) hl
theorem Sound.whole (h : Sound w n m z) : Whole w n m z := ⟨_, _, h.num, h.short, by rw [h.sign]; exact (sg_own z).symm⟩
theorem Sound.below (h : Sound w n m z) (hb : Below w.heap.size w w') : Sound w' n m z := ⟨h.sign, h.num.below hb, h.short⟩
theorem Sound.alloc (h : Sound w n m z) (o : Obj) : Sound (w.alloc o) n m z := ⟨h.sign, h.num.alloc o, h.short⟩
theorem Sound.nil_ (w : World) (c : Nat) : Sound w false (.slice none 0 c) 0 := ⟨rfl, by rw [show (0 : Int).natAbs = 0 from rfl, limbs_zero]; exact ⟨Arg.nil_ _ _ _ _, Lim.nil, by decide, rfl⟩, by rw [show (0 : Int).natAbs = 0 from rfl, sz, limbs_zero]; decide⟩
theorem MadeZ.has (h : MadeZ e w w' n m z) : HasZ w w' n m z := ⟨h.sign, h.gives.arg, h.gives.below⟩
theorem HasZ.shape (h : HasZ w w' n m z) : ∃ A k c, m = .slice A k c := by
  obtain ⟨A, c, e, _⟩ := h.arg
  exact ⟨A, _, c, e⟩
theorem MadeZ.shape (h : MadeZ e w w' n m z) : ∃ A k c, m = .slice A k c := h.has.shape
theorem Whole.shape (h : Whole w n m z) : ∃ A k c, m = .slice A k c := by
  obtain ⟨l, a, h, _⟩ := h
  obtain ⟨A, c, e, _⟩ := h.arg
  exact ⟨A, _, c, e⟩
theorem MadeZ.below (h : MadeZ e w w' n m z) : Below w.heap.size w w' := h.gives.below
theorem MadeZ.after (h : MadeZ e w1 w' n m z) (hb : Below w.heap.size w w1) : MadeZ e w w' n m z := ⟨h.sign, h.gives.after hb⟩
theorem MadeZ.to {z' : Int} (h : MadeZ e w w' n m z) (hz : z = z') : MadeZ e w w' n m z' := hz ▸ h
theorem MadeZ.zero (e : TypeId) (h : Below w.heap.size w w') : MadeZ e w w' false (.slice none 0 0) 0 := ⟨rfl, by rw [show (0 : Int).natAbs = 0 from rfl, limbs_zero]; exact ⟨World.ownsRow_nil _ _ _ _, h⟩⟩
theorem HasZ.sound (h : HasZ w w' n m z) (hz : sz z.natAbs ≤ 1000) : Sound w' n m z := ⟨h.sign, ⟨h.arg, limbs_lim _, Nat.le_trans hz (by decide), val_limbs _⟩, hz⟩
theorem MadeZ.sound (h : MadeZ e w w' n m z) (hz : sz z.natAbs ≤ 1000) : Sound w' n m z := h.has.sound hz
theorem HasZ.after (h : HasZ w1 w' n m z) (hb : Below w.heap.size w w1) : HasZ w w' n m z := ⟨h.sign, h.arg, hb.trans (h.below.mono hb.size)⟩
theorem HasZ.to {z' : Int} (h : HasZ w w' n m z) (hz : z = z') : HasZ w w' n m z' := hz ▸ h
theorem HasZ.zero (h : Below w.heap.size w w') : HasZ w w' false (.slice none 0 0) 0 := ⟨rfl, by rw [show (0 : Int).natAbs = 0 from rfl, limbs_zero]; exact Arg.nil_ _ _ _ _, h⟩
end

/-! A struct of two cells in a block of its own. -/
def Box2 (W : World) (g : Nat) (T : TypeId) (x y : Value) : Prop := W.heap[g]? = some (.cells #[x, y] T (0, 0))
section
variable {W W' : World} {g : Nat} {T : TypeId} {x y x' y' : Value}
theorem Box2.new (W : World) (T : TypeId) (x y : Value) : Box2 (W.alloc (.cells #[x, y] T)) W.heap.size T x y := heap_alloc_new W _
theorem Box2.lt (h : Box2 W g T x y) : g < W.heap.size := (Array.getElem?_eq_some_iff.1 h).1
theorem Box2.c0 (h : Box2 W g T x y) : W.cell? ⟨g, 0, none⟩ = some x := by simp [World.cell?, show W.heap[g]? = _ from h]
theorem Box2.c1 (h : Box2 W g T x y) : W.cell? ⟨g, 1, none⟩ = some y := by simp [World.cell?, show W.heap[g]? = _ from h]
theorem Box2.f0 (h : Box2 W g T x y) : W.frozen? ⟨g, 0, none⟩ = false := by simp [World.frozen?, show W.heap[g]? = _ from h]
theorem Box2.f1 (h : Box2 W g T x y) : W.frozen? ⟨g, 1, none⟩ = false := by simp [World.frozen?, show W.heap[g]? = _ from h]
theorem Box2.below (h : Box2 W g T x y) (hb : Below W.heap.size W W') : Box2 W' g T x y := (hb.block g h.lt).trans h
theorem Box2.after {k : Nat} (h : Box2 W g T x y) (hk : g < k) (hb : Below k W W') : Box2 W' g T x y := (hb.block g hk).trans h
theorem Box2.alloc (h : Box2 W g T x y) (o : Obj) : Box2 (W.alloc o) g T x y := (Below.heap_alloc W o g h.lt).trans h
theorem Box2.facts (h : Box2 W g T x y) : W.cell? ⟨g, 0, none⟩ = some x ∧ W.cell? ⟨g, 1, none⟩ = some y ∧ W.frozen? ⟨g, 0, none⟩ = false ∧ W.frozen? ⟨g, 1, none⟩ = false := ⟨h.c0, h.c1, h.f0, h.f1⟩
theorem Box2.set0 (h : Box2 W g T x y) (x' : Value) : Box2 (W.setCell ⟨g, 0, none⟩ x') g T x' y := by
  obtain ⟨hlt, hk⟩ := Array.getElem?_eq_some_iff.1 h
  show (W.heap.modify g _)[g]? = _
  rw [Array.getElem?_eq_getElem (by rw [Array.size_modify]; exact hlt), Array.getElem_modify_self, hk]
  rfl
theorem Box2.set1 (h : Box2 W g T x y) (y' : Value) : Box2 (W.setCell ⟨g, 1, none⟩ y') g T x y' := by
  obtain ⟨hlt, hk⟩ := Array.getElem?_eq_some_iff.1 h
  show (W.heap.modify g _)[g]? = _
  rw [Array.getElem?_eq_getElem (by rw [Array.size_modify]; exact hlt), Array.getElem_modify_self, hk]
  rfl
/-- Writing a block that was not there yet. -/
theorem Gives.set {e : TypeId} {w w' : World} {m : Value} {l : List Nat} (h : Gives e encU w w' m l) {g : Nat} {T : TypeId} (hb : Box2 w' g T x y) (hg : w.heap.size ≤ g) (he : T ≠ e) (k : Nat) (u : Value) : Gives e encU w (w'.setCell ⟨g, k, none⟩ u) m l := by
  have hgr : w'.grownBy (w'.setCell ⟨g, k, none⟩ u) (some g) := ⟨rfl, rfl, rfl, by simp, fun j _ hj => Below.heap_setCell _ _ _ j (fun e' => hj (by rw [e']))⟩
  refine ⟨h.own.kept hgr (.inr ?_), h.below.grown hgr h.below.size (fun j ej => by cases ej; exact hg)⟩
  rcases h.own.2 with ⟨rfl, _⟩ | ⟨g', cap, cur, rfl, _, hgb, _⟩
  · simp [Value.ownBlock]
  · intro e'
    have e'' : g' = g := by simpa [Value.ownBlock] using e'
    subst e''
    have := (show w'.heap[g']? = _ from hb).symm.trans hgb
    simp at this
    exact he this.2
theorem MadeZ.set {e : TypeId} {w w' : World} {n : Bool} {m : Value} {z : Int} (h : MadeZ e w w' n m z) {g : Nat} {T : TypeId} (hb : Box2 w' g T x y) (hg : w.heap.size ≤ g) (he : T ≠ e) (k : Nat) (u : Value) : MadeZ e w (w'.setCell ⟨g, k, none⟩ u) n m z := ⟨h.sign, h.gives.set hb hg he k u⟩
end

/-! Sizes. -/
def szz (z : Int) : Nat := sz z.natAbs
theorem szz_add {a b : Int} {i j : Nat} (ha : szz a ≤ i) (hb : szz b ≤ j) : szz (a + b) ≤ max i j + 1 := by
  have h1 : szz (a + b) ≤ sz (a.natAbs + b.natAbs) := sz_mono (Int.natAbs_add_le a b)
  have h2 := sz_add a.natAbs b.natAbs
  unfold szz at ha hb
  omega
theorem szz_neg {a : Int} {i : Nat} (ha : szz a ≤ i) : szz (-a) ≤ i := by unfold szz at *; rw [Int.natAbs_neg]; exact ha
theorem szz_mul {a b : Int} {i j : Nat} (ha : szz a ≤ i) (hb : szz b ≤ j) : szz (a * b) ≤ i + j := by
  unfold szz at *
  rw [Int.natAbs_mul]
  have := sz_mul a.natAbs b.natAbs
  omega
theorem szz_mono {a b : Int} (h : a.natAbs ≤ b.natAbs) : szz a ≤ szz b := sz_mono h
theorem szz_i64 {a : Int} (h1 : -9223372036854775808 ≤ a) (h2 : a ≤ 9223372036854775807) : szz a ≤ 2 := sz_le (Nat.lt_of_lt_of_le (show a.natAbs < 18446744073709551616 by omega) (by decide))
theorem szz_fdiv {a : Int} {i : Nat} (b : Int) (ha : szz a ≤ i) : szz (Int.fdiv a b) ≤ i := Nat.le_trans (szz_mono (Int.natAbs_fdiv_le_natAbs a b)) ha
theorem fdiv_uniq {a b q r : Int} (h : r + b * q = a) (hr : 0 < b ∧ 0 ≤ r ∧ r < b ∨ b < 0 ∧ b < r ∧ r ≤ 0) : Int.fdiv a b = q ∧ Int.fmod a b = r := by
  rcases hr with ⟨h1, h2, h3⟩ | ⟨h1, h2, h3⟩
  · exact (Int.fdiv_fmod_unique h1).2 ⟨h, h2, h3⟩
  · obtain ⟨e1, e2⟩ := (Int.fdiv_fmod_unique (a := -a) (b := -b) (q := q) (r := -r) (by omega)).2 ⟨by rw [Int.neg_mul]; omega, by omega, by omega⟩
    rw [Int.neg_fdiv_neg] at e1
    rw [Int.neg_fmod_neg] at e2
    exact ⟨e1, by omega⟩
theorem fdiv_plain {n k : Bool} {A B : Nat} (hB : 0 < B) (h : n = k ∨ A % B = 0) : Int.fdiv (sg n A) (sg k B) = sg (n != k) (A / B) ∧ Int.fmod (sg n A) (sg k B) = sg n (A % B) := by
  have e : ((A % B : Nat) : Int) + (B : Int) * ((A / B : Nat) : Int) = (A : Int) := by exact_mod_cast Nat.mod_add_div A B
  have hlt : A % B < B := Nat.mod_lt A hB
  refine fdiv_uniq ?_ ?_
  · cases n <;> cases k <;> simp only [sg_true, sg_false, bne_self_eq_false, show (true != false) = true from rfl, show (false != true) = true from rfl, Int.neg_mul, Int.mul_neg] <;> simp at h <;> omega
  · cases n <;> cases k <;> simp only [sg_true, sg_false] <;> simp at h <;> omega
theorem fdiv_down {n k : Bool} {A B : Nat} (hB : 0 < B) (h : (n == k) = false) (h0 : 0 < A % B) : Int.fdiv (sg n A) (sg k B) = sg true (A / B + 1) ∧ Int.fmod (sg n A) (sg k B) = sg k (B - A % B) := by
  have e : ((A % B : Nat) : Int) + (B : Int) * ((A / B : Nat) : Int) = (A : Int) := by exact_mod_cast Nat.mod_add_div A B
  have hlt : A % B < B := Nat.mod_lt A hB
  have e2 : ((A / B + 1 : Nat) : Int) = ((A / B : Nat) : Int) + 1 := by simp
  refine fdiv_uniq ?_ ?_
  · cases n <;> cases k <;> simp at h <;> simp only [sg_true, sg_false, e2, Int.neg_mul, Int.mul_neg, Int.mul_add, Int.mul_one] <;> omega
  · cases n <;> cases k <;> simp at h <;> simp only [sg_true, sg_false] <;> omega
end Go.Num
/- Where a function's parameters and its result lie while a statement of it runs. No program in sight. -/
namespace Go.Num
open Go Go.RowKit

/-- What lies at an address (a name that simp does not lay open). -/
def peek (w : World) (a : Addr) : Value := (w.cell? a).getD (.bool false)
/-- A block of two cells, whatever they hold. -/
def Has2 (w : World) (g : Nat) (T : TypeId) : Prop := ∃ x y, Box2 w g T x y
theorem Has2.facts {w : World} {g : Nat} {T : TypeId} (h : Has2 w g T) : w.cell? ⟨g, 0, none⟩ = some (peek w ⟨g, 0, none⟩) ∧ w.cell? ⟨g, 1, none⟩ = some (peek w ⟨g, 1, none⟩) ∧ w.frozen? ⟨g, 0, none⟩ = false ∧ w.frozen? ⟨g, 1, none⟩ = false := by
  obtain ⟨x, y, h⟩ := h
  refine ⟨?_, ?_, h.f0, h.f1⟩
  · unfold peek; rw [h.c0]; rfl
  · unfold peek; rw [h.c1]; rfl
theorem Has2.below {w w' : World} {g : Nat} {T : TypeId} (h : Has2 w g T) (hb : Below w.heap.size w w') : Has2 w' g T := by
  obtain ⟨x, y, h⟩ := h
  exact ⟨x, y, h.below hb⟩
theorem Has2.set0 {w : World} {g : Nat} {T : TypeId} (h : Has2 w g T) (v : Value) : Has2 (w.setCell ⟨g, 0, none⟩ v) g T := by
  obtain ⟨x, y, h⟩ := h
  exact ⟨_, _, h.set0 v⟩
theorem Has2.set1 {w : World} {g : Nat} {T : TypeId} (h : Has2 w g T) (v : Value) : Has2 (w.setCell ⟨g, 1, none⟩ v) g T := by
  obtain ⟨x, y, h⟩ := h
  exact ⟨_, _, h.set1 v⟩
theorem Box2.apart {w : World} {g h : Nat} {T : TypeId} {x y : Value} (hb : Box2 w g T x y) (hg : g ≠ h) (k : Nat) (v : Value) : Box2 (w.setCell ⟨h, k, none⟩ v) g T x y := (Below.heap_setCell w ⟨h, k, none⟩ v g hg).trans hb
theorem Box2.drew {w : World} {g : Nat} {T : TypeId} {x y : Value} (hb : Box2 w g T x y) : Box2 w.drew g T x y := hb
theorem Has2.drew {w : World} {g : Nat} {T : TypeId} (hb : Has2 w g T) : Has2 w.drew g T := hb

/-- One parameter of two cells, and a result of two. -/
structure Reg1 (w w' : World) (T : TypeId) (x y : Value) : Prop where
  below : Below w.heap.size w w'
  p0 : Box2 w' w.heap.size T x y
  res : Has2 w' (w.heap.size + 1) T
/-- Two parameters. -/
structure Reg2 (w w' : World) (T : TypeId) (x y x' y' : Value) : Prop where
  below : Below w.heap.size w w'
  p0 : Box2 w' w.heap.size T x y
  p1 : Box2 w' (w.heap.size + 1) T x' y'
  res : Has2 w' (w.heap.size + 1 + 1) T
section
variable {w w' w'' : World} {T : TypeId} {x y x' y' : Value}
theorem Reg1.start (w : World) (T : TypeId) (x y : Value) : Reg1 w ((w.alloc (.cells #[x, y] T)).alloc (.cells #[.bool false, .slice none 0 0] T)) T x y := by
  refine ⟨((Below.refl _ w).alloc (Nat.le_refl _) _).alloc (by simp) _, (Box2.new w T x y).alloc _, ?_⟩
  have := Box2.new (w.alloc (.cells #[x, y] T)) T (.bool false) (.slice none 0 0)
  rw [World.size_alloc] at this
  exact ⟨_, _, this⟩
theorem Reg2.start (w : World) (T : TypeId) (x y x' y' : Value) : Reg2 w (((w.alloc (.cells #[x, y] T)).alloc (.cells #[x', y'] T)).alloc (.cells #[.bool false, .slice none 0 0] T)) T x y x' y' := by
  refine ⟨(((Below.refl _ w).alloc (Nat.le_refl _) _).alloc (by simp) _).alloc (by simp; omega) _, ((Box2.new w T x y).alloc _).alloc _, ?_, ?_⟩
  · have := Box2.new (w.alloc (.cells #[x, y] T)) T x' y'
    rw [World.size_alloc] at this
    exact this.alloc _
  · have := Box2.new ((w.alloc (.cells #[x, y] T)).alloc (.cells #[x', y'] T)) T (.bool false) (.slice none 0 0)
    simp only [World.size_alloc] at this
    exact ⟨_, _, this⟩
theorem Reg1.call (h : Reg1 w w' T x y) (hb : Below w'.heap.size w' w'') : Reg1 w w'' T x y := ⟨h.below.trans (hb.mono h.below.size), h.p0.below hb, h.res.below hb⟩
theorem Reg2.call (h : Reg2 w w' T x y x' y') (hb : Below w'.heap.size w' w'') : Reg2 w w'' T x y x' y' := ⟨h.below.trans (hb.mono h.below.size), h.p0.below hb, h.p1.below hb, h.res.below hb⟩
theorem Reg1.drew (h : Reg1 w w' T x y) : Reg1 w w'.drew T x y := ⟨⟨h.below.os, h.below.tape, h.below.output, h.below.size, h.below.block⟩, h.p0, h.res⟩
theorem Reg2.drew (h : Reg2 w w' T x y x' y') : Reg2 w w'.drew T x y x' y' := ⟨⟨h.below.os, h.below.tape, h.below.output, h.below.size, h.below.block⟩, h.p0, h.p1, h.res⟩
theorem Reg1.put (h : Reg1 w w' T x y) (u v : Value) : Reg1 w ((w'.setCell ⟨w.heap.size + 1, 0, none⟩ u).setCell ⟨w.heap.size + 1, 1, none⟩ v) T x y :=
  ⟨(h.below.setCell (p := ⟨w.heap.size + 1, 0, none⟩) (by simp) _).setCell (p := ⟨w.heap.size + 1, 1, none⟩) (by simp) _, (h.p0.apart (by omega) _ _).apart (by omega) _ _, (h.res.set0 _).set1 _⟩
theorem Reg2.put (h : Reg2 w w' T x y x' y') (u v : Value) : Reg2 w ((w'.setCell ⟨w.heap.size + 1 + 1, 0, none⟩ u).setCell ⟨w.heap.size + 1 + 1, 1, none⟩ v) T x y x' y' :=
  ⟨(h.below.setCell (p := ⟨w.heap.size + 1 + 1, 0, none⟩) (by simp; omega) _).setCell (p := ⟨w.heap.size + 1 + 1, 1, none⟩) (by simp; omega) _, (h.p0.apart (by omega) _ _).apart (by omega) _ _, (h.p1.apart (by omega) _ _).apart (by omega) _ _, (h.res.set0 _).set1 _⟩
theorem Reg1.put0 (h : Reg1 w w' T x y) (u v : Value) : Reg1 w ((w'.setCell ⟨w.heap.size, 0, none⟩ u).setCell ⟨w.heap.size, 1, none⟩ v) T u v :=
  ⟨(h.below.setCell (p := ⟨w.heap.size, 0, none⟩) (by simp) _).setCell (p := ⟨w.heap.size, 1, none⟩) (by simp) _, (h.p0.set0 _).set1 _, by
    obtain ⟨a, b, r⟩ := h.res
    exact ⟨a, b, (r.apart (by omega) _ _).apart (by omega) _ _⟩⟩
theorem Reg2.put0 (h : Reg2 w w' T x y x' y') (u v : Value) : Reg2 w ((w'.setCell ⟨w.heap.size, 0, none⟩ u).setCell ⟨w.heap.size, 1, none⟩ v) T u v x' y' :=
  ⟨(h.below.setCell (p := ⟨w.heap.size, 0, none⟩) (by simp) _).setCell (p := ⟨w.heap.size, 1, none⟩) (by simp) _, (h.p0.set0 _).set1 _, (h.p1.apart (by omega) _ _).apart (by omega) _ _, by
    obtain ⟨a, b, r⟩ := h.res
    exact ⟨a, b, (r.apart (by omega) _ _).apart (by omega) _ _⟩⟩
theorem Reg2.put1 (h : Reg2 w w' T x y x' y') (u v : Value) : Reg2 w ((w'.setCell ⟨w.heap.size + 1, 0, none⟩ u).setCell ⟨w.heap.size + 1, 1, none⟩ v) T x y u v :=
  ⟨(h.below.setCell (p := ⟨w.heap.size + 1, 0, none⟩) (by simp) _).setCell (p := ⟨w.heap.size + 1, 1, none⟩) (by simp) _, (h.p0.apart (by omega) _ _).apart (by omega) _ _, (h.p1.set0 _).set1 _, by
    obtain ⟨a, b, r⟩ := h.res
    exact ⟨a, b, (r.apart (by omega) _ _).apart (by omega) _ _⟩⟩
theorem Reg1.facts (h : Reg1 w w' T x y) : w'.cell? ⟨w.heap.size, 0, none⟩ = some x ∧ w'.cell? ⟨w.heap.size, 1, none⟩ = some y ∧ w'.cell? ⟨w.heap.size + 1, 0, none⟩ = some (peek w' ⟨w.heap.size + 1, 0, none⟩) ∧ w'.cell? ⟨w.heap.size + 1, 1, none⟩ = some (peek w' ⟨w.heap.size + 1, 1, none⟩) ∧
    w'.frozen? ⟨w.heap.size + 1, 0, none⟩ = false ∧ w'.frozen? ⟨w.heap.size + 1, 1, none⟩ = false ∧ Reg1 w w' T x y := by
  obtain ⟨h1, h2, h3, h4⟩ := h.res.facts
  exact ⟨h.p0.c0, h.p0.c1, h1, h2, h3, h4, h⟩
theorem Reg2.facts (h : Reg2 w w' T x y x' y') : w'.cell? ⟨w.heap.size, 0, none⟩ = some x ∧ w'.cell? ⟨w.heap.size, 1, none⟩ = some y ∧ w'.cell? ⟨w.heap.size + 1, 0, none⟩ = some x' ∧ w'.cell? ⟨w.heap.size + 1, 1, none⟩ = some y' ∧
    w'.cell? ⟨w.heap.size + 1 + 1, 0, none⟩ = some (peek w' ⟨w.heap.size + 1 + 1, 0, none⟩) ∧ w'.cell? ⟨w.heap.size + 1 + 1, 1, none⟩ = some (peek w' ⟨w.heap.size + 1 + 1, 1, none⟩) ∧
    w'.frozen? ⟨w.heap.size + 1 + 1, 0, none⟩ = false ∧ w'.frozen? ⟨w.heap.size + 1 + 1, 1, none⟩ = false ∧ Reg2 w w' T x y x' y' := by
  obtain ⟨h1, h2, h3, h4⟩ := h.res.facts
  exact ⟨h.p0.c0, h.p0.c1, h.p1.c0, h.p1.c1, h1, h2, h3, h4, h⟩
theorem Reg2.more (h : Reg2 w w' T x y x' y') : w'.frozen? ⟨w.heap.size, 0, none⟩ = false ∧ w'.frozen? ⟨w.heap.size, 1, none⟩ = false ∧ w'.frozen? ⟨w.heap.size + 1, 0, none⟩ = false ∧ w'.frozen? ⟨w.heap.size + 1, 1, none⟩ = false := ⟨h.p0.f0, h.p0.f1, h.p1.f0, h.p1.f1⟩
theorem Reg1.more (h : Reg1 w w' T x y) : w'.frozen? ⟨w.heap.size, 0, none⟩ = false ∧ w'.frozen? ⟨w.heap.size, 1, none⟩ = false := ⟨h.p0.f0, h.p0.f1⟩
theorem Gives.carry {e : TypeId} {m : Value} {l : List Nat} (h : Gives e encU w w' m l) (hb : Below w'.heap.size w' w'') : Gives e encU w w'' m l := by
  refine ⟨?_, h.below.trans (hb.mono h.below.size)⟩
  refine World.ownsRow.kept h.own (row := none) ⟨hb.os, hb.tape, hb.output, hb.size, fun k hk _ => hb.block k hk⟩ ?_
  rcases h.own.2 with ⟨rfl, _⟩ | ⟨g, cap, cur, rfl, _⟩
  · exact .inl rfl
  · exact .inr (by simp [Value.ownBlock])
theorem MadeZ.carry {e : TypeId} {n : Bool} {m : Value} {z : Int} (h : MadeZ e w w' n m z) (hb : Below w'.heap.size w' w'') : MadeZ e w w'' n m z := ⟨h.sign, h.gives.carry hb⟩
theorem MadeZ.drew {e : TypeId} {n : Bool} {m : Value} {z : Int} (h : MadeZ e w w' n m z) : MadeZ e w w'.drew n m z := h.carry (Below.refl _ _).drew
theorem MadeZ.put {e : TypeId} {n : Bool} {m : Value} {z : Int} (h : MadeZ e w w' n m z) {g : Nat} (hr : Box2 w' g T x y) (hg : w.heap.size ≤ g) (he : T ≠ e) (u v : Value) :
    MadeZ e w ((w'.setCell ⟨g, 0, none⟩ u).setCell ⟨g, 1, none⟩ v) n m z := (h.set hr hg he 0 u).set (hr.set0 u) hg he 1 v
/-- Behind the last call: what it made, once it is laid as the result. -/
theorem MadeZ.laid {e : TypeId} {n : Bool} {m : Value} {z : Int} (h : MadeZ e w' w'' n m z) (hb : Below w.heap.size w w') {g : Nat} (hr : Has2 w'' g T) (hg : w.heap.size ≤ g) (he : T ≠ e) (u v : Value) :
    MadeZ e w ((w''.setCell ⟨g, 0, none⟩ u).setCell ⟨g, 1, none⟩ v) n m z := by
  obtain ⟨x, y, hr⟩ := hr
  exact ((h.after hb).set hr hg he 0 u).set (hr.set0 u) hg he 1 v
theorem Has2.c0' {g : Nat} (h : Has2 w g T) (u v : Value) : ((w.setCell ⟨g, 0, none⟩ u).setCell ⟨g, 1, none⟩ v).cell? ⟨g, 0, none⟩ = some u := by
  obtain ⟨x, y, h⟩ := h
  exact ((h.set0 u).set1 v).c0
theorem Has2.c1' {g : Nat} (h : Has2 w g T) (u v : Value) : ((w.setCell ⟨g, 0, none⟩ u).setCell ⟨g, 1, none⟩ v).cell? ⟨g, 1, none⟩ = some v := by
  obtain ⟨x, y, h⟩ := h
  exact ((h.set0 u).set1 v).c1
end
end Go.Num
/- What lies in memory between big.divided and the function that it hands back. No program in sight. -/
namespace Go.Num
open Go Go.RowKit
theorem Boxed.apart {w : World} {g h : Nat} {T : TypeId} {v : Value} (hb : Boxed w g T v) (hg : g ≠ h) (k : Nat) (u : Value) : Boxed (w.setCell ⟨h, k, none⟩ u) g T v := (Below.heap_setCell w ⟨h, k, none⟩ u g hg).trans hb
theorem Box2.not_boxed {w : World} {g h : Nat} {T S : TypeId} {x y v : Value} (hb : Box2 w g T x y) (hc : Boxed w h S v) : h ≠ g := fun e => by
  subst e
  have := (show w.heap[h]? = _ from hb).symm.trans hc
  simp at this
theorem Boxed.below' {w w' : World} {g : Nat} {T : TypeId} {v : Value} (h : Boxed w g T v) (hb : Below w.heap.size w w') : Boxed w' g T v := (hb.block g h.lt).trans h
theorem Has2.apart {w : World} {g h : Nat} {T : TypeId} (hb : Has2 w g T) (hg : g ≠ h) (k : Nat) (u : Value) : Has2 (w.setCell ⟨h, k, none⟩ u) g T := by
  obtain ⟨x, y, r⟩ := hb
  exact ⟨x, y, r.apart hg k u⟩
theorem Gives.put {e T : TypeId} {w w' : World} {m : Value} {l : List Nat} (h : Gives e encU w w' m l) {g : Nat} (hr : Has2 w' g T) (hg : w.heap.size ≤ g) (he : T ≠ e) (u v : Value) : Gives e encU w ((w'.setCell ⟨g, 0, none⟩ u).setCell ⟨g, 1, none⟩ v) m l := by
  obtain ⟨x, y, r⟩ := hr
  exact (h.set r hg he 0 u).set (r.set0 u) hg he 1 v
theorem MadeZ.put' {e T : TypeId} {w w' : World} {n : Bool} {m : Value} {z : Int} (h : MadeZ e w w' n m z) {g : Nat} (hr : Has2 w' g T) (hg : w.heap.size ≤ g) (he : T ≠ e) (u v : Value) : MadeZ e w ((w'.setCell ⟨g, 0, none⟩ u).setCell ⟨g, 1, none⟩ v) n m z := ⟨h.sign, h.gives.put hr hg he u v⟩

/-- Both numbers, what they are divided into, and where the answers will lie. -/
structure Tell (U T S : TypeId) (w0 w : World) (A Q R G : Nat) (n : Bool) (m : Value) (k : Bool) (o : Value) (vq vr : Value) (y z : Int) : Prop where
  hA : w0.heap.size ≤ A
  hAG : A + 1 < G
  hQG : Q < G
  hRG : R < G
  p0 : Box2 w A T (.bool n) m
  p1 : Box2 w (A + 1) T (.bool k) o
  bq : Boxed w Q S vq
  br : Boxed w R S vr
  my : MadeZ U w0 w n m y
  mz : MadeZ U w0 w k o z
  gq : Gives U encU w0 w vq (limbs (y.natAbs / z.natAbs))
  gr : Gives U encU w0 w vr (limbs (y.natAbs % z.natAbs))
  r1 : Has2 w G T
  r2 : Has2 w (G + 1) T
section
variable {U T S : TypeId} {w0 w w' : World} {A Q R G : Nat} {n k : Bool} {m o vq vr : Value} {y z : Int}
theorem Tell.call (h : Tell U T S w0 w A Q R G n m k o vq vr y z) (hb : Below w.heap.size w w') : Tell U T S w0 w' A Q R G n m k o vq vr y z :=
  ⟨h.hA, h.hAG, h.hQG, h.hRG, h.p0.below hb, h.p1.below hb, Boxed.below' h.bq hb, Boxed.below' h.br hb, h.my.carry hb, h.mz.carry hb, h.gq.carry hb, h.gr.carry hb, h.r1.below hb, h.r2.below hb⟩
theorem Tell.drew (h : Tell U T S w0 w A Q R G n m k o vq vr y z) : Tell U T S w0 w.drew A Q R G n m k o vq vr y z := h.call (Below.refl _ _).drew
theorem Tell.below (h : Tell U T S w0 w A Q R G n m k o vq vr y z) : Below w0.heap.size w0 w := h.my.below
theorem Tell.put1 (h : Tell U T S w0 w A Q R G n m k o vq vr y z) (he : T ≠ U) (a b : Value) :
    Tell U T S w0 ((w.setCell ⟨G, 0, none⟩ a).setCell ⟨G, 1, none⟩ b) A Q R G n m k o vq vr y z := by
  obtain ⟨h1, h2, h3, h4, p0, p1, bq, br, my, mz, gq, gr, r1, r2⟩ := h
  refine ⟨h1, h2, h3, h4, ?_, ?_, ?_, ?_, ?_, ?_, ?_, ?_, ?_, ?_⟩
  · exact (p0.apart (by omega) _ _).apart (by omega) _ _
  · exact (p1.apart (by omega) _ _).apart (by omega) _ _
  · exact Boxed.apart (Boxed.apart bq (by omega) _ _) (by omega) _ _
  · exact Boxed.apart (Boxed.apart br (by omega) _ _) (by omega) _ _
  · exact my.put' r1 (by omega) he _ _
  · exact mz.put' r1 (by omega) he _ _
  · exact gq.put r1 (by omega) he _ _
  · exact gr.put r1 (by omega) he _ _
  · exact (r1.set0 _).set1 _
  · exact (r2.apart (by omega) _ _).apart (by omega) _ _
theorem Tell.put2 (h : Tell U T S w0 w A Q R G n m k o vq vr y z) (he : T ≠ U) (a b : Value) :
    Tell U T S w0 ((w.setCell ⟨G + 1, 0, none⟩ a).setCell ⟨G + 1, 1, none⟩ b) A Q R G n m k o vq vr y z := by
  obtain ⟨h1, h2, h3, h4, p0, p1, bq, br, my, mz, gq, gr, r1, r2⟩ := h
  refine ⟨h1, h2, h3, h4, ?_, ?_, ?_, ?_, ?_, ?_, ?_, ?_, ?_, ?_⟩
  · exact (p0.apart (by omega) _ _).apart (by omega) _ _
  · exact (p1.apart (by omega) _ _).apart (by omega) _ _
  · exact Boxed.apart (Boxed.apart bq (by omega) _ _) (by omega) _ _
  · exact Boxed.apart (Boxed.apart br (by omega) _ _) (by omega) _ _
  · exact my.put' r2 (by omega) he _ _
  · exact mz.put' r2 (by omega) he _ _
  · exact gq.put r2 (by omega) he _ _
  · exact gr.put r2 (by omega) he _ _
  · exact (r1.apart (by omega) _ _).apart (by omega) _ _
  · exact (r2.set0 _).set1 _
theorem Tell.cells (h : Tell U T S w0 w A Q R G n m k o vq vr y z) :
    w.cell? ⟨A, 0, none⟩ = some (.bool n) ∧ w.cell? ⟨A, 1, none⟩ = some m ∧ w.cell? ⟨A + 1, 0, none⟩ = some (.bool k) ∧ w.cell? ⟨A + 1, 1, none⟩ = some o ∧ w.cell? ⟨Q, 0, none⟩ = some vq ∧ w.cell? ⟨R, 0, none⟩ = some vr ∧
    w.cell? ⟨G, 0, none⟩ = some (peek w ⟨G, 0, none⟩) ∧ w.cell? ⟨G, 1, none⟩ = some (peek w ⟨G, 1, none⟩) ∧ w.cell? ⟨G + 1, 0, none⟩ = some (peek w ⟨G + 1, 0, none⟩) ∧ w.cell? ⟨G + 1, 1, none⟩ = some (peek w ⟨G + 1, 1, none⟩) ∧
    w.frozen? ⟨G, 0, none⟩ = false ∧ w.frozen? ⟨G, 1, none⟩ = false ∧ w.frozen? ⟨G + 1, 0, none⟩ = false ∧ w.frozen? ⟨G + 1, 1, none⟩ = false ∧ Tell U T S w0 w A Q R G n m k o vq vr y z := by
  obtain ⟨a1, a2, a3, a4⟩ := h.r1.facts
  obtain ⟨b1, b2, b3, b4⟩ := h.r2.facts
  exact ⟨h.p0.c0, h.p0.c1, h.p1.c0, h.p1.c1, h.bq.cell, h.br.cell, a1, a2, b1, b2, a3, a4, b3, b4, h⟩
end
/-- Before the numbers are made right. -/
structure Kept (U T S : TypeId) (w0 w : World) (A Q R : Nat) (n : Bool) (m : Value) (k : Bool) (o : Value) (vq vr : Value) (y z : Int) : Prop where
  hA : w0.heap.size ≤ A
  p0 : Box2 w A T (.bool n) m
  p1 : Box2 w (A + 1) T (.bool k) o
  bq : Boxed w Q S vq
  br : Boxed w R S vr
  wy : Whole w0 n m y
  wz : Whole w0 k o z
  gq : Gives U encU w0 w vq (limbs (y.natAbs / z.natAbs))
  gr : Gives U encU w0 w vr (limbs (y.natAbs % z.natAbs))
theorem Kept.call {U T S : TypeId} {w0 w w' : World} {A Q R : Nat} {n k : Bool} {m o vq vr : Value} {y z : Int} (h : Kept U T S w0 w A Q R n m k o vq vr y z) (hb : Below w.heap.size w w') : Kept U T S w0 w' A Q R n m k o vq vr y z :=
  ⟨h.hA, h.p0.below hb, h.p1.below hb, Boxed.below' h.bq hb, Boxed.below' h.br hb, h.wy, h.wz, h.gq.carry hb, h.gr.carry hb⟩
end Go.Num

