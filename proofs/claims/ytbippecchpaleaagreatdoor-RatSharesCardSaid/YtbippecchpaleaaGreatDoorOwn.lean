import Derived.Test.YtbippecchpaleaaGreatDoorGVal
/- Rows of an answer's own: where they lie, and that they can be written; whole numbers so. -/
namespace Go.Proofs.YtbippecchpaleaaGreatDoor
open Go Go.RowKit Go.Num Go.Kp
/-- The row v lies in a block from B on, all of it, and holds limbs. -/
def RowO (B : Nat) (w : World) (v : Value) : Prop :=
  ∃ A n c, v = .slice A n c ∧ n ≤ 9223372036854775807 ∧ (n = 0 ∨ ∃ g cur, A = some ⟨g, 0, none⟩ ∧ B ≤ g ∧ w.heap[g]? = some (.cells cur 43 (0, 0)) ∧ ∀ j, j < n → ∃ z : Nat, cur[j]? = some (.int .u32 z) ∧ z < 4294967296)
theorem RowO.of_gives {B : Nat} {w0 w : World} {v : Value} {l : List Nat} (h : Gives 43 encU w0 w v l) (hl : Lim l) (hB : B ≤ w0.heap.size) : RowO B w v := by
  rcases h.own.2 with ⟨rfl, h0⟩ | ⟨g, cap, cur, rfl, hg, hc, hn, hm, _, ht⟩
  · exact ⟨none, 0, 0, rfl, by decide, .inl rfl⟩
  · refine ⟨some ⟨g, 0, none⟩, l.length, cap, rfl, by unfold maxLen at hm; omega, .inr ⟨g, cur, rfl, Nat.le_trans hB hg, hc, fun j hj => ?_⟩⟩
    obtain ⟨x, hx⟩ := get_some hj
    refine ⟨x, ?_, hl.get hx⟩
    have h1 : (cur.toList.take (l.length * 1))[j]? = some (encU x) := by rw [ht, List.getElem?_map, hx]; rfl
    rw [List.getElem?_take, if_pos (by omega), Array.getElem?_toList] at h1
    exact h1
theorem RowO.kept {B : Nat} {w w' : World} {v : Value} (h : RowO B w v) (hb : ∀ (k : Nat) (cur : Array Value), w.heap[k]? = some (.cells cur 43 (0, 0)) → (∃ z : Nat, cur[0]? = some (.int .u32 z)) → w'.heap[k]? = w.heap[k]?) : RowO B w' v := by
  obtain ⟨A, n, c, rfl, hb9, h0 | ⟨g, cur, rfl, hg, hc, hx⟩⟩ := h
  · exact ⟨A, n, c, rfl, hb9, .inl h0⟩
  · rcases Nat.eq_zero_or_pos n with hn | hn
    · exact ⟨_, n, c, rfl, hb9, .inl hn⟩
    · obtain ⟨z, hz, _⟩ := hx 0 hn
      exact ⟨_, n, c, rfl, hb9, .inr ⟨g, cur, rfl, hg, (hb g cur hc ⟨z, hz⟩).trans hc, hx⟩⟩
theorem RowO.grow {B : Nat} {w w' : World} {v : Value} (h : RowO B w v) (hb : Grows w w') : RowO B w' v :=
  h.kept fun k _ hk _ => hb.block k (Array.getElem?_eq_some_iff.1 hk).1
theorem RowO.below {B : Nat} {w w' : World} {v : Value} (h : RowO B w v) (hb : Below w.heap.size w w') : RowO B w' v := h.grow hb
theorem RowO.low {B B' : Nat} {w : World} {v : Value} (h : RowO B w v) (hB : B' ≤ B) : RowO B' w v := by
  obtain ⟨A, n, c, rfl, hb9, h0 | ⟨g, cur, rfl, hg, hc, hx⟩⟩ := h
  · exact ⟨A, n, c, rfl, hb9, .inl h0⟩
  · exact ⟨_, n, c, rfl, hb9, .inr ⟨g, cur, rfl, Nat.le_trans hB hg, hc, hx⟩⟩
theorem RowO.nil_ (B : Nat) (w : World) (A : Option Addr) (c : Nat) : RowO B w (.slice A 0 c) := ⟨A, 0, c, rfl, by decide, .inl rfl⟩
theorem RowO.set {B g j : Nat} {w : World} {v : Value} (h : RowO B w v) (z : Nat) (hz : z < 4294967296) : RowO B (w.setCell ⟨g, j, none⟩ (.int .u32 (z : Int))) v := by
  obtain ⟨A, n, c, rfl, hb9, h0 | ⟨g', cur, rfl, hg, hc, hx⟩⟩ := h
  · exact ⟨A, n, c, rfl, hb9, .inl h0⟩
  · by_cases e : g' = g
    · subst e
      refine ⟨_, n, c, rfl, hb9, .inr ⟨g', cur.setIfInBounds j (.int .u32 (z : Int)), rfl, hg, heap_setCell_same w g' j cur _ _ hc, fun i hi => ?_⟩⟩
      obtain ⟨y, hy, hy2⟩ := hx i hi
      rw [Array.getElem?_setIfInBounds]
      by_cases e2 : j = i
      · subst e2
        rw [if_pos rfl, if_pos (Array.getElem?_eq_some_iff.1 hy).1]
        exact ⟨z, rfl, hz⟩
      · rw [if_neg e2]; exact ⟨y, hy, hy2⟩
    · exact ⟨_, n, c, rfl, hb9, .inr ⟨g', cur, rfl, hg, (heap_setCell_other w ⟨g, j, none⟩ g' _ e).trans hc, hx⟩⟩
theorem RowO.drew {B : Nat} {w : World} {v : Value} (h : RowO B w v) : RowO B w.drew v := h
theorem RowO.put {B g : Nat} {w : World} {m : Value} {T : TypeId} {n : Bool} {A : Option Addr} {k c : Nat} (h : RowO B w m) (hb : Box2 w g T (.bool n) (.slice A k c)) (u v : Value) : RowO B (put2 w g u v) m :=
  h.kept fun i cur hi ⟨z, hz⟩ => by
    have hne : i ≠ g := fun e => by
      subst e
      have h1 := hi.symm.trans (show w.heap[i]? = _ from hb)
      simp only [Option.some.injEq, Obj.cells.injEq] at h1
      rw [h1.1] at hz
      cases hz
    unfold put2
    rw [heap_setCell_other _ ⟨g, 1, none⟩ i _ hne, heap_setCell_other _ ⟨g, 0, none⟩ i _ hne]
/-- A right number, whose row is the answer's own. -/
def ZO (B : Nat) (w : World) (v : Value) (z : Int) : Prop := ∃ n A k c, v = .agg #[.bool n, .slice A k c] ∧ Sound w n (.slice A k c) z ∧ RowO B w (.slice A k c)
/-- A row of words of the answer's own. -/
def LO (B : Nat) (w : World) (v : Value) (l : List Nat) (a : Nat) : Prop := ∃ A c, v = .slice A l.length c ∧ Num w v l a ∧ RowO B w v
section
variable {B : Nat} {w w' : World} {v : Value} {z : Int} {l : List Nat} {a : Nat}
theorem ZO.zv (h : ZO B w v z) : ZV w v z := by
  obtain ⟨n, A, k, c, e, s, _⟩ := h
  exact ⟨n, A, k, c, e, s⟩
theorem ZO.wv (h : ZO B w v z) : WV w v z := h.zv.wv
theorem ZO.grow (h : ZO B w v z) (hb : Grows w w') : ZO B w' v z := by
  obtain ⟨n, A, k, c, e, s, o⟩ := h
  exact ⟨n, A, k, c, e, s.below hb, o.grow hb⟩
theorem ZO.to {y : Int} (h : ZO B w v z) (e : z = y) : ZO B w v y := e ▸ h
theorem LO.lv (h : LO B w v l a) : LV w v l a := by
  obtain ⟨A, c, e, s, _⟩ := h
  exact ⟨A, c, e, s⟩
theorem LO.grow (h : LO B w v l a) (hb : Grows w w') : LO B w' v l a := by
  obtain ⟨A, c, e, s, o⟩ := h
  exact ⟨A, c, e, s.below hb, o.grow hb⟩
theorem ZO.zero (B : Nat) (w : World) (c : Nat) : ZO B w (.agg #[.bool false, .slice none 0 c]) 0 := ⟨_, _, _, _, rfl, Sound.nil_ w c, RowO.nil_ _ _ _ _⟩
end
theorem zo_of {B : Nat} {w w' : World} {n : Bool} {m : Value} {z : Int} (h : MadeZ 43 w w' n m z) (hB : B ≤ w.heap.size) (hz : sz z.natAbs ≤ 1000) : ZO B w' (.agg #[.bool n, m]) z := by
  have ho := RowO.of_gives h.gives (limbs_lim _) hB
  obtain ⟨A, k, c, rfl⟩ := h.shape
  exact ⟨n, A, k, c, rfl, h.sound hz, ho⟩
theorem low {B : Nat} {w x y : World} (h : B ≤ w.heap.size) (h1 : Below w.heap.size w x) (h2 : Below x.heap.size x y) : B ≤ y.heap.size := Nat.le_trans h (Nat.le_trans h1.size h2.size)
section
variable (w : World) {B : Nat} (hB : B ≤ w.heap.size) {u v : Value} {x y z : Int}
include hB
theorem neg_o (h : WV w u x) (hs : szz (-x) ≤ 1000) : Calls Tryz.prog 61 #[u] w fun e w' => ∃ r, e = .returned r ∧ ZO B w' r (-x) ∧ Grows w w' := by
  obtain ⟨n, A, k, c, rfl, s⟩ := h
  refine (neg_any w _ _ x s).mono ?_
  rintro e w1 ⟨n, m, rfl, g⟩
  exact ⟨_, rfl, zo_of g hB hs, g.below⟩
theorem div_o (h : WV w u x) (g : WV w v y) (h0 : y ≠ 0) (hs : szz (Int.fdiv x y) ≤ 1000) : Calls Tryz.prog 74 #[u, v] w fun e w' => ∃ r, e = .returned r ∧ (∃ q, r = .tuple #[q, .int .i64 0] ∧ ZO B w' q (Int.fdiv x y)) ∧ Grows w w' := by
  obtain ⟨n, A, k, c, rfl, s⟩ := h
  obtain ⟨n', A', k', c', rfl, s'⟩ := g
  refine (bdiv_any w _ _ _ _ x y s s' h0).mono ?_
  rintro e w1 ⟨n, m, rfl, g⟩
  exact ⟨_, rfl, ⟨_, rfl, zo_of g hB hs⟩, g.below⟩
theorem of_o (n : Bool) {m : Value} {l : List Nat} {a : Nat} (h : LV w m l a) (hz : sg n a = z) (hs : szz z ≤ 1000) : Calls Tryz.prog 50 #[.bool n, m] w fun e w' => ∃ r, e = .returned r ∧ ZO B w' r z ∧ Grows w w' := by
  obtain ⟨A, c, rfl, s⟩ := h
  refine (of_num w n _ l a z s hz).mono ?_
  rintro e w1 ⟨n, m, rfl, g⟩
  exact ⟨_, rfl, zo_of g hB hs, g.below⟩
end
section
variable (w : World) {B : Nat} {u v : Value} {x : Int}
end
end Go.Proofs.YtbippecchpaleaaGreatDoor

