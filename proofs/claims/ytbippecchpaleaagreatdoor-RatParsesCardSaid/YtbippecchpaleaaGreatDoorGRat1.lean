import Derived.Test.YtbippecchpaleaaGreatDoorVal4
import Derived.Test.YtbippecchpaleaaGreatDoorKept3
import Derived.Test.YtbippecchpaleaaGreatDoorGAr
import Derived.Laws.Tables
/- Fractions: what a value of type api.Rat is worth; boxes of three cells. No function of the program in sight but in the operations at the end. -/
namespace Go.Num
open Go Go.RowKit Go.Kp
/-- A denominator: 0 is read as 1. -/
def dn (a : Nat) : Nat := if a = 0 then 1 else a
theorem dn_pos (a : Nat) : 0 < dn a := by unfold dn; split <;> omega
theorem dn_ne (a : Nat) : dn a ≠ 0 := Nat.ne_of_gt (dn_pos a)
theorem dn_of_pos {a : Nat} (h : 0 < a) : dn a = a := by unfold dn; rw [if_neg (by omega)]
/-- The value v is right, and is q. -/
def RV (w : World) (v : Value) (q : Rat) : Prop := ∃ n A k c B j d, v = .agg #[.bool n, .slice A k c, .slice B j d] ∧ Sound w n (.slice A k c) q.num ∧ Num w (.slice B j d) (limbs q.den) q.den ∧ sz q.den ≤ 1000
/-- The value v is q, right or not. -/
def QV (w : World) (v : Value) (q : Rat) : Prop := ∃ n A k c B j d, v = .agg #[.bool n, .slice A k c, .slice B j d] ∧ ∃ z l a, Whole w n (.slice A k c) z ∧ Num w (.slice B j d) l a ∧ l.length ≤ 1000 ∧ q = mkRat z (dn a)
section
variable {w w' : World} {v : Value} {q : Rat}
theorem RV.grow (h : RV w v q) (hb : Grows w w') : RV w' v q := by
  obtain ⟨n, A, k, c, B, j, d, e, h1, h2, h3⟩ := h
  exact ⟨n, A, k, c, B, j, d, e, h1.below hb, h2.below hb, h3⟩
theorem QV.grow (h : QV w v q) (hb : Grows w w') : QV w' v q := by
  obtain ⟨n, A, k, c, B, j, d, e, z, l, a, h1, h2, h3, h4⟩ := h
  exact ⟨n, A, k, c, B, j, d, e, z, l, a, h1.below hb, h2.below hb, h3, h4⟩
theorem RV.qv (h : RV w v q) : QV w v q := by
  obtain ⟨n, A, k, c, B, j, d, e, h1, h2, h3⟩ := h
  exact ⟨n, A, k, c, B, j, d, e, q.num, limbs q.den, q.den, h1.whole, h2, h3, by rw [dn_of_pos q.den_pos]; exact (Rat.mkRat_self q).symm⟩
theorem RV.to {r : Rat} (h : RV w v q) (e : q = r) : RV w v r := e ▸ h
end
theorem Num.to {w : World} {v : Value} {a b : Nat} (h : Num w v (limbs a) a) (e : a = b) : Num w v (limbs b) b := e ▸ h
/-- How long a fraction is. -/
def Qsz (q : Rat) (k : Nat) : Prop := szz q.num ≤ k ∧ sz q.den ≤ k
theorem Qsz.mono {q : Rat} {k j : Nat} (h : Qsz q k) (hk : k ≤ j) : Qsz q j := ⟨Nat.le_trans h.1 hk, Nat.le_trans h.2 hk⟩
theorem mkRat_parts (z : Int) {d : Nat} (hd : d ≠ 0) : (mkRat z d).num = z / ((z.natAbs.gcd d : Nat) : Int) ∧ (mkRat z d).den = d / z.natAbs.gcd d := by
  rw [← Rat.normalize_eq_mkRat hd, Rat.normalize_eq hd]
  exact ⟨rfl, rfl⟩
theorem mkRat_sz {z : Int} {d k : Nat} (hd : d ≠ 0) (h1 : szz z ≤ k) (h2 : sz d ≤ k) : Qsz (mkRat z d) k := by
  obtain ⟨e1, e2⟩ := mkRat_parts z hd
  refine ⟨?_, ?_⟩
  · rw [e1]
    refine Nat.le_trans (szz_mono ?_) h1
    have hg : 0 < z.natAbs.gcd d := Nat.gcd_pos_of_pos_right _ (Nat.pos_of_ne_zero hd)
    rw [Int.natAbs_ediv_of_dvd (Int.ofNat_dvd_left.2 (Nat.gcd_dvd_left _ _)), Int.natAbs_natCast]
    exact Nat.div_le_self _ _
  · rw [e2]
    exact Nat.le_trans (sz_mono (Nat.div_le_self _ _)) h2
theorem mkRat_sign (z : Int) {d : Nat} (hd : 0 < d) : Int.sign (mkRat z d).num = Int.sign z := by
  have hd0 : d ≠ 0 := Nat.ne_of_gt hd
  have e := (Rat.mkRat_eq_iff (n₁ := (mkRat z d).num) (d₁ := (mkRat z d).den) (n₂ := z) (d₂ := d) (Rat.den_nz _) hd0).1 (by rw [Rat.mkRat_self])
  have h1 := congrArg Int.sign e
  rw [Int.sign_mul, Int.sign_mul, Int.sign_eq_one_of_pos (show (0 : Int) < (d : Int) by omega), Int.sign_eq_one_of_pos (show (0 : Int) < ((mkRat z d).den : Int) by have := (mkRat z d).den_pos; omega), Int.mul_one, Int.mul_one] at h1
  exact h1
theorem Qsz.neg {q : Rat} {k : Nat} (h : Qsz q k) : Qsz (-q) k := ⟨by rw [Rat.neg_num]; exact szz_neg h.1, by rw [Rat.neg_den]; exact h.2⟩
theorem Qsz.mul {q r : Rat} {i j : Nat} (h : Qsz q i) (g : Qsz r j) : Qsz (q * r) (i + j) := by
  rw [Rat.mul_def, Rat.normalize_eq_mkRat]
  exact mkRat_sz (Nat.mul_ne_zero q.den_nz r.den_nz) (szz_mul h.1 g.1) (Nat.le_trans (sz_mul _ _) (by have := h.2; have := g.2; omega))
theorem Qsz.add {q r : Rat} {i j : Nat} (h : Qsz q i) (g : Qsz r j) : Qsz (q + r) (i + j + 1) := by
  rw [Rat.add_def, Rat.normalize_eq_mkRat]
  have hd : ∀ {d k : Nat}, sz d ≤ k → szz (d : Int) ≤ k := fun {d k} h => by unfold szz; rw [Int.natAbs_natCast]; exact h
  refine mkRat_sz (Nat.mul_ne_zero q.den_nz r.den_nz) ?_ (Nat.le_trans (sz_mul _ _) (by have := h.2; have := g.2; omega))
  exact Nat.le_trans (szz_add (szz_mul h.1 (hd g.2)) (szz_mul g.1 (hd h.2))) (by omega)

/-! A struct of three cells in a block of its own. -/
def Box3 (W : World) (g : Nat) (T : TypeId) (x y z : Value) : Prop := W.heap[g]? = some (.cells #[x, y, z] T (0, 0))
def put3 (w : World) (g : Nat) (x y z : Value) : World := ((w.setCell ⟨g, 0, none⟩ x).setCell ⟨g, 1, none⟩ y).setCell ⟨g, 2, none⟩ z
section
variable {W W' w : World} {g h : Nat} {T T' : TypeId} {x y z x' y' z' : Value}
theorem Box3.new (W : World) (T : TypeId) (x y z : Value) : Box3 (W.alloc (.cells #[x, y, z] T)) W.heap.size T x y z := heap_alloc_new W _
theorem Box3.lt (h : Box3 W g T x y z) : g < W.heap.size := (Array.getElem?_eq_some_iff.1 h).1
theorem Box3.c0 (h : Box3 W g T x y z) : W.cell? ⟨g, 0, none⟩ = some x := by simp [World.cell?, show W.heap[g]? = _ from h]
theorem Box3.c1 (h : Box3 W g T x y z) : W.cell? ⟨g, 1, none⟩ = some y := by simp [World.cell?, show W.heap[g]? = _ from h]
theorem Box3.c2 (h : Box3 W g T x y z) : W.cell? ⟨g, 2, none⟩ = some z := by simp [World.cell?, show W.heap[g]? = _ from h]
theorem Box3.f (h : Box3 W g T x y z) (i : Nat) : W.frozen? ⟨g, i, none⟩ = false := by simp [World.frozen?, show W.heap[g]? = _ from h]
theorem Box3.below (h : Box3 W g T x y z) (hb : Below W.heap.size W W') : Box3 W' g T x y z := (hb.block g h.lt).trans h
theorem Box3.alloc (h : Box3 W g T x y z) (o : Obj) : Box3 (W.alloc o) g T x y z := (Below.heap_alloc W o g h.lt).trans h
theorem Box3.set0 (h : Box3 W g T x y z) (x' : Value) : Box3 (W.setCell ⟨g, 0, none⟩ x') g T x' y z := by
  obtain ⟨hlt, hk⟩ := Array.getElem?_eq_some_iff.1 h
  show (W.heap.modify g _)[g]? = _
  rw [Array.getElem?_eq_getElem (by rw [Array.size_modify]; exact hlt), Array.getElem_modify_self, hk]
  rfl
theorem Box3.set1 (h : Box3 W g T x y z) (y' : Value) : Box3 (W.setCell ⟨g, 1, none⟩ y') g T x y' z := by
  obtain ⟨hlt, hk⟩ := Array.getElem?_eq_some_iff.1 h
  show (W.heap.modify g _)[g]? = _
  rw [Array.getElem?_eq_getElem (by rw [Array.size_modify]; exact hlt), Array.getElem_modify_self, hk]
  rfl
theorem Box3.set2 (h : Box3 W g T x y z) (z' : Value) : Box3 (W.setCell ⟨g, 2, none⟩ z') g T x y z' := by
  obtain ⟨hlt, hk⟩ := Array.getElem?_eq_some_iff.1 h
  show (W.heap.modify g _)[g]? = _
  rw [Array.getElem?_eq_getElem (by rw [Array.size_modify]; exact hlt), Array.getElem_modify_self, hk]
  rfl
theorem Box3.apart (hb : Box3 W g T x y z) (hg : g ≠ h) (k : Nat) (v : Value) : Box3 (W.setCell ⟨h, k, none⟩ v) g T x y z := (Below.heap_setCell W ⟨h, k, none⟩ v g hg).trans hb
theorem put3_own (hb : Box3 w g T x y z) : Box3 (put3 w g x' y' z') g T x' y' z' := ((hb.set0 x').set1 y').set2 z'
theorem put3_far (hb : Box3 w g T x y z) (hg : g ≠ h) : Box3 (put3 w h x' y' z') g T x y z := ((hb.apart hg 0 x').apart hg 1 y').apart hg 2 z'
theorem Box2.put3_far (hb : Box2 w g T x y) (hg : g ≠ h) : Box2 (put3 w h x' y' z') g T x y := ((hb.apart hg 0 x').apart hg 1 y').apart hg 2 z'
theorem Box3.put2_far (hb : Box3 w g T x y z) (hg : g ≠ h) : Box3 (put2 w h x' y') g T x y z := (hb.apart hg 0 x').apart hg 1 y'
theorem put3_below (hb : Below W.heap.size W w) (hg : W.heap.size ≤ g) : Below W.heap.size W (put3 w g x' y' z') := ((hb.setCell (p := ⟨g, 0, none⟩) hg x').setCell (p := ⟨g, 1, none⟩) hg y').setCell (p := ⟨g, 2, none⟩) hg z'
theorem put3_cell {p : Addr} (h : p.block ≠ g) : (put3 w g x y z).cell? p = w.cell? p := by
  unfold put3
  rw [World.cell?_setCell_far _ _ _ _ (Ne.symm h), World.cell?_setCell_far _ _ _ _ (Ne.symm h), World.cell?_setCell_far _ _ _ _ (Ne.symm h)]
end
section
variable {w : World} {g : Nat} {T : TypeId} {n : Bool} {A B : Option Addr} {k c j d : Nat}
theorem Box3.not_limb {x : Nat} {p : Addr} (hb : Box3 w g T (.bool n) (.slice A k c) (.slice B j d)) (h : w.cell? p = some (encU x)) (hp : p.spot = none) : p.block ≠ g := fun e => by
  obtain ⟨q, i, r⟩ := p
  simp only at e hp
  subst e; subst hp
  rw [cell_of_row _ _ _ _ _ _ (show w.heap[q]? = _ from hb)] at h
  rcases i with _ | _ | _ | i <;> simp at h
theorem Arg.put3 {m : Value} {l : List Nat} (h : Arg encU w m l) (hb : Box3 w g T (.bool n) (.slice A k c) (.slice B j d)) (u v t : Value) : Arg encU (put3 w g u v t) m l := by
  obtain ⟨B', d', e, hd, hc⟩ := h.open_
  refine e ▸ Arg.mk_ rfl hd fun h0 => ?_
  obtain ⟨b, o, e, hx⟩ := hc h0
  exact ⟨b, o, e, fun j x hj => by rw [put3_cell (hb.not_limb (hx j x hj) rfl)]; exact hx j x hj⟩
theorem Num.put3 {m : Value} {l : List Nat} {a : Nat} (h : Num w m l a) (hb : Box3 w g T (.bool n) (.slice A k c) (.slice B j d)) (u v t : Value) : Num (put3 w g u v t) m l a := ⟨h.arg.put3 hb u v t, h.lim, h.len, h.val⟩
theorem Whole.put3 {n' : Bool} {m : Value} {z : Int} (h : Whole w n' m z) (hb : Box3 w g T (.bool n) (.slice A k c) (.slice B j d)) (u v t : Value) : Whole (put3 w g u v t) n' m z := by
  obtain ⟨l, a, hn, hl, e⟩ := h
  exact ⟨l, a, hn.put3 hb u v t, hl, e⟩
theorem Sound.put3 {n' : Bool} {m : Value} {z : Int} (h : Sound w n' m z) (hb : Box3 w g T (.bool n) (.slice A k c) (.slice B j d)) (u v t : Value) : Sound (put3 w g u v t) n' m z := ⟨h.sign, h.num.put3 hb u v t, h.short⟩
theorem RV.put3 {m : Value} {q : Rat} (h : RV w m q) (hb : Box3 w g T (.bool n) (.slice A k c) (.slice B j d)) (u v t : Value) : RV (put3 w g u v t) m q := by
  obtain ⟨n', A', k', c', B', j', d', e, h1, h2, h3⟩ := h
  exact ⟨n', A', k', c', B', j', d', e, h1.put3 hb u v t, h2.put3 hb u v t, h3⟩
theorem Num.put {m : Value} {l : List Nat} {a : Nat} (h : Num w m l a) (hb : Box2 w g T (.bool n) (.slice A k c)) (u v : Value) : Num (put2 w g u v) m l a := ⟨h.arg.put hb u v, h.lim, h.len, h.val⟩
end
/-- What a division in lowest terms leaves. -/
theorem reduce_up {z : Int} {d : Nat} (hd : d ≠ 0) : sg (decide (z < 0)) (z.natAbs / z.natAbs.gcd d) = (mkRat z d).num := by
  rw [(mkRat_parts z hd).1]
  have hg : 0 < z.natAbs.gcd d := Nat.gcd_pos_of_pos_right _ (Nat.pos_of_ne_zero hd)
  obtain ⟨m, hm⟩ := Nat.gcd_dvd_left z.natAbs d
  generalize z.natAbs.gcd d = g at *
  have hq : z.natAbs / g = m := by rw [hm]; exact Nat.mul_div_cancel_left m hg
  rw [hq]
  have hgi : (g : Int) ≠ 0 := by omega
  by_cases h : z < 0
  · rw [decide_eq_true h, sg_true]
    have e : z = (g : Int) * -(m : Int) := by
      have h1 : (z.natAbs : Int) = (g : Int) * (m : Int) := by rw [hm]; simp
      rw [Int.mul_neg, ← h1]; omega
    rw [e, Int.mul_ediv_cancel_left _ hgi]
  · rw [decide_eq_false h, sg_false]
    have e : z = (g : Int) * (m : Int) := by
      have h1 : (z.natAbs : Int) = (g : Int) * (m : Int) := by rw [hm]; simp
      rw [← h1]; omega
    rw [e, Int.mul_ediv_cancel_left _ hgi]
theorem reduce_down {z : Int} {d : Nat} (hd : d ≠ 0) : d / z.natAbs.gcd d = (mkRat z d).den := ((mkRat_parts z hd).2).symm
end Go.Num
/- A function's first boxes. -/
namespace Go.Num
open Go Go.RowKit Go.Kp
theorem boxes1 (w : World) (o : Obj) : ∃ x, w.alloc o = x ∧ Below w.heap.size w x ∧ x.heap[w.heap.size]? = some o := ⟨_, rfl, (Below.refl _ w).alloc (Nat.le_refl _) o, heap_alloc_new w o⟩
theorem boxes2 (w : World) (o p : Obj) : ∃ x, (w.alloc o).alloc p = x ∧ Below w.heap.size w x ∧ x.heap[w.heap.size]? = some o ∧ x.heap[w.heap.size + 1]? = some p := by
  obtain ⟨x, rfl, hb, h0⟩ := boxes1 w o
  obtain ⟨y, e, hb', h1⟩ := boxes1 (w.alloc o) p
  have hs : (w.alloc o).heap.size = w.heap.size + 1 := by rw [World.size_alloc]
  rw [hs] at h1 hb'
  exact ⟨y, e, hb.trans (hb'.mono (by omega)), (hb'.block _ (by omega)).trans h0, h1⟩
theorem boxes3 (w : World) (o p q : Obj) : ∃ x, ((w.alloc o).alloc p).alloc q = x ∧ Below w.heap.size w x ∧ x.heap[w.heap.size]? = some o ∧ x.heap[w.heap.size + 1]? = some p ∧ x.heap[w.heap.size + 1 + 1]? = some q := by
  obtain ⟨x, e0, hb, h0, h1⟩ := boxes2 w o p
  obtain ⟨y, e, hb', h2⟩ := boxes1 x q
  have hs : x.heap.size = w.heap.size + 1 + 1 := by rw [← e0, World.size_alloc, World.size_alloc]
  rw [hs] at h2 hb'
  exact ⟨y, by rw [e0]; exact e, hb.trans (hb'.mono (by omega)), (hb'.block _ (by omega)).trans h0, (hb'.block _ (by omega)).trans h1, h2⟩
theorem boxes4 (w : World) (o p q r : Obj) : ∃ x, (((w.alloc o).alloc p).alloc q).alloc r = x ∧ Below w.heap.size w x ∧ x.heap[w.heap.size]? = some o ∧ x.heap[w.heap.size + 1]? = some p ∧ x.heap[w.heap.size + 1 + 1]? = some q ∧ x.heap[w.heap.size + 1 + 1 + 1]? = some r := by
  obtain ⟨x, e0, hb, h0, h1, h2⟩ := boxes3 w o p q
  obtain ⟨y, e, hb', h3⟩ := boxes1 x r
  have hs : x.heap.size = w.heap.size + 1 + 1 + 1 := by rw [← e0, World.size_alloc, World.size_alloc, World.size_alloc]
  rw [hs] at h3 hb'
  exact ⟨y, by rw [e0]; exact e, hb.trans (hb'.mono (by omega)), (hb'.block _ (by omega)).trans h0, (hb'.block _ (by omega)).trans h1, (hb'.block _ (by omega)).trans h2, h3⟩
theorem st_3 (w : World) (T0 : TypeId) (a0 b0 c0 : Value) : ∃ x, (w.alloc (.cells #[a0, b0, c0] T0)) = x ∧ Below w.heap.size w x ∧ Box3 x w.heap.size T0 a0 b0 c0 := by
  obtain ⟨x, e, h, hs⟩ := boxes1 w (.cells #[a0, b0, c0] T0)
  exact ⟨x, e, h, hs⟩
theorem st_22 (w : World) (T0 : TypeId) (a0 b0 : Value) (T1 : TypeId) (a1 b1 : Value) : ∃ x, ((w.alloc (.cells #[a0, b0] T0)).alloc (.cells #[a1, b1] T1)) = x ∧ Below w.heap.size w x ∧ Box2 x w.heap.size T0 a0 b0 ∧ Box2 x (w.heap.size + 1) T1 a1 b1 := by
  obtain ⟨x, e, h, hs⟩ := boxes2 w (.cells #[a0, b0] T0) (.cells #[a1, b1] T1)
  exact ⟨x, e, h, hs.1, hs.2⟩
theorem st_23 (w : World) (T0 : TypeId) (a0 b0 : Value) (T1 : TypeId) (a1 b1 c1 : Value) : ∃ x, ((w.alloc (.cells #[a0, b0] T0)).alloc (.cells #[a1, b1, c1] T1)) = x ∧ Below w.heap.size w x ∧ Box2 x w.heap.size T0 a0 b0 ∧ Box3 x (w.heap.size + 1) T1 a1 b1 c1 := by
  obtain ⟨x, e, h, hs⟩ := boxes2 w (.cells #[a0, b0] T0) (.cells #[a1, b1, c1] T1)
  exact ⟨x, e, h, hs.1, hs.2⟩
theorem st_32 (w : World) (T0 : TypeId) (a0 b0 c0 : Value) (T1 : TypeId) (a1 b1 : Value) : ∃ x, ((w.alloc (.cells #[a0, b0, c0] T0)).alloc (.cells #[a1, b1] T1)) = x ∧ Below w.heap.size w x ∧ Box3 x w.heap.size T0 a0 b0 c0 ∧ Box2 x (w.heap.size + 1) T1 a1 b1 := by
  obtain ⟨x, e, h, hs⟩ := boxes2 w (.cells #[a0, b0, c0] T0) (.cells #[a1, b1] T1)
  exact ⟨x, e, h, hs.1, hs.2⟩
theorem st_33 (w : World) (T0 : TypeId) (a0 b0 c0 : Value) (T1 : TypeId) (a1 b1 c1 : Value) : ∃ x, ((w.alloc (.cells #[a0, b0, c0] T0)).alloc (.cells #[a1, b1, c1] T1)) = x ∧ Below w.heap.size w x ∧ Box3 x w.heap.size T0 a0 b0 c0 ∧ Box3 x (w.heap.size + 1) T1 a1 b1 c1 := by
  obtain ⟨x, e, h, hs⟩ := boxes2 w (.cells #[a0, b0, c0] T0) (.cells #[a1, b1, c1] T1)
  exact ⟨x, e, h, hs.1, hs.2⟩
theorem st_222 (w : World) (T0 : TypeId) (a0 b0 : Value) (T1 : TypeId) (a1 b1 : Value) (T2 : TypeId) (a2 b2 : Value) : ∃ x, (((w.alloc (.cells #[a0, b0] T0)).alloc (.cells #[a1, b1] T1)).alloc (.cells #[a2, b2] T2)) = x ∧ Below w.heap.size w x ∧ Box2 x w.heap.size T0 a0 b0 ∧ Box2 x (w.heap.size + 1) T1 a1 b1 ∧ Box2 x (w.heap.size + 1 + 1) T2 a2 b2 := by
  obtain ⟨x, e, h, hs⟩ := boxes3 w (.cells #[a0, b0] T0) (.cells #[a1, b1] T1) (.cells #[a2, b2] T2)
  exact ⟨x, e, h, hs.1, hs.2.1, hs.2.2⟩
theorem st_223 (w : World) (T0 : TypeId) (a0 b0 : Value) (T1 : TypeId) (a1 b1 : Value) (T2 : TypeId) (a2 b2 c2 : Value) : ∃ x, (((w.alloc (.cells #[a0, b0] T0)).alloc (.cells #[a1, b1] T1)).alloc (.cells #[a2, b2, c2] T2)) = x ∧ Below w.heap.size w x ∧ Box2 x w.heap.size T0 a0 b0 ∧ Box2 x (w.heap.size + 1) T1 a1 b1 ∧ Box3 x (w.heap.size + 1 + 1) T2 a2 b2 c2 := by
  obtain ⟨x, e, h, hs⟩ := boxes3 w (.cells #[a0, b0] T0) (.cells #[a1, b1] T1) (.cells #[a2, b2, c2] T2)
  exact ⟨x, e, h, hs.1, hs.2.1, hs.2.2⟩
theorem st_333 (w : World) (T0 : TypeId) (a0 b0 c0 : Value) (T1 : TypeId) (a1 b1 c1 : Value) (T2 : TypeId) (a2 b2 c2 : Value) : ∃ x, (((w.alloc (.cells #[a0, b0, c0] T0)).alloc (.cells #[a1, b1, c1] T1)).alloc (.cells #[a2, b2, c2] T2)) = x ∧ Below w.heap.size w x ∧ Box3 x w.heap.size T0 a0 b0 c0 ∧ Box3 x (w.heap.size + 1) T1 a1 b1 c1 ∧ Box3 x (w.heap.size + 1 + 1) T2 a2 b2 c2 := by
  obtain ⟨x, e, h, hs⟩ := boxes3 w (.cells #[a0, b0, c0] T0) (.cells #[a1, b1, c1] T1) (.cells #[a2, b2, c2] T2)
  exact ⟨x, e, h, hs.1, hs.2.1, hs.2.2⟩
theorem st_33N3 (w : World) (T0 : TypeId) (a0 b0 c0 : Value) (T1 : TypeId) (a1 b1 c1 : Value) (T2 : TypeId) (cs2 : Array Value) (T3 : TypeId) (a3 b3 c3 : Value) : ∃ x, ((((w.alloc (.cells #[a0, b0, c0] T0)).alloc (.cells #[a1, b1, c1] T1)).alloc (.cells cs2 T2)).alloc (.cells #[a3, b3, c3] T3)) = x ∧ Below w.heap.size w x ∧ Box3 x w.heap.size T0 a0 b0 c0 ∧ Box3 x (w.heap.size + 1) T1 a1 b1 c1 ∧ BoxN x (w.heap.size + 1 + 1) T2 cs2 ∧ Box3 x (w.heap.size + 1 + 1 + 1) T3 a3 b3 c3 := by
  obtain ⟨x, e, h, hs⟩ := boxes4 w (.cells #[a0, b0, c0] T0) (.cells #[a1, b1, c1] T1) (.cells cs2 T2) (.cells #[a3, b3, c3] T3)
  exact ⟨x, e, h, hs.1, hs.2.1, hs.2.2.1, hs.2.2.2⟩
section
variable {w x : World} {g : Nat} {T : TypeId} {m : Bool} {A0 B0 : Option Addr} {k0 c0 j0 d0 : Nat} {v : Value} {q : Rat} {z : Int}
/-- A fraction laid into the result's box. -/
theorem ret3 (h : RV x v q) (hD : Box3 x g T (.bool m) (.slice A0 k0 c0) (.slice B0 j0 d0)) (hB : Below w.heap.size w x) (hg : w.heap.size ≤ g) : ∃ n A k c B j d y, v = .agg #[.bool n, .slice A k c, .slice B j d] ∧ put3 x g (.bool n) (.slice A k c) (.slice B j d) = y ∧ RV y (.agg #[.bool n, .slice A k c, .slice B j d]) q ∧ Below w.heap.size w y ∧ y.cell? ⟨g, 0, none⟩ = some (.bool n) ∧ y.cell? ⟨g, 1, none⟩ = some (.slice A k c) ∧ y.cell? ⟨g, 2, none⟩ = some (.slice B j d) := by
  obtain ⟨n, A, k, c, B, j, d, e, h1, h2, h3⟩ := h
  have hP := put3_own (x' := .bool n) (y' := .slice A k c) (z' := .slice B j d) hD
  exact ⟨n, A, k, c, B, j, d, _, e, rfl, ⟨n, A, k, c, B, j, d, rfl, h1.put3 hD _ _ _, h2.put3 hD _ _ _, h3⟩, put3_below hB hg, hP.c0, hP.c1, hP.c2⟩
/-- .. that need not be right. -/
theorem ret3q (h : QV x v q) (hD : Box3 x g T (.bool m) (.slice A0 k0 c0) (.slice B0 j0 d0)) (hB : Below w.heap.size w x) (hg : w.heap.size ≤ g) : ∃ n A k c B j d y, v = .agg #[.bool n, .slice A k c, .slice B j d] ∧ put3 x g (.bool n) (.slice A k c) (.slice B j d) = y ∧ QV y (.agg #[.bool n, .slice A k c, .slice B j d]) q ∧ Below w.heap.size w y ∧ y.cell? ⟨g, 0, none⟩ = some (.bool n) ∧ y.cell? ⟨g, 1, none⟩ = some (.slice A k c) ∧ y.cell? ⟨g, 2, none⟩ = some (.slice B j d) := by
  obtain ⟨n, A, k, c, B, j, d, e, z, l, a, h1, h2, h3, h4⟩ := h
  have hP := put3_own (x' := .bool n) (y' := .slice A k c) (z' := .slice B j d) hD
  exact ⟨n, A, k, c, B, j, d, _, e, rfl, ⟨n, A, k, c, B, j, d, rfl, z, l, a, h1.put3 hD _ _ _, h2.put3 hD _ _ _, h3, h4⟩, put3_below hB hg, hP.c0, hP.c1, hP.c2⟩
/-- A whole number laid into the result's box. -/
theorem ret2 (h : ZV x v z) (hD : Box2 x g T (.bool m) (.slice A0 k0 c0)) (hB : Below w.heap.size w x) (hg : w.heap.size ≤ g) : ∃ n A k c y, v = .agg #[.bool n, .slice A k c] ∧ put2 x g (.bool n) (.slice A k c) = y ∧ ZV y (.agg #[.bool n, .slice A k c]) z ∧ Below w.heap.size w y ∧ y.cell? ⟨g, 0, none⟩ = some (.bool n) ∧ y.cell? ⟨g, 1, none⟩ = some (.slice A k c) := by
  obtain ⟨n, A, k, c, e, h1⟩ := h
  have hP := put2_own (u := .bool n) (v := .slice A k c) hD
  exact ⟨n, A, k, c, _, e, rfl, ⟨n, A, k, c, rfl, h1.put hD _ _⟩, put2_below hB hg, hP.c0, hP.c1⟩
/-- .. that need not be right. -/
theorem ret2w (h : WV x v z) (hD : Box2 x g T (.bool m) (.slice A0 k0 c0)) (hB : Below w.heap.size w x) (hg : w.heap.size ≤ g) : ∃ n A k c y, v = .agg #[.bool n, .slice A k c] ∧ put2 x g (.bool n) (.slice A k c) = y ∧ WV y (.agg #[.bool n, .slice A k c]) z ∧ Below w.heap.size w y ∧ y.cell? ⟨g, 0, none⟩ = some (.bool n) ∧ y.cell? ⟨g, 1, none⟩ = some (.slice A k c) := by
  obtain ⟨n, A, k, c, e, h1⟩ := h
  have hP := put2_own (u := .bool n) (v := .slice A k c) hD
  exact ⟨n, A, k, c, _, e, rfl, ⟨n, A, k, c, rfl, h1.put hD _ _⟩, put2_below hB hg, hP.c0, hP.c1⟩
end
end Go.Num
/- Fractions: signs, floors, order: plain laws. -/
namespace Go.Num
/-- The sign of a fraction. -/
def qs (q : Rat) : Int := Int.sign q.num
theorem qs_neg (q : Rat) : qs (-q) = -qs q := by unfold qs; rw [Rat.neg_num, Int.sign_neg]
theorem qs_sub (a b : Rat) : Int.sign (a.num * (b.den : Int) - b.num * (a.den : Int)) = qs (a - b) := by
  have h : a - b = mkRat (a.num * (b.den : Int) - b.num * (a.den : Int)) (a.den * b.den) := by
    rw [Rat.sub_eq_add_neg]
    conv => lhs; rw [← Rat.mkRat_self a, ← Rat.mkRat_self (-b)]
    rw [Rat.mkRat_add_mkRat _ _ a.den_nz (-b).den_nz, Rat.neg_num, Rat.neg_den, Int.neg_mul, Int.sub_eq_add_neg]
  unfold qs
  rw [h, mkRat_sign _ (Nat.mul_pos a.den_pos b.den_pos)]
theorem qs_nonneg (q : Rat) : 0 ≤ qs q ↔ 0 ≤ q := by
  unfold qs
  rw [Int.sign_nonneg_iff]
  exact Rat.num_nonneg
theorem qs_le (a b : Rat) : qs (a - b) ≤ 0 ↔ a ≤ b := by
  have h : a - b = -(b - a) := (Rat.neg_sub b a).symm
  rw [h, qs_neg, Rat.le_iff_sub_nonneg, ← qs_nonneg]
  omega
/-- The whole number above. -/
def qup (a : Rat) : Int := -(-a).floor
theorem floor_mono {a b : Rat} (h : a ≤ b) : a.floor ≤ b.floor := Rat.le_floor_iff.2 (Rat.le_trans (Rat.floor_le a) h)
theorem floors {a b : Rat} (h : qs (a - b) ≤ 0) : qs ((a.floor : Rat) - (b.floor : Rat)) ≤ 0 := (qs_le _ _).2 (Rat.intCast_le_intCast.2 (floor_mono ((qs_le _ _).1 h)))
end Go.Num
/- nat in the word of values; the operations of a region at fractions. -/
namespace Go.Num
open Go Go.RowKit Go.Kp
theorem Gives.lv {e : TypeId} {w w' : World} {v : Value} {a : Nat} (h : Gives e encU w w' v (limbs a)) (hs : sz a ≤ 1000) : LV w' v (limbs a) a := lv_limbs h.arg hs
end Go.Num
namespace Go.Proofs.YtbippecchpaleaaGreatDoor
open Go.RowKit Go.Num Go.Kp
section
variable (w : World) {u v : Value} {l l' : List Nat} {a b : Nat}
theorem ntrim_v (h : LV w u l a) (hs : sz a ≤ 1000) : Calls Tryz.prog 85 #[u] w fun e w' => ∃ r, e = .returned r ∧ LV w' r (limbs a) a ∧ Grows w w' := by
  obtain ⟨A, c, rfl, s⟩ := h
  refine (btrim_num w _ l a s).mono ?_
  rintro e w1 ⟨v1, rfl, g⟩
  exact ⟨_, rfl, g.lv hs, g.below⟩
theorem ngcd_v (h : LV w u l a) (g : LV w v l' b) (hs : sz b ≤ 1000) (hb : 0 < b) : Calls Tryz.prog 102 #[u, v] w fun e w' => ∃ r, e = .returned r ∧ LV w' r (limbs (a.gcd b)) (a.gcd b) ∧ Grows w w' := by
  obtain ⟨A, c, rfl, s⟩ := h
  obtain ⟨A', c', rfl, s'⟩ := g
  refine (gcd_any w _ _ l l' a b s s').mono ?_
  rintro e w1 ⟨v1, rfl, g⟩
  exact ⟨_, rfl, g.lv (Nat.le_trans (sz_mono (Nat.gcd_le_right _ hb)) hs), g.below⟩
theorem ndiv_v (h : LV w u l a) (g : LV w v l' b) (hs : sz a ≤ 1000) (hb : 0 < b) : Calls Tryz.prog 103 #[u, v] w fun e w' => ∃ r, e = .returned r ∧ (∃ u0 u1, r = .tuple #[u0, u1, .int .i64 0] ∧ LV w' u0 (limbs (a / b)) (a / b) ∧ LV w' u1 (limbs (a % b)) (a % b)) ∧ Grows w w' := by
  obtain ⟨A, c, rfl, s⟩ := h
  obtain ⟨A', c', rfl, s'⟩ := g
  refine (div_any w _ _ l l' a b s s' hb).mono ?_
  rintro e w1 ⟨v1, v2, rfl, g1, g2, _⟩
  exact ⟨_, rfl, ⟨_, _, rfl, g1.lv (Nat.le_trans (sz_mono (Nat.div_le_self a b)) hs), g2.lv (Nat.le_trans (sz_mono (Nat.mod_le a b)) hs)⟩, g1.below⟩
theorem nmul_v (h : LV w u l a) (g : LV w v l' b) (hs : sz (a * b) ≤ 1000) : Calls Tryz.prog 66 #[u, v] w fun e w' => ∃ r, e = .returned r ∧ LV w' r (limbs (a * b)) (a * b) ∧ Grows w w' := by
  obtain ⟨A, c, rfl, s⟩ := h
  obtain ⟨A', c', rfl, s'⟩ := g
  refine (mul_any w _ _ l l' a b s s').mono ?_
  rintro e w1 ⟨v1, rfl, g⟩
  exact ⟨_, rfl, g.lv hs, g.below⟩
theorem nfrom_v (n : Nat) (hn : n < 18446744073709551616) : Calls Tryz.prog 118 #[.int .u64 n] w fun e w' => ∃ r, e = .returned r ∧ LV w' r (limbs n) n ∧ Grows w w' := by
  refine (from_any w n hn).mono ?_
  rintro e w1 ⟨v1, rfl, g⟩
  exact ⟨_, rfl, g.lv (Nat.le_trans (sz_le (Nat.lt_of_lt_of_le hn (by decide)) : sz n ≤ 2) (by decide)), g.below⟩
end
section
attribute [local go_sem] Oper.semAt_some u64_mask ev_const ev_func ev_global
variable {a : Act} {w : World} {d : Option Tmp} {ty : TypeId} {pos : String} {af : Array Edge} {gu : Option (Nat × Bool)}
theorem op_store3 (t t' g : Nat) {p q r : Value} {n : Bool} {A B : Option Addr} {k c k' c' : Nat} (he : ev a (.tmp t) = .pointer (some ⟨g, 0, none⟩)) (he' : ev a (.tmp t') = .agg #[.bool n, .slice A k c, .slice B k' c']) (h : Box3 w g 26 p q r) :
    (execOp (ev a) ⟨none, .store 26 (.tmp t) (.tmp t'), ty, pos, af, gu⟩).run Tryz.prog w = .ok .skip (put3 w g (.bool n) (.slice A k c) (.slice B k' c')) := by
  have b1 := h.set0 (.bool n)
  have b2 := b1.set1 (.slice A k c)
  have h0 := h.c0
  have h1 := b1.c1
  have h2 := b2.c2
  have f0 := h.f 0
  have f1 := b1.f 1
  have f2 := b2.f 2
  have g1 := h.f 1
  have g2 := h.f 2
  have i1 := h.c1
  have i2 := h.c2
  clear h b1 b2
  unfold put3
  go_simp
theorem op_load3 (t g : Nat) {x y z : Value} (he : ev a (.tmp t) = .pointer (some ⟨g, 0, none⟩)) (h : Box3 w g 26 x y z) :
    (execOp (ev a) ⟨d, .load 26 (.tmp t), ty, pos, af, gu⟩).run Tryz.prog w = .ok (.value (.agg #[x, y, z])) w := by
  have h0 := h.c0
  have h1 := h.c1
  have h2 := h.c2
  clear h
  go_simp
theorem op_loadN (t g : Nat) {x y z : Value} (he : ev a (.tmp t) = .pointer (some ⟨g, 0, none⟩)) (h : Box3 w g 26 x y z) :
    (execOp (ev a) ⟨d, .load 24 (.tmp t), ty, pos, af, gu⟩).run Tryz.prog w = .ok (.value (.agg #[x, y])) w := by
  have h0 := h.c0
  have h1 := h.c1
  clear h
  go_simp
theorem op_rat (t t' : Nat) {n : Bool} {A : Option Addr} {k c : Nat} {m : Value} (he : ev a (.tmp t) = .agg #[.bool n, .slice A k c]) (he' : ev a (.tmp t') = m) (hm : ∃ B j e, m = .slice B j e) :
    (execOp (ev a) ⟨d, .build 26 #[(0, .tmp t), (1, .tmp t')], ty, pos, af, gu⟩).run Tryz.prog w = .ok (.value (.agg #[.bool n, .slice A k c, m])) w := by
  obtain ⟨B, j, e, rfl⟩ := hm
  have h := run_build (P := Tryz.prog) w 26 #[(0, .agg #[.bool n, .slice A k c]), (1, .slice B j e)] #[.bool n, .slice A k c, .slice B j e] (by kernel_rfl)
  simp only [execOp, List.map_toArray, List.map_cons, List.map_nil, he, he', go_sem]
  go_simp
end
end Go.Proofs.YtbippecchpaleaaGreatDoor
/- rat.one, reduced, made, Int, From, Neg, Of: what each returns. -/
namespace Go.Proofs.YtbippecchpaleaaGreatDoor
open Go.RowKit Go.Num Go.Kp
attribute [local go_sem] Oper.semAt_some u64_mask ev_const ev_func ev_global
set_option maxHeartbeats 4000000 in
set_option maxRecDepth 100000 in
theorem one_v (w : World)   : Calls Tryz.prog 88 #[] w fun e w' => ∃ r, e = .returned r ∧ LV w' r (limbs 1) 1 ∧ Grows w w' := by
  go_enter Tryz.func88, Tryz.ntmps88
  go_upto_region 1 with fail
  have HB := Below.refl w.heap.size w
  have z0 : w.heap.size = w.heap.size := rfl
  clear z0
  replace HB := Lib.hid HB
  refine wp_region_calm 1 [] ([fun vq wq => LV wq vq ((limbs 1)) 1]) (by kernel_rfl) (by decide) ?_ ?_ ?_
  · intro j hj; cases hj
  · refine po rfl (fun lq aq wq hk hr K hK => ?_) ?_
    · exact yc hK (by go_simp) (nfrom_v wq 1 (by decide)) (fun u w1 hu w2 h2 => (hu).grow h2)
    exact AllOps.nil
  intro V x1 hG hV hap
  have r0 : LV x1 (V 0) ((limbs 1)) 1 := hV 0 (by decide)
  clear hV hap
  simp only [List.take_succ_cons, List.take_zero, List.drop_succ_cons, List.drop_zero, putAll, Act.put, List.setIfInBounds_toArray, List.set_cons_zero, List.set_cons_succ]
  have hb := (show Below _ _ _ from hG)
  replace HB := Lib.hid (HB.out.trans (Below.mono hb HB.out.size))
  clear hb hG
  obtain ⟨A1, c1, e1, q1⟩ := r0
  simp only [e1]
  rw [e1] at q1
  go_wp2_with fail
  go_ret
  exact ⟨_, rfl, q1.lv, HB.out⟩
set_option maxHeartbeats 4000000 in
set_option maxRecDepth 100000 in
theorem reduced_v (w : World) {u v : Value} {z : Int} {l : List Nat} {a : Nat} (h0 : WV w u z) (h1 : LV w v l a) (hl : l.length ≤ 1000) (hpos : 0 < a) : Calls Tryz.prog 65 #[u, v] w fun e w' => ∃ r, e = .returned r ∧ RV w' r (mkRat z a) ∧ Grows w w' := by
  have hsa : sz a ≤ 1000 := Nat.le_trans h1.sz_le hl
  have hd0 : a ≠ 0 := Nat.ne_of_gt hpos
  obtain ⟨A9, c9, rfl, q9⟩ := h1
  obtain ⟨n0, A0, k0, c0, rfl, s0⟩ := h0
  have hk0 : szz z ≤ 1000 := s0.size
  go_enter Tryz.func65, Tryz.ntmps65
  go_upto_region 1 with fail
  obtain ⟨x0, ex0, HB, D0, DR⟩ := st_23 w 24 (.bool n0) (.slice A0 k0 c0) 26 (.bool false) (.slice none 0 0) (.slice none 0 0)
  rw [ex0]
  clear ex0
  replace HB := Lib.hid HB
  replace D0 := Lib.hid D0
  replace DR := Lib.hid DR
  have SN0 := Lib.hid (s0.below HB.out)
  clear s0
  have Q9 := Lib.hid (q9.below HB.out)
  clear q9
  obtain ⟨lN0, aN0, qN0, hlN0, eN0⟩ := SN0.out
  have QN0 := Lib.hid qN0
  clear qN0
  refine wp_region_calm 5 [] ([fun vq _ => vq = .pointer (some ⟨w.heap.size, 0, none⟩),
      fun vq _ => vq = .bool n0,
      fun vq _ => vq = .pointer (some ⟨w.heap.size, 1, none⟩),
      fun vq _ => vq = .slice A0 k0 c0,
      fun vq wq => ZV wq vq z]) (by kernel_rfl) (by decide) ?_ ?_ ?_
  · intro j hj; cases hj
  · refine po rfl (fun lq aq wq hk hr K hK => ?_) ?_
    · have B2 : ev aq (.tmp 2) = .pointer (some ⟨w.heap.size, 0, none⟩) := hk.base 2 (by kernel_rfl) rfl
      exact vc hK (by go_simp) (fun w2 h2 => rfl)
    refine po rfl (fun lq aq wq hk hr K hK => ?_) ?_
    · have E0 : ev aq (.tmp 12) = .pointer (some ⟨w.heap.size, 0, none⟩) := hk.dc hr 0 (by kernel_rfl) fun _ _ h => h
      have hb : Below _ _ _ := hk.ext
      have c0 := (D0.out.below hb).c0
      exact vc hK (by go_simp) (fun w2 h2 => rfl)
    refine po rfl (fun lq aq wq hk hr K hK => ?_) ?_
    · have B2 : ev aq (.tmp 2) = .pointer (some ⟨w.heap.size, 0, none⟩) := hk.base 2 (by kernel_rfl) rfl
      exact vc hK (by go_simp) (fun w2 h2 => rfl)
    refine po rfl (fun lq aq wq hk hr K hK => ?_) ?_
    · have E2 : ev aq (.tmp 14) = .pointer (some ⟨w.heap.size, 1, none⟩) := hk.dc hr 2 (by kernel_rfl) fun _ _ h => h
      have hb : Below _ _ _ := hk.ext
      have c1 := (D0.out.below hb).c1
      exact vc hK (by go_simp) (fun w2 h2 => rfl)
    refine po rfl (fun lq aq wq hk hr K hK => ?_) ?_
    · have E1 : ev aq (.tmp 13) = .bool n0 := hk.dc hr 1 (by kernel_rfl) fun _ _ h => h
      have E3 : ev aq (.tmp 15) = .slice A0 k0 c0 := hk.dc hr 3 (by kernel_rfl) fun _ _ h => h
      exact yc hK (by go_simp) (of_v wq n0 (QN0.out.below hk.ext).lv eN0.symm hk0) (fun u w1 hu w2 h2 => (hu).grow h2)
    exact AllOps.nil
  intro V x1 hG hV hap
  have r4 : ZV x1 (V 4) z := hV 4 (by decide)
  clear hV hap
  simp only [List.take_succ_cons, List.take_zero, List.drop_succ_cons, List.drop_zero, putAll, Act.put, List.setIfInBounds_toArray, List.set_cons_zero, List.set_cons_succ]
  have hb := (show Below _ _ _ from hG)
  obtain ⟨nm2, Am2, km2, cm2, em2, sm2⟩ := r4
  simp only [em2]
  clear em2
  clear hG
  replace D0 := D0.out.below hb
  refine wpList_of_skip rfl (op_store 2 16 _ rfl rfl D0) ?_
  clear QN0
  replace DR := Lib.hid (Box3.put2_far (x' := .bool nm2) (y' := .slice Am2 km2 cm2) (DR.out.below hb) (show w.heap.size + 1 ≠ w.heap.size by omega))
  replace Q9 := Lib.hid ((Q9.out.below hb).put D0 (.bool nm2) (.slice Am2 km2 cm2))
  replace SN0 := Lib.hid (sm2.put D0 (.bool nm2) (.slice Am2 km2 cm2))
  replace HB := Lib.hid (put2_below (u := .bool nm2) (v := .slice Am2 km2 cm2) (HB.out.trans (Below.mono hb HB.out.size)) (show w.heap.size ≤ w.heap.size by omega))
  replace D0 := Lib.hid (put2_own (u := .bool nm2) (v := .slice Am2 km2 cm2) D0)
  clear hb sm2
  generalize put2 x1 w.heap.size (.bool nm2) (.slice Am2 km2 cm2) = y3 at *
  obtain ⟨g, hg⟩ : ∃ g, z.natAbs.gcd a = g := ⟨_, rfl⟩
  have hg0 : 0 < g := by rw [← hg]; exact Nat.gcd_pos_of_pos_right _ hpos
  have hgs : sz g ≤ 1000 := by rw [← hg]; exact Nat.le_trans (sz_mono (Nat.gcd_le_right _ hpos)) hsa
  have hup := reduce_up (z := z) hd0
  have hdn := reduce_down (z := z) hd0
  rw [hg] at hup hdn
  have hks := mkRat_sz hd0 hk0 hsa
  have hsn : SN0.out.sign = SN0.out.sign := rfl
  clear hsn
  go_upto_region 2 with fail
  refine wp_region_calm 4 [] ([fun vq _ => vq = .pointer (some ⟨w.heap.size, 1, none⟩),
      fun vq _ => vq = .slice Am2 km2 cm2,
      fun vq _ => vq = .slice A9 l.length c9,
      fun vq wq => LV wq vq ((limbs (z.natAbs.gcd a))) ((z.natAbs.gcd a))]) (by kernel_rfl) (by decide) ?_ ?_ ?_
  · intro j hj; cases hj
  · refine po rfl (fun lq aq wq hk hr K hK => ?_) ?_
    · have B2 : ev aq (.tmp 2) = .pointer (some ⟨w.heap.size, 0, none⟩) := hk.base 2 (by kernel_rfl) rfl
      exact vc hK (by go_simp) (fun w2 h2 => rfl)
    refine po rfl (fun lq aq wq hk hr K hK => ?_) ?_
    · have E0 : ev aq (.tmp 17) = .pointer (some ⟨w.heap.size, 1, none⟩) := hk.dc hr 0 (by kernel_rfl) fun _ _ h => h
      have hb : Below _ _ _ := hk.ext
      have c1 := (D0.out.below hb).c1
      exact vc hK (by go_simp) (fun w2 h2 => rfl)
    refine po rfl (fun lq aq wq hk hr K hK => ?_) ?_
    · have B1 : ev aq (.tmp 1) = .slice A9 l.length c9 := hk.base 1 (by kernel_rfl) rfl
      exact vc hK (by go_simp) (fun w2 h2 => rfl)
    refine po rfl (fun lq aq wq hk hr K hK => ?_) ?_
    · have E1 : ev aq (.tmp 18) = .slice Am2 km2 cm2 := hk.dc hr 1 (by kernel_rfl) fun _ _ h => h
      have E2 : ev aq (.tmp 19) = .slice A9 l.length c9 := hk.dc hr 2 (by kernel_rfl) fun _ _ h => h
      exact yc hK (by go_simp) (ngcd_v wq (SN0.out.num.below hk.ext).lv (Q9.out.below hk.ext).lv hsa hpos) (fun u w1 hu w2 h2 => (hu).grow h2)
    exact AllOps.nil
  intro V x4 hG hV hap
  have r3 : LV x4 (V 3) ((limbs (z.natAbs.gcd a))) ((z.natAbs.gcd a)) := hV 3 (by decide)
  clear hV hap
  simp only [List.take_succ_cons, List.take_zero, List.drop_succ_cons, List.drop_zero, putAll, Act.put, List.setIfInBounds_toArray, List.set_cons_zero, List.set_cons_succ]
  have hb := (show Below _ _ _ from hG)
  replace D0 := Lib.hid (D0.out.below hb)
  replace SN0 := Lib.hid (SN0.out.below hb)
  replace DR := Lib.hid (DR.out.below hb)
  replace Q9 := Lib.hid (Q9.out.below hb)
  replace HB := Lib.hid (HB.out.trans (Below.mono hb HB.out.size))
  clear hb hG
  rw [hg] at r3
  obtain ⟨A5, c5, e5, q5⟩ := r3
  simp only [e5]
  rw [e5] at q5
  have Q5 := Lib.hid q5
  clear e5 q5
  go_upto_region 3 with fail
  refine wp_region_calm 8 [] ([fun vq _ => vq = .pointer (some ⟨w.heap.size, 1, none⟩),
      fun vq _ => vq = .slice Am2 km2 cm2,
      fun vq _ => vq = .slice A5 (limbs g).length c5,
      fun vq wq => ∃ u0 u1, vq = .tuple #[u0, u1, .int .i64 0] ∧ LV wq u0 ((limbs (z.natAbs / g))) ((z.natAbs / g)) ∧ LV wq u1 ((limbs (z.natAbs % g))) ((z.natAbs % g)),
      fun vq wq => ∃ u0 u1, vq = .tuple #[u0, u1, .int .i64 0] ∧ LV wq u0 ((limbs (z.natAbs / g))) ((z.natAbs / g)) ∧ LV wq u1 ((limbs (z.natAbs % g))) ((z.natAbs % g)),
      fun vq wq => LV wq vq ((limbs (z.natAbs / g))) ((z.natAbs / g)),
      fun vq wq => LV wq vq ((limbs (z.natAbs % g))) ((z.natAbs % g)),
      fun vq _ => vq = .int .i64 0]) (by kernel_rfl) (by decide) ?_ ?_ ?_
  · intro j hj; cases hj
  · refine po rfl (fun lq aq wq hk hr K hK => ?_) ?_
    · have B2 : ev aq (.tmp 2) = .pointer (some ⟨w.heap.size, 0, none⟩) := hk.base 2 (by kernel_rfl) rfl
      exact vc hK (by go_simp) (fun w2 h2 => rfl)
    refine po rfl (fun lq aq wq hk hr K hK => ?_) ?_
    · have E0 : ev aq (.tmp 22) = .pointer (some ⟨w.heap.size, 1, none⟩) := hk.dc hr 0 (by kernel_rfl) fun _ _ h => h
      have hb : Below _ _ _ := hk.ext
      have c1 := (D0.out.below hb).c1
      exact vc hK (by go_simp) (fun w2 h2 => rfl)
    refine po rfl (fun lq aq wq hk hr K hK => ?_) ?_
    · have B5 : ev aq (.tmp 5) = .slice A5 (limbs g).length c5 := hk.base 5 (by kernel_rfl) rfl
      exact vc hK (by go_simp) (fun w2 h2 => rfl)
    refine po rfl (fun lq aq wq hk hr K hK => ?_) ?_
    · have E1 : ev aq (.tmp 23) = .slice Am2 km2 cm2 := hk.dc hr 1 (by kernel_rfl) fun _ _ h => h
      have E2 : ev aq (.tmp 24) = .slice A5 (limbs g).length c5 := hk.dc hr 2 (by kernel_rfl) fun _ _ h => h
      exact yc hK (by go_simp) (ndiv_v wq (SN0.out.num.below hk.ext).lv (Q5.out.below hk.ext).lv SN0.out.short hg0) (fun u w1 hu w2 h2 => (let ⟨u0, u1, e0, h0, h1⟩ := hu; ⟨u0, u1, e0, (h0).grow h2, (h1).grow h2⟩))
    refine po rfl (fun lq aq wq hk hr K hK => ?_) ?_
    · obtain ⟨v3, E3, r3⟩ := hk.dp hr 3 25 (by kernel_rfl)
      have r3 : ∃ u0 u1, v3 = .tuple #[u0, u1, .int .i64 0] ∧ LV wq u0 ((limbs (z.natAbs / g))) ((z.natAbs / g)) ∧ LV wq u1 ((limbs (z.natAbs % g))) ((z.natAbs % g)) := r3
      exact vc hK (by go_simp) (fun w2 h2 => (let ⟨u0, u1, e0, h0, h1⟩ := r3; ⟨u0, u1, e0, (h0).grow h2, (h1).grow h2⟩))
    refine po rfl (fun lq aq wq hk hr K hK => ?_) ?_
    · obtain ⟨v4, E4, r4⟩ := hk.dp hr 4 21 (by kernel_rfl)
      have r4 : ∃ u0 u1, v4 = .tuple #[u0, u1, .int .i64 0] ∧ LV wq u0 ((limbs (z.natAbs / g))) ((z.natAbs / g)) ∧ LV wq u1 ((limbs (z.natAbs % g))) ((z.natAbs % g)) := r4
      obtain ⟨u0, u1, rfl, h0, h1⟩ := r4
      exact vc hK (by go_simp) (fun w2 h2 => (h0).grow h2)
    refine po rfl (fun lq aq wq hk hr K hK => ?_) ?_
    · obtain ⟨v4, E4, r4⟩ := hk.dp hr 4 21 (by kernel_rfl)
      have r4 : ∃ u0 u1, v4 = .tuple #[u0, u1, .int .i64 0] ∧ LV wq u0 ((limbs (z.natAbs / g))) ((z.natAbs / g)) ∧ LV wq u1 ((limbs (z.natAbs % g))) ((z.natAbs % g)) := r4
      obtain ⟨u0, u1, rfl, h0, h1⟩ := r4
      exact vc hK (by go_simp) (fun w2 h2 => (h1).grow h2)
    refine po rfl (fun lq aq wq hk hr K hK => ?_) ?_
    · obtain ⟨v4, E4, r4⟩ := hk.dp hr 4 21 (by kernel_rfl)
      have r4 : ∃ u0 u1, v4 = .tuple #[u0, u1, .int .i64 0] ∧ LV wq u0 ((limbs (z.natAbs / g))) ((z.natAbs / g)) ∧ LV wq u1 ((limbs (z.natAbs % g))) ((z.natAbs % g)) := r4
      obtain ⟨u0, u1, rfl, h0, h1⟩ := r4
      exact vc hK (by go_simp) (fun w2 h2 => rfl)
    exact AllOps.nil
  intro V x5 hG hV hap
  have r5 : LV x5 (V 5) ((limbs (z.natAbs / g))) ((z.natAbs / g)) := hV 5 (by decide)
  have r6 : LV x5 (V 6) ((limbs (z.natAbs % g))) ((z.natAbs % g)) := hV 6 (by decide)
  have r7 : (V 7) = .int .i64 0 := hV 7 (by decide)
  clear hV hap
  simp only [List.take_succ_cons, List.take_zero, List.drop_succ_cons, List.drop_zero, putAll, Act.put, List.setIfInBounds_toArray, List.set_cons_zero, List.set_cons_succ]
  have hb := (show Below _ _ _ from hG)
  replace D0 := Lib.hid (D0.out.below hb)
  replace SN0 := Lib.hid (SN0.out.below hb)
  replace DR := Lib.hid (DR.out.below hb)
  replace Q9 := Lib.hid (Q9.out.below hb)
  replace Q5 := Lib.hid (Q5.out.below hb)
  replace HB := Lib.hid (HB.out.trans (Below.mono hb HB.out.size))
  clear hb hG
  rw [r7]
  clear r7
  obtain ⟨A6, c6, e6, q6⟩ := r5
  simp only [e6]
  rw [e6] at q6
  have Q6 := Lib.hid q6
  clear e6 q6
  obtain ⟨A7, c7, e7, q7⟩ := r6
  simp only [e7]
  rw [e7] at q7
  have Q7 := Lib.hid q7
  clear e7 q7
  go_upto_region 4 with fail
  refine wp_region_calm 7 [] ([fun vq _ => vq = .slice A9 l.length c9,
      fun vq _ => vq = .slice A5 (limbs g).length c5,
      fun vq wq => ∃ u0 u1, vq = .tuple #[u0, u1, .int .i64 0] ∧ LV wq u0 ((limbs (a / g))) ((a / g)) ∧ LV wq u1 ((limbs (a % g))) ((a % g)),
      fun vq wq => ∃ u0 u1, vq = .tuple #[u0, u1, .int .i64 0] ∧ LV wq u0 ((limbs (a / g))) ((a / g)) ∧ LV wq u1 ((limbs (a % g))) ((a % g)),
      fun vq wq => LV wq vq ((limbs (a / g))) ((a / g)),
      fun vq wq => LV wq vq ((limbs (a % g))) ((a % g)),
      fun vq _ => vq = .int .i64 0]) (by kernel_rfl) (by decide) ?_ ?_ ?_
  · intro j hj; cases hj
  · refine po rfl (fun lq aq wq hk hr K hK => ?_) ?_
    · have B1 : ev aq (.tmp 1) = .slice A9 l.length c9 := hk.base 1 (by kernel_rfl) rfl
      exact vc hK (by go_simp) (fun w2 h2 => rfl)
    refine po rfl (fun lq aq wq hk hr K hK => ?_) ?_
    · have B5 : ev aq (.tmp 5) = .slice A5 (limbs g).length c5 := hk.base 5 (by kernel_rfl) rfl
      exact vc hK (by go_simp) (fun w2 h2 => rfl)
    refine po rfl (fun lq aq wq hk hr K hK => ?_) ?_
    · have E0 : ev aq (.tmp 30) = .slice A9 l.length c9 := hk.dc hr 0 (by kernel_rfl) fun _ _ h => h
      have E1 : ev aq (.tmp 31) = .slice A5 (limbs g).length c5 := hk.dc hr 1 (by kernel_rfl) fun _ _ h => h
      exact yc hK (by go_simp) (ndiv_v wq (Q9.out.below hk.ext).lv (Q5.out.below hk.ext).lv hsa hg0) (fun u w1 hu w2 h2 => (let ⟨u0, u1, e0, h0, h1⟩ := hu; ⟨u0, u1, e0, (h0).grow h2, (h1).grow h2⟩))
    refine po rfl (fun lq aq wq hk hr K hK => ?_) ?_
    · obtain ⟨v2, E2, r2⟩ := hk.dp hr 2 32 (by kernel_rfl)
      have r2 : ∃ u0 u1, v2 = .tuple #[u0, u1, .int .i64 0] ∧ LV wq u0 ((limbs (a / g))) ((a / g)) ∧ LV wq u1 ((limbs (a % g))) ((a % g)) := r2
      exact vc hK (by go_simp) (fun w2 h2 => (let ⟨u0, u1, e0, h0, h1⟩ := r2; ⟨u0, u1, e0, (h0).grow h2, (h1).grow h2⟩))
    refine po rfl (fun lq aq wq hk hr K hK => ?_) ?_
    · obtain ⟨v3, E3, r3⟩ := hk.dp hr 3 29 (by kernel_rfl)
      have r3 : ∃ u0 u1, v3 = .tuple #[u0, u1, .int .i64 0] ∧ LV wq u0 ((limbs (a / g))) ((a / g)) ∧ LV wq u1 ((limbs (a % g))) ((a % g)) := r3
      obtain ⟨u0, u1, rfl, h0, h1⟩ := r3
      exact vc hK (by go_simp) (fun w2 h2 => (h0).grow h2)
    refine po rfl (fun lq aq wq hk hr K hK => ?_) ?_
    · obtain ⟨v3, E3, r3⟩ := hk.dp hr 3 29 (by kernel_rfl)
      have r3 : ∃ u0 u1, v3 = .tuple #[u0, u1, .int .i64 0] ∧ LV wq u0 ((limbs (a / g))) ((a / g)) ∧ LV wq u1 ((limbs (a % g))) ((a % g)) := r3
      obtain ⟨u0, u1, rfl, h0, h1⟩ := r3
      exact vc hK (by go_simp) (fun w2 h2 => (h1).grow h2)
    refine po rfl (fun lq aq wq hk hr K hK => ?_) ?_
    · obtain ⟨v3, E3, r3⟩ := hk.dp hr 3 29 (by kernel_rfl)
      have r3 : ∃ u0 u1, v3 = .tuple #[u0, u1, .int .i64 0] ∧ LV wq u0 ((limbs (a / g))) ((a / g)) ∧ LV wq u1 ((limbs (a % g))) ((a % g)) := r3
      obtain ⟨u0, u1, rfl, h0, h1⟩ := r3
      exact vc hK (by go_simp) (fun w2 h2 => rfl)
    exact AllOps.nil
  intro V x6 hG hV hap
  have r4 : LV x6 (V 4) ((limbs (a / g))) ((a / g)) := hV 4 (by decide)
  have r5 : LV x6 (V 5) ((limbs (a % g))) ((a % g)) := hV 5 (by decide)
  have r6 : (V 6) = .int .i64 0 := hV 6 (by decide)
  clear hV hap
  simp only [List.take_succ_cons, List.take_zero, List.drop_succ_cons, List.drop_zero, putAll, Act.put, List.setIfInBounds_toArray, List.set_cons_zero, List.set_cons_succ]
  have hb := (show Below _ _ _ from hG)
  replace D0 := Lib.hid (D0.out.below hb)
  replace SN0 := Lib.hid (SN0.out.below hb)
  replace DR := Lib.hid (DR.out.below hb)
  replace Q9 := Lib.hid (Q9.out.below hb)
  replace Q5 := Lib.hid (Q5.out.below hb)
  replace Q6 := Lib.hid (Q6.out.below hb)
  replace Q7 := Lib.hid (Q7.out.below hb)
  replace HB := Lib.hid (HB.out.trans (Below.mono hb HB.out.size))
  clear hb hG
  rw [r6]
  clear r6
  obtain ⟨A9, c9, e9, q9⟩ := r4
  simp only [e9]
  rw [e9] at q9
  have Q9 := Lib.hid q9
  clear e9 q9
  obtain ⟨A10, c10, e10, q10⟩ := r5
  simp only [e10]
  rw [e10] at q10
  have Q10 := Lib.hid q10
  clear e10 q10
  go_upto_region 5 with fail
  have hsg : sg (decide (z < 0)) (z.natAbs / g) = (mkRat z a).num := hup
  have hsn := SN0.out.sign
  replace hsg := Lib.hid (show sg nm2 (z.natAbs / g) = (mkRat z a).num by rw [hsn]; exact hup)
  clear hsn
  refine wp_region_calm 6 [] ([fun vq _ => vq = .pointer (some ⟨w.heap.size, 0, none⟩),
      fun vq _ => vq = .bool nm2,
      fun vq _ => vq = .slice A6 (limbs (z.natAbs / g)).length c6,
      fun vq wq => ZV wq vq ((mkRat z a).num),
      fun vq _ => vq = .slice A9 (limbs (a / g)).length c9,
      fun vq wq => RV wq vq ((mkRat z a))]) (by kernel_rfl) (by decide) ?_ ?_ ?_
  · intro j hj; cases hj
  · refine po rfl (fun lq aq wq hk hr K hK => ?_) ?_
    · have B2 : ev aq (.tmp 2) = .pointer (some ⟨w.heap.size, 0, none⟩) := hk.base 2 (by kernel_rfl) rfl
      exact vc hK (by go_simp) (fun w2 h2 => rfl)
    refine po rfl (fun lq aq wq hk hr K hK => ?_) ?_
    · have E0 : ev aq (.tmp 36) = .pointer (some ⟨w.heap.size, 0, none⟩) := hk.dc hr 0 (by kernel_rfl) fun _ _ h => h
      have hb : Below _ _ _ := hk.ext
      have c0 := (D0.out.below hb).c0
      exact vc hK (by go_simp) (fun w2 h2 => rfl)
    refine po rfl (fun lq aq wq hk hr K hK => ?_) ?_
    · have B6 : ev aq (.tmp 6) = .slice A6 (limbs (z.natAbs / g)).length c6 := hk.base 6 (by kernel_rfl) rfl
      exact vc hK (by go_simp) (fun w2 h2 => rfl)
    refine po rfl (fun lq aq wq hk hr K hK => ?_) ?_
    · have E1 : ev aq (.tmp 37) = .bool nm2 := hk.dc hr 1 (by kernel_rfl) fun _ _ h => h
      have E2 : ev aq (.tmp 38) = .slice A6 (limbs (z.natAbs / g)).length c6 := hk.dc hr 2 (by kernel_rfl) fun _ _ h => h
      exact yc hK (by go_simp) (of_v wq nm2 (Q6.out.below hk.ext).lv hsg.out hks.1) (fun u w1 hu w2 h2 => (hu).grow h2)
    refine po rfl (fun lq aq wq hk hr K hK => ?_) ?_
    · have B9 : ev aq (.tmp 9) = .slice A9 (limbs (a / g)).length c9 := hk.base 9 (by kernel_rfl) rfl
      exact vc hK (by go_simp) (fun w2 h2 => rfl)
    refine po rfl (fun lq aq wq hk hr K hK => ?_) ?_
    · obtain ⟨v3, E3, r3⟩ := hk.dp hr 3 39 (by kernel_rfl)
      have r3 : ZV wq v3 ((mkRat z a).num) := r3
      have E4 : ev aq (.tmp 40) = .slice A9 (limbs (a / g)).length c9 := hk.dc hr 4 (by kernel_rfl) fun _ _ h => h
      obtain ⟨n3, A3, k3, c3, rfl, s3⟩ := r3
      have hsl : ∃ B j e, .slice A9 (limbs (a / g)).length c9 = Value.slice B j e := ⟨_, _, _, rfl⟩
      have hnd := Q9.out.below hk.ext
      exact vc hK (op_rat 39 40 E3 E4 hsl) (fun w2 h2 => RV.grow ⟨_, _, _, _, _, _, _, rfl, s3, (Num.to hnd hdn), hks.2⟩ h2)
    exact AllOps.nil
  intro V x7 hG hV hap
  have r5 : RV x7 (V 5) ((mkRat z a)) := hV 5 (by decide)
  clear hV hap
  simp only [List.take_succ_cons, List.take_zero, List.drop_succ_cons, List.drop_zero, putAll, Act.put, List.setIfInBounds_toArray, List.set_cons_zero, List.set_cons_succ]
  have hb := (show Below _ _ _ from hG)
  obtain ⟨nR, AR, kR, cR, BR, jR, dR, y9, eR, ey, hQ, HQ, c0, c1, c2⟩ := ret3 r5 (DR.out.below hb) (HB.out.trans (Below.mono hb HB.out.size)) (by omega)
  simp only [eR]
  refine wpList_of_skip rfl (op_store3 4 41 _ rfl rfl (DR.out.below hb)) ?_
  rw [ey]
  clear eR ey hb hG HB DR
  go_wp2_with fail
  refine bodyPost_ret (v := .agg #[.bool nR, .slice AR kR cR, .slice BR jR dR]) (by simp [results, Tryz.results65, go_sem, c0, c1, c2]) rfl ⟨_, rfl, hQ, HQ⟩
end Go.Proofs.YtbippecchpaleaaGreatDoor
/- rat.made, Int, From, Neg, Of, Mul, Div: what each returns. -/
namespace Go.Proofs.YtbippecchpaleaaGreatDoor
open Go.RowKit Go.Num Go.Kp
attribute [local go_sem] Oper.semAt_some u64_mask ev_const ev_func ev_global
set_option maxHeartbeats 4000000 in
set_option maxRecDepth 100000 in
theorem made_v (w : World) {u : Value} {q : Rat} (h0 : QV w u q) : Calls Tryz.prog 48 #[u] w fun e w' => ∃ r, e = .returned r ∧ RV w' r q ∧ Grows w w' := by
  obtain ⟨n0, A0, k0, c0, B0, j0, d0, rfl, z0, l0, a0, s0, t0, hl0, e0⟩ := h0
  have hk0 : szz z0 ≤ 1000 := s0.size
  go_enter Tryz.func48, Tryz.ntmps48
  go_upto_region 1 with fail
  obtain ⟨x0, ex0, HB, D0, DR⟩ := st_33 w 26 (.bool n0) (.slice A0 k0 c0) (.slice B0 j0 d0) 26 (.bool false) (.slice none 0 0) (.slice none 0 0)
  rw [ex0]
  clear ex0
  replace HB := Lib.hid HB
  replace D0 := Lib.hid D0
  replace DR := Lib.hid DR
  have SN0 := Lib.hid (s0.below HB.out)
  clear s0
  have SD0 := Lib.hid (t0.below HB.out)
  clear t0
  have hsa : sz a0 ≤ 1000 := Nat.le_trans (sz_num SD0.out) hl0
  refine wp_region_calm 3 [] ([fun vq _ => vq = .pointer (some ⟨w.heap.size, 2, none⟩),
      fun vq _ => vq = .slice B0 j0 d0,
      fun vq wq => LV wq vq ((limbs a0)) a0]) (by kernel_rfl) (by decide) ?_ ?_ ?_
  · intro j hj; cases hj
  · refine po rfl (fun lq aq wq hk hr K hK => ?_) ?_
    · have B1 : ev aq (.tmp 1) = .pointer (some ⟨w.heap.size, 0, none⟩) := hk.base 1 (by kernel_rfl) rfl
      exact vc hK (by go_simp) (fun w2 h2 => rfl)
    refine po rfl (fun lq aq wq hk hr K hK => ?_) ?_
    · have E0 : ev aq (.tmp 4) = .pointer (some ⟨w.heap.size, 2, none⟩) := hk.dc hr 0 (by kernel_rfl) fun _ _ h => h
      have hb : Below _ _ _ := hk.ext
      have c2 := (D0.out.below hb).c2
      exact vc hK (by go_simp) (fun w2 h2 => rfl)
    refine po rfl (fun lq aq wq hk hr K hK => ?_) ?_
    · have E1 : ev aq (.tmp 5) = .slice B0 j0 d0 := hk.dc hr 1 (by kernel_rfl) fun _ _ h => h
      exact yc hK (by go_simp) (ntrim_v wq (SD0.out.below hk.ext).lv hsa) (fun u w1 hu w2 h2 => (hu).grow h2)
    exact AllOps.nil
  intro V x1 hG hV hap
  have r2 : LV x1 (V 2) ((limbs a0)) a0 := hV 2 (by decide)
  clear hV hap
  simp only [List.take_succ_cons, List.take_zero, List.drop_succ_cons, List.drop_zero, putAll, Act.put, List.setIfInBounds_toArray, List.set_cons_zero, List.set_cons_succ]
  have hb := (show Below _ _ _ from hG)
  replace D0 := Lib.hid (D0.out.below hb)
  replace SN0 := Lib.hid (SN0.out.below hb)
  replace SD0 := Lib.hid (SD0.out.below hb)
  replace DR := Lib.hid (DR.out.below hb)
  replace HB := Lib.hid (HB.out.trans (Below.mono hb HB.out.size))
  clear hb hG
  obtain ⟨A3, c3, e3, q3⟩ := r2
  simp only [e3]
  rw [e3] at q3
  have Q3 := Lib.hid q3
  clear e3 q3
  rcases Nat.eq_zero_or_pos a0 with ha | ha
  · skip
    have hlen : (limbs a0).length = 0 := by rw [ha, limbs_zero]; rfl
    have q3 := Q3.out
    rw [hlen] at q3 ⊢
    clear Q3 q3
    go_upto_region 2 with fail
    refine wp_region_calm 3 [] ([fun vq _ => vq = .slice A3 0 c3,
        fun vq _ => vq = .int .i64 0,
        fun vq _ => vq = .bool true]) (by kernel_rfl) (by decide) ?_ ?_ ?_
    · intro j hj; cases hj
    · refine po rfl (fun lq aq wq hk hr K hK => ?_) ?_
      · have B3 : ev aq (.tmp 3) = .slice A3 0 c3 := hk.base 3 (by kernel_rfl) rfl
        exact vc hK (by go_simp) (fun w2 h2 => rfl)
      refine po rfl (fun lq aq wq hk hr K hK => ?_) ?_
      · have E0 : ev aq (.tmp 7) = .slice A3 0 c3 := hk.dc hr 0 (by kernel_rfl) fun _ _ h => h
        exact vc hK (by go_simp) (fun w2 h2 => rfl)
      refine po rfl (fun lq aq wq hk hr K hK => ?_) ?_
      · have E1 : ev aq (.tmp 8) = .int .i64 0 := hk.dc hr 1 (by kernel_rfl) fun _ _ h => h
        exact vc hK (by go_simp) (fun w2 h2 => rfl)
      exact AllOps.nil
    intro V x2 hG hV hap
    have r2 : (V 2) = .bool true := hV 2 (by decide)
    clear hV hap
    simp only [List.take_succ_cons, List.take_nil, List.drop_succ_cons, List.drop_nil, putAll, Act.put, List.setIfInBounds_toArray, List.set_cons_zero, List.set_cons_succ]
    have hb := (show Below _ _ _ from hG)
    replace D0 := Lib.hid (D0.out.below hb)
    replace SN0 := Lib.hid (SN0.out.below hb)
    replace SD0 := Lib.hid (SD0.out.below hb)
    replace DR := Lib.hid (DR.out.below hb)
    replace HB := Lib.hid (HB.out.trans (Below.mono hb HB.out.size))
    clear hb hG
    rw [r2]
    clear r2
    go_upto_region 3 with fail
    refine wp_region_calm 1 [] ([fun vq wq => LV wq vq ((limbs 1)) 1]) (by kernel_rfl) (by decide) ?_ ?_ ?_
    · intro j hj; cases hj
    · refine po rfl (fun lq aq wq hk hr K hK => ?_) ?_
      · exact yc hK (by go_simp) (one_v wq) (fun u w1 hu w2 h2 => (hu).grow h2)
      exact AllOps.nil
    intro V x3 hG hV hap
    have r0 : LV x3 (V 0) ((limbs 1)) 1 := hV 0 (by decide)
    clear hV hap
    simp only [List.take_succ_cons, List.take_zero, List.drop_succ_cons, List.drop_zero, putAll, Act.put, List.setIfInBounds_toArray, List.set_cons_zero, List.set_cons_succ]
    have hb := (show Below _ _ _ from hG)
    replace D0 := Lib.hid (D0.out.below hb)
    replace SN0 := Lib.hid (SN0.out.below hb)
    replace SD0 := Lib.hid (SD0.out.below hb)
    replace DR := Lib.hid (DR.out.below hb)
    replace HB := Lib.hid (HB.out.trans (Below.mono hb HB.out.size))
    clear hb hG
    obtain ⟨A4, c4, e4, q4⟩ := r0
    simp only [e4]
    rw [e4] at q4
    have Q4 := Lib.hid q4
    clear e4 q4
    go_upto_region 4 with fail
    refine wp_region_calm 4 [] ([fun vq _ => vq = .pointer (some ⟨w.heap.size, 0, none⟩),
        fun vq wq => WV wq vq z0,
        fun vq _ => vq = .slice A4 (limbs 1).length c4,
        fun vq wq => RV wq vq ((mkRat z0 1))]) (by kernel_rfl) (by decide) ?_ ?_ ?_
    · intro j hj; cases hj
    · refine po rfl (fun lq aq wq hk hr K hK => ?_) ?_
      · have B1 : ev aq (.tmp 1) = .pointer (some ⟨w.heap.size, 0, none⟩) := hk.base 1 (by kernel_rfl) rfl
        exact vc hK (by go_simp) (fun w2 h2 => rfl)
      refine po rfl (fun lq aq wq hk hr K hK => ?_) ?_
      · have E0 : ev aq (.tmp 11) = .pointer (some ⟨w.heap.size, 0, none⟩) := hk.dc hr 0 (by kernel_rfl) fun _ _ h => h
        have hb : Below _ _ _ := hk.ext
        exact vc hK (op_loadN 11 _ E0 (D0.out.below hb)) (fun w2 h2 => ⟨_, _, _, _, rfl, (SN0.out.below hb).below h2⟩)
      refine po rfl (fun lq aq wq hk hr K hK => ?_) ?_
      · have B3 : ev aq (.tmp 3) = .slice A4 (limbs 1).length c4 := hk.base 3 (by kernel_rfl) rfl
        exact vc hK (by go_simp) (fun w2 h2 => rfl)
      refine po rfl (fun lq aq wq hk hr K hK => ?_) ?_
      · obtain ⟨v1, E1, r1⟩ := hk.dp hr 1 12 (by kernel_rfl)
        have r1 : WV wq v1 z0 := r1
        have E2 : ev aq (.tmp 13) = .slice A4 (limbs 1).length c4 := hk.dc hr 2 (by kernel_rfl) fun _ _ h => h
        exact yc hK (by go_simp) (reduced_v wq r1 (Q4.out.below hk.ext).lv (show (limbs 1).length ≤ 1000 by rw [limbs_pos (by decide)]; simp [limbs_zero]) (by decide)) (fun u w1 hu w2 h2 => (hu).grow h2)
      exact AllOps.nil
    intro V x4 hG hV hap
    have r3 : RV x4 (V 3) ((mkRat z0 1)) := hV 3 (by decide)
    clear hV hap
    simp only [List.take_succ_cons, List.take_zero, List.drop_succ_cons, List.drop_zero, putAll, Act.put, List.setIfInBounds_toArray, List.set_cons_zero, List.set_cons_succ]
    have hb := (show Below _ _ _ from hG)
    obtain ⟨nR, AR, kR, cR, BR, jR, dR, y9, eR, ey, hQ, HQ, c0, c1, c2⟩ := ret3 r3 (DR.out.below hb) (HB.out.trans (Below.mono hb HB.out.size)) (by omega)
    simp only [eR]
    refine wpList_of_skip rfl (op_store3 2 14 _ rfl rfl (DR.out.below hb)) ?_
    rw [ey]
    clear eR ey hb hG HB DR
    go_wp2_with fail
    refine bodyPost_ret (v := .agg #[.bool nR, .slice AR kR cR, .slice BR jR dR]) (by simp [results, Tryz.results48, go_sem, c0, c1, c2]) rfl ⟨_, rfl, (RV.to hQ (by rw [e0, ha]; rfl)), HQ⟩
  · skip
    obtain ⟨m, hlen, hm9⟩ : ∃ m, (limbs a0).length = m + 1 ∧ m < 1000 := by
      obtain ⟨m, hlen⟩ : ∃ m, (limbs a0).length = m + 1 := ⟨(limbs a0).length - 1, by rw [limbs_pos (by omega)]; simp⟩
      exact ⟨m, hlen, by unfold sz at hsa; omega⟩
    have q3 := Q3.out
    rw [hlen] at q3 ⊢
    clear Q3
    have Q3 := Lib.hid q3
    clear q3
    go_upto_region 2 with fail
    refine wp_region_calm 3 [] ([fun vq _ => vq = .slice A3 (m + 1) c3,
        fun vq _ => vq = .int .i64 (m + 1),
        fun vq _ => vq = .bool false]) (by kernel_rfl) (by decide) ?_ ?_ ?_
    · intro j hj; cases hj
    · refine po rfl (fun lq aq wq hk hr K hK => ?_) ?_
      · have B3 : ev aq (.tmp 3) = .slice A3 (m + 1) c3 := hk.base 3 (by kernel_rfl) rfl
        exact vc hK (by go_simp) (fun w2 h2 => rfl)
      refine po rfl (fun lq aq wq hk hr K hK => ?_) ?_
      · have E0 : ev aq (.tmp 7) = .slice A3 (m + 1) c3 := hk.dc hr 0 (by kernel_rfl) fun _ _ h => h
        exact vc hK (by go_simp) (fun w2 h2 => rfl)
      refine po rfl (fun lq aq wq hk hr K hK => ?_) ?_
      · have E1 : ev aq (.tmp 8) = .int .i64 (m + 1) := hk.dc hr 1 (by kernel_rfl) fun _ _ h => h
        exact vc hK (by go_simp; omega) (fun w2 h2 => rfl)
      exact AllOps.nil
    intro V x2 hG hV hap
    have r2 : (V 2) = .bool false := hV 2 (by decide)
    clear hV hap
    simp only [List.take_succ_cons, List.take_nil, List.drop_succ_cons, List.drop_nil, putAll, Act.put, List.setIfInBounds_toArray, List.set_cons_zero, List.set_cons_succ]
    have hb := (show Below _ _ _ from hG)
    replace D0 := Lib.hid (D0.out.below hb)
    replace SN0 := Lib.hid (SN0.out.below hb)
    replace SD0 := Lib.hid (SD0.out.below hb)
    replace DR := Lib.hid (DR.out.below hb)
    replace Q3 := Lib.hid (Q3.out.below hb)
    replace HB := Lib.hid (HB.out.trans (Below.mono hb HB.out.size))
    clear hb hG
    rw [r2]
    clear r2
    go_upto_region 4 with fail
    refine wp_region_calm 4 [] ([fun vq _ => vq = .pointer (some ⟨w.heap.size, 0, none⟩),
        fun vq wq => WV wq vq z0,
        fun vq _ => vq = .slice A3 (m + 1) c3,
        fun vq wq => RV wq vq ((mkRat z0 a0))]) (by kernel_rfl) (by decide) ?_ ?_ ?_
    · intro j hj; cases hj
    · refine po rfl (fun lq aq wq hk hr K hK => ?_) ?_
      · have B1 : ev aq (.tmp 1) = .pointer (some ⟨w.heap.size, 0, none⟩) := hk.base 1 (by kernel_rfl) rfl
        exact vc hK (by go_simp) (fun w2 h2 => rfl)
      refine po rfl (fun lq aq wq hk hr K hK => ?_) ?_
      · have E0 : ev aq (.tmp 11) = .pointer (some ⟨w.heap.size, 0, none⟩) := hk.dc hr 0 (by kernel_rfl) fun _ _ h => h
        have hb : Below _ _ _ := hk.ext
        exact vc hK (op_loadN 11 _ E0 (D0.out.below hb)) (fun w2 h2 => ⟨_, _, _, _, rfl, (SN0.out.below hb).below h2⟩)
      refine po rfl (fun lq aq wq hk hr K hK => ?_) ?_
      · have B3 : ev aq (.tmp 3) = .slice A3 (m + 1) c3 := hk.base 3 (by kernel_rfl) rfl
        exact vc hK (by go_simp) (fun w2 h2 => rfl)
      refine po rfl (fun lq aq wq hk hr K hK => ?_) ?_
      · obtain ⟨v1, E1, r1⟩ := hk.dp hr 1 12 (by kernel_rfl)
        have r1 : WV wq v1 z0 := r1
        have E2 : ev aq (.tmp 13) = .slice A3 (m + 1) c3 := hk.dc hr 2 (by kernel_rfl) fun _ _ h => h
        exact yc hK (by go_simp) (reduced_v wq r1 (Q3.out.below hk.ext).lv hsa ha) (fun u w1 hu w2 h2 => (hu).grow h2)
      exact AllOps.nil
    intro V x3 hG hV hap
    have r3 : RV x3 (V 3) ((mkRat z0 a0)) := hV 3 (by decide)
    clear hV hap
    simp only [List.take_succ_cons, List.take_zero, List.drop_succ_cons, List.drop_zero, putAll, Act.put, List.setIfInBounds_toArray, List.set_cons_zero, List.set_cons_succ]
    have hb := (show Below _ _ _ from hG)
    obtain ⟨nR, AR, kR, cR, BR, jR, dR, y9, eR, ey, hQ, HQ, c0, c1, c2⟩ := ret3 r3 (DR.out.below hb) (HB.out.trans (Below.mono hb HB.out.size)) (by omega)
    simp only [eR]
    refine wpList_of_skip rfl (op_store3 2 14 _ rfl rfl (DR.out.below hb)) ?_
    rw [ey]
    clear eR ey hb hG HB DR
    go_wp2_with fail
    refine bodyPost_ret (v := .agg #[.bool nR, .slice AR kR cR, .slice BR jR dR]) (by simp [results, Tryz.results48, go_sem, c0, c1, c2]) rfl ⟨_, rfl, (RV.to hQ (by rw [e0, dn_of_pos ha])), HQ⟩
set_option maxHeartbeats 4000000 in
set_option maxRecDepth 100000 in
theorem int_v (w : World) {u : Value} {z : Int} (h0 : WV w u z) : Calls Tryz.prog 45 #[u] w fun e w' => ∃ r, e = .returned r ∧ RV w' r (z : Rat) ∧ Grows w w' := by
  obtain ⟨n0, A0, k0, c0, rfl, s0⟩ := h0
  have hk0 : szz z ≤ 1000 := s0.size
  go_enter Tryz.func45, Tryz.ntmps45
  go_upto_region 1 with fail
  obtain ⟨x0, ex0, HB, D0, DR⟩ := st_23 w 24 (.bool n0) (.slice A0 k0 c0) 26 (.bool false) (.slice none 0 0) (.slice none 0 0)
  rw [ex0]
  clear ex0
  replace HB := Lib.hid HB
  replace D0 := Lib.hid D0
  replace DR := Lib.hid DR
  have SN0 := Lib.hid (s0.below HB.out)
  clear s0
  refine wp_region_going 3 [] ([fun vq wq => WV wq vq z,
      fun vq wq => LV wq vq ((limbs 1)) 1,
      fun vq wq => RV wq vq ((mkRat z 1))]) (by kernel_rfl) (by kernel_rfl) (by decide) (by kernel_rfl) (by kernel_rfl) ?_ ?_ ?_
  · intro j hj; cases hj
  · refine po rfl (fun lq aq wq hk hr K hK => ?_) ?_
    · have B1 : ev aq (.tmp 1) = .pointer (some ⟨w.heap.size, 0, none⟩) := hk.base 1 (by kernel_rfl) rfl
      have hb := grows_of hk.ext
      exact vc hK (op_load 1 _ B1 (D0.out.below hb)) (fun w2 h2 => ⟨_, _, _, _, rfl, (SN0.out.below hb).below h2⟩)
    refine po rfl (fun lq aq wq hk hr K hK => ?_) ?_
    · exact yc hK (by go_simp) (one_v wq) (fun u w1 hu w2 h2 => (hu).grow h2)
    refine po rfl (fun lq aq wq hk hr K hK => ?_) ?_
    · obtain ⟨v0, E0, r0⟩ := hk.dp hr 0 3 (by kernel_rfl)
      have r0 : WV wq v0 z := r0
      obtain ⟨v1, E1, r1⟩ := hk.dp hr 1 4 (by kernel_rfl)
      have r1 : LV wq v1 ((limbs 1)) 1 := r1
      exact yc hK (by go_simp) (reduced_v wq r0 r1 (by rw [limbs_pos (by decide)]; simp [limbs_zero]) (by decide)) (fun u w1 hu w2 h2 => (hu).grow h2)
    exact AllOps.nil
  intro V x1 hG hV hap
  have r2 : RV x1 (V 2) ((mkRat z 1)) := hV 2 (by decide)
  clear hV hap
  simp only [List.take_succ_cons, List.take_zero, List.drop_succ_cons, List.drop_zero, putAll, Act.put, List.setIfInBounds_toArray, List.set_cons_zero, List.set_cons_succ]
  have hb := grows_of hG
  obtain ⟨nR, AR, kR, cR, BR, jR, dR, y9, eR, ey, hQ, HQ, c0, c1, c2⟩ := ret3 r2 (DR.out.below hb) (HB.out.trans (Below.mono hb HB.out.size)) (by omega)
  simp only [eR]
  refine wpList_of_skip rfl (op_store3 2 5 _ rfl rfl (DR.out.below hb)) ?_
  rw [ey]
  clear eR ey hb hG HB DR
  go_wp2_with fail
  refine bodyPost_ret (v := .agg #[.bool nR, .slice AR kR cR, .slice BR jR dR]) (by simp [results, Tryz.results45, go_sem, c0, c1, c2]) rfl ⟨_, rfl, (RV.to hQ (Rat.mkRat_one z)), HQ⟩
set_option maxHeartbeats 4000000 in
set_option maxRecDepth 100000 in
theorem rfrom_v (w : World) (z : Int) (h1 : -9223372036854775808 ≤ z) (h2 : z ≤ 9223372036854775807) : Calls Tryz.prog 40 #[.int .i64 z] w fun e w' => ∃ r, e = .returned r ∧ RV w' r (z : Rat) ∧ Grows w w' := by
  go_enter Tryz.func40, Tryz.ntmps40
  go_upto_region 1 with fail
  obtain ⟨x0, ex0, HB, DR⟩ := st_3 w 26 (.bool false) (.slice none 0 0) (.slice none 0 0)
  rw [ex0]
  clear ex0
  replace HB := Lib.hid HB
  replace DR := Lib.hid DR
  refine wp_region_calm 3 [] ([fun vq _ => vq = .int .i64 z,
      fun vq wq => ZV wq vq z,
      fun vq wq => RV wq vq ((z : Rat))]) (by kernel_rfl) (by decide) ?_ ?_ ?_
  · intro j hj; cases hj
  · refine po rfl (fun lq aq wq hk hr K hK => ?_) ?_
    · have B0 : ev aq (.tmp 0) = .int .i64 z := hk.base 0 (by kernel_rfl) rfl
      exact vc hK (by go_simp) (fun w2 h2 => rfl)
    refine po rfl (fun lq aq wq hk hr K hK => ?_) ?_
    · have E0 : ev aq (.tmp 3) = .int .i64 z := hk.dc hr 0 (by kernel_rfl) fun _ _ h => h
      exact yc hK (by go_simp) (from_v wq z h1 h2) (fun u w1 hu w2 h2 => (hu).grow h2)
    refine po rfl (fun lq aq wq hk hr K hK => ?_) ?_
    · obtain ⟨v1, E1, r1⟩ := hk.dp hr 1 4 (by kernel_rfl)
      have r1 : ZV wq v1 z := r1
      exact yc hK (by go_simp) (int_v wq (r1).wv) (fun u w1 hu w2 h2 => (hu).grow h2)
    exact AllOps.nil
  intro V x1 hG hV hap
  have r2 : RV x1 (V 2) ((z : Rat)) := hV 2 (by decide)
  clear hV hap
  simp only [List.take_succ_cons, List.take_zero, List.drop_succ_cons, List.drop_zero, putAll, Act.put, List.setIfInBounds_toArray, List.set_cons_zero, List.set_cons_succ]
  have hb := (show Below _ _ _ from hG)
  obtain ⟨nR, AR, kR, cR, BR, jR, dR, y9, eR, ey, hQ, HQ, c0, c1, c2⟩ := ret3 r2 (DR.out.below hb) (HB.out.trans (Below.mono hb HB.out.size)) (by omega)
  simp only [eR]
  refine wpList_of_skip rfl (op_store3 2 5 _ rfl rfl (DR.out.below hb)) ?_
  rw [ey]
  clear eR ey hb hG HB DR
  go_wp2_with fail
  refine bodyPost_ret (v := .agg #[.bool nR, .slice AR kR cR, .slice BR jR dR]) (by simp [results, Tryz.results40, go_sem, c0, c1, c2]) rfl ⟨_, rfl, hQ, HQ⟩
set_option maxHeartbeats 4000000 in
set_option maxRecDepth 100000 in
theorem neg1_v (w : World) {u : Value} {q : Rat} (h0 : RV w u q) : Calls Tryz.prog 60 #[u] w fun e w' => ∃ r, e = .returned r ∧ RV w' r (-q) ∧ Grows w w' := by
  obtain ⟨n0, A0, k0, c0, B0, j0, d0, rfl, s0, t0, hd0⟩ := h0
  go_enter Tryz.func60, Tryz.ntmps60
  go_upto_region 1 with fail
  obtain ⟨x0, ex0, HB, D0, DR⟩ := st_33 w 26 (.bool n0) (.slice A0 k0 c0) (.slice B0 j0 d0) 26 (.bool false) (.slice none 0 0) (.slice none 0 0)
  rw [ex0]
  clear ex0
  replace HB := Lib.hid HB
  replace D0 := Lib.hid D0
  replace DR := Lib.hid DR
  have SN0 := Lib.hid (s0.below HB.out)
  clear s0
  have SD0 := Lib.hid (t0.below HB.out)
  clear t0
  have hneg : szz (-q.num) ≤ 1000 := szz_neg SN0.out.short
  refine wp_region_going 6 [] ([fun vq _ => vq = .pointer (some ⟨w.heap.size, 0, none⟩),
      fun vq wq => ZV wq vq q.num,
      fun vq wq => ZV wq vq ((-q).num),
      fun vq _ => vq = .pointer (some ⟨w.heap.size, 2, none⟩),
      fun vq _ => vq = .slice B0 j0 d0,
      fun vq wq => RV wq vq ((-q))]) (by kernel_rfl) (by kernel_rfl) (by decide) (by kernel_rfl) (by kernel_rfl) ?_ ?_ ?_
  · intro j hj; cases hj
  · refine po rfl (fun lq aq wq hk hr K hK => ?_) ?_
    · have B1 : ev aq (.tmp 1) = .pointer (some ⟨w.heap.size, 0, none⟩) := hk.base 1 (by kernel_rfl) rfl
      exact vc hK (by go_simp) (fun w2 h2 => rfl)
    refine po rfl (fun lq aq wq hk hr K hK => ?_) ?_
    · have E0 : ev aq (.tmp 3) = .pointer (some ⟨w.heap.size, 0, none⟩) := hk.dc hr 0 (by kernel_rfl) fun _ _ h => h
      have hb := grows_of hk.ext
      exact vc hK (op_loadN 3 _ E0 (D0.out.below hb)) (fun w2 h2 => ⟨_, _, _, _, rfl, (SN0.out.below hb).below h2⟩)
    refine po rfl (fun lq aq wq hk hr K hK => ?_) ?_
    · obtain ⟨v1, E1, r1⟩ := hk.dp hr 1 4 (by kernel_rfl)
      have r1 : ZV wq v1 q.num := r1
      refine wp_of_call (f := 61) (vs := #[v1]) (by go_simp) ((by have h := neg_v wq (r1).wv hneg; rwa [← Rat.neg_num] at h)) ?_
      rintro e w1 ⟨u, rfl, hu, hb⟩
      exact ⟨u, rfl, hK.out _ _ hb (fun w2 h2 => (hu).grow h2) (fun h => absurd h (by decide))⟩
    refine po rfl (fun lq aq wq hk hr K hK => ?_) ?_
    · have B1 : ev aq (.tmp 1) = .pointer (some ⟨w.heap.size, 0, none⟩) := hk.base 1 (by kernel_rfl) rfl
      exact vc hK (by go_simp) (fun w2 h2 => rfl)
    refine po rfl (fun lq aq wq hk hr K hK => ?_) ?_
    · have E3 : ev aq (.tmp 6) = .pointer (some ⟨w.heap.size, 2, none⟩) := hk.dc hr 3 (by kernel_rfl) fun _ _ h => h
      have hb := grows_of hk.ext
      have c2 := (D0.out.below hb).c2
      exact vc hK (by go_simp) (fun w2 h2 => rfl)
    refine po rfl (fun lq aq wq hk hr K hK => ?_) ?_
    · obtain ⟨v2, E2, r2⟩ := hk.dp hr 2 5 (by kernel_rfl)
      have r2 : ZV wq v2 ((-q).num) := r2
      have E4 : ev aq (.tmp 7) = .slice B0 j0 d0 := hk.dc hr 4 (by kernel_rfl) fun _ _ h => h
      obtain ⟨n2, A2, k2, c2, rfl, s2⟩ := r2
      have hsl : ∃ B j e, .slice B0 j0 d0 = Value.slice B j e := ⟨_, _, _, rfl⟩
      have hnd := SD0.out.below (grows_of hk.ext)
      exact vc hK (op_rat 5 7 E2 E4 hsl) (fun w2 h2 => RV.grow ⟨_, _, _, _, _, _, _, rfl, s2, (Num.to hnd (Rat.neg_den q).symm), (show sz (-q).den ≤ 1000 by rw [Rat.neg_den]; exact hd0)⟩ h2)
    exact AllOps.nil
  intro V x1 hG hV hap
  have r2 : ZV x1 (V 2) ((-q).num) := hV 2 (by decide)
  have r5 : RV x1 (V 5) ((-q)) := hV 5 (by decide)
  clear hV hap
  simp only [List.take_succ_cons, List.take_zero, List.drop_succ_cons, List.drop_zero, putAll, Act.put, List.setIfInBounds_toArray, List.set_cons_zero, List.set_cons_succ]
  have hb := grows_of hG
  obtain ⟨nR, AR, kR, cR, BR, jR, dR, y9, eR, ey, hQ, HQ, c0, c1, c2⟩ := ret3 r5 (DR.out.below hb) (HB.out.trans (Below.mono hb HB.out.size)) (by omega)
  simp only [eR]
  refine wpList_of_skip rfl (op_store3 2 8 _ rfl rfl (DR.out.below hb)) ?_
  rw [ey]
  clear eR ey hb hG HB DR
  go_wp2_with fail
  refine bodyPost_ret (v := .agg #[.bool nR, .slice AR kR cR, .slice BR jR dR]) (by simp [results, Tryz.results60, go_sem, c0, c1, c2]) rfl ⟨_, rfl, hQ, HQ⟩
end Go.Proofs.YtbippecchpaleaaGreatDoor
/- rat.with, Neg: what each returns. -/
namespace Go.Num
open Go Go.RowKit Go.Kp
theorem run_callFunc_go {P : Program} {f : FuncId} {fn : Func} (hf : P.funcs[f]? = some fn) (hname : (fn.name == "runtime.NumGoroutine") = false) (hb : fn.body.isNone = false) (vs : Array Value) (w : World) : (callFunc f vs).run P w = .ok (.enter f vs) w := by
  have h1 : ¬ fn.name = "runtime.NumGoroutine" := by simpa using hname
  have h2 : ¬ fn.body = none := fun e => by rw [e] at hb; simp at hb
  simp [callFunc, hf, h1, h2, go_sem]
end Go.Num
namespace Go.Proofs.YtbippecchpaleaaGreatDoor
open Go.RowKit Go.Num Go.Kp
attribute [local go_sem] Oper.semAt_some u64_mask ev_const ev_func ev_global
set_option maxHeartbeats 4000000 in
set_option maxRecDepth 100000 in
theorem withR_v (w : World) {u : Value} {q : Rat} (Q : Rat) (f : FuncId) (caps : Array Value) (h0 : QV w u q) (hf : ∀ (vs : Array Value) (w1 : World), (callFunc f vs).run Tryz.prog w1 = .ok (.enter f vs) w1) (hdo : ∀ (w1 : World) (u1 : Value), Grows w w1 → RV w1 u1 q → Calls Tryz.prog f (#[u1] ++ caps) w1 fun e w' => ∃ r, e = .returned r ∧ RV w' r Q ∧ Grows w1 w') : Calls Tryz.prog 59 #[u, .func (.func f) #[] caps] w fun e w' => ∃ r, e = .returned r ∧ RV w' r Q ∧ Grows w w' := by
  obtain ⟨n0, A0, k0, c0, B0, j0, d0, rfl, z0, l0, a0, s0, t0, hl0, e0⟩ := h0
  have hk0 : szz z0 ≤ 1000 := s0.size
  go_enter Tryz.func59, Tryz.ntmps59
  go_upto_region 1 with fail
  obtain ⟨x0, ex0, HB, D0, DR⟩ := st_33 w 26 (.bool n0) (.slice A0 k0 c0) (.slice B0 j0 d0) 26 (.bool false) (.slice none 0 0) (.slice none 0 0)
  rw [ex0]
  clear ex0
  replace HB := Lib.hid HB
  replace D0 := Lib.hid D0
  replace DR := Lib.hid DR
  have SN0 := Lib.hid (s0.below HB.out)
  clear s0
  have SD0 := Lib.hid (t0.below HB.out)
  clear t0
  refine wp_region_calm 4 [] ([fun vq _ => vq = .func (.func f) #[] caps,
      fun vq wq => QV wq vq q,
      fun vq wq => RV wq vq q,
      fun vq wq => RV wq vq Q]) (by kernel_rfl) (by decide) ?_ ?_ ?_
  · intro j hj; cases hj
  · refine po rfl (fun lq aq wq hk hr K hK => ?_) ?_
    · have B1 : ev aq (.tmp 1) = .func (.func f) #[] caps := hk.base 1 (by kernel_rfl) rfl
      exact vc hK (by go_simp) (fun w2 h2 => rfl)
    refine po rfl (fun lq aq wq hk hr K hK => ?_) ?_
    · have B2 : ev aq (.tmp 2) = .pointer (some ⟨w.heap.size, 0, none⟩) := hk.base 2 (by kernel_rfl) rfl
      have hb : Below _ _ _ := hk.ext
      exact vc hK (op_load3 2 _ B2 (D0.out.below hb)) (fun w2 h2 => QV.grow ⟨_, _, _, _, _, _, _, rfl, _, _, _, (SN0.out.below hb), (SD0.out.below hb), hl0, e0⟩ h2)
    refine po rfl (fun lq aq wq hk hr K hK => ?_) ?_
    · obtain ⟨v1, E1, r1⟩ := hk.dp hr 1 6 (by kernel_rfl)
      have r1 : QV wq v1 q := r1
      exact yc hK (by go_simp) (made_v wq r1) (fun u w1 hu w2 h2 => (hu).grow h2)
    refine po rfl (fun lq aq wq hk hr K hK => ?_) ?_
    · have E0 : ev aq (.tmp 5) = .func (.func f) #[] caps := hk.dc hr 0 (by kernel_rfl) fun _ _ h => h
      obtain ⟨v2, E2, r2⟩ := hk.dp hr 2 7 (by kernel_rfl)
      have r2 : RV wq v2 q := r2
      refine wp_of_call (f := f) (vs := #[v2] ++ caps) (by go_simp) (hdo wq _ (HB.out.trans (Below.mono hk.ext HB.out.size)) r2) ?_
      rintro e w1 ⟨u, rfl, hu, hb⟩
      exact ⟨u, rfl, hK.out _ _ hb (fun w2 h2 => (hu).grow h2) (fun h => absurd h (by decide))⟩
    exact AllOps.nil
  intro V x1 hG hV hap
  have r3 : RV x1 (V 3) Q := hV 3 (by decide)
  clear hV hap
  simp only [List.take_succ_cons, List.take_zero, List.drop_succ_cons, List.drop_zero, putAll, Act.put, List.setIfInBounds_toArray, List.set_cons_zero, List.set_cons_succ]
  have hb := (show Below _ _ _ from hG)
  obtain ⟨nR, AR, kR, cR, BR, jR, dR, y9, eR, ey, hQ, HQ, c0, c1, c2⟩ := ret3 r3 (DR.out.below hb) (HB.out.trans (Below.mono hb HB.out.size)) (by omega)
  simp only [eR]
  refine wpList_of_skip rfl (op_store3 4 8 _ rfl rfl (DR.out.below hb)) ?_
  rw [ey]
  clear eR ey hb hG HB DR
  go_wp2_with fail
  refine bodyPost_ret (v := .agg #[.bool nR, .slice AR kR cR, .slice BR jR dR]) (by simp [results, Tryz.results59, go_sem, c0, c1, c2]) rfl ⟨_, rfl, hQ, HQ⟩
set_option maxHeartbeats 4000000 in
set_option maxRecDepth 100000 in
theorem withI_v (w : World) {u : Value} {q : Rat} (Q : Int) (f : FuncId) (caps : Array Value) (h0 : QV w u q) (hf : ∀ (vs : Array Value) (w1 : World), (callFunc f vs).run Tryz.prog w1 = .ok (.enter f vs) w1) (hdo : ∀ (w1 : World) (u1 : Value), Grows w w1 → RV w1 u1 q → Calls Tryz.prog f (#[u1] ++ caps) w1 fun e w' => ∃ r, e = .returned r ∧ ZV w' r Q ∧ Grows w1 w') : Calls Tryz.prog 72 #[u, .func (.func f) #[] caps] w fun e w' => ∃ r, e = .returned r ∧ ZV w' r Q ∧ Grows w w' := by
  obtain ⟨n0, A0, k0, c0, B0, j0, d0, rfl, z0, l0, a0, s0, t0, hl0, e0⟩ := h0
  have hk0 : szz z0 ≤ 1000 := s0.size
  go_enter Tryz.func72, Tryz.ntmps72
  go_upto_region 1 with fail
  obtain ⟨x0, ex0, HB, D0, DR⟩ := st_32 w 26 (.bool n0) (.slice A0 k0 c0) (.slice B0 j0 d0) 24 (.bool false) (.slice none 0 0)
  rw [ex0]
  clear ex0
  replace HB := Lib.hid HB
  replace D0 := Lib.hid D0
  replace DR := Lib.hid DR
  have SN0 := Lib.hid (s0.below HB.out)
  clear s0
  have SD0 := Lib.hid (t0.below HB.out)
  clear t0
  refine wp_region_calm 4 [] ([fun vq _ => vq = .func (.func f) #[] caps,
      fun vq wq => QV wq vq q,
      fun vq wq => RV wq vq q,
      fun vq wq => ZV wq vq Q]) (by kernel_rfl) (by decide) ?_ ?_ ?_
  · intro j hj; cases hj
  · refine po rfl (fun lq aq wq hk hr K hK => ?_) ?_
    · have B1 : ev aq (.tmp 1) = .func (.func f) #[] caps := hk.base 1 (by kernel_rfl) rfl
      exact vc hK (by go_simp) (fun w2 h2 => rfl)
    refine po rfl (fun lq aq wq hk hr K hK => ?_) ?_
    · have B2 : ev aq (.tmp 2) = .pointer (some ⟨w.heap.size, 0, none⟩) := hk.base 2 (by kernel_rfl) rfl
      have hb : Below _ _ _ := hk.ext
      exact vc hK (op_load3 2 _ B2 (D0.out.below hb)) (fun w2 h2 => QV.grow ⟨_, _, _, _, _, _, _, rfl, _, _, _, (SN0.out.below hb), (SD0.out.below hb), hl0, e0⟩ h2)
    refine po rfl (fun lq aq wq hk hr K hK => ?_) ?_
    · obtain ⟨v1, E1, r1⟩ := hk.dp hr 1 6 (by kernel_rfl)
      have r1 : QV wq v1 q := r1
      exact yc hK (by go_simp) (made_v wq r1) (fun u w1 hu w2 h2 => (hu).grow h2)
    refine po rfl (fun lq aq wq hk hr K hK => ?_) ?_
    · have E0 : ev aq (.tmp 5) = .func (.func f) #[] caps := hk.dc hr 0 (by kernel_rfl) fun _ _ h => h
      obtain ⟨v2, E2, r2⟩ := hk.dp hr 2 7 (by kernel_rfl)
      have r2 : RV wq v2 q := r2
      refine wp_of_call (f := f) (vs := #[v2] ++ caps) (by go_simp) (hdo wq _ (HB.out.trans (Below.mono hk.ext HB.out.size)) r2) ?_
      rintro e w1 ⟨u, rfl, hu, hb⟩
      exact ⟨u, rfl, hK.out _ _ hb (fun w2 h2 => (hu).grow h2) (fun h => absurd h (by decide))⟩
    exact AllOps.nil
  intro V x1 hG hV hap
  have r3 : ZV x1 (V 3) Q := hV 3 (by decide)
  clear hV hap
  simp only [List.take_succ_cons, List.take_zero, List.drop_succ_cons, List.drop_zero, putAll, Act.put, List.setIfInBounds_toArray, List.set_cons_zero, List.set_cons_succ]
  have hb := (show Below _ _ _ from hG)
  obtain ⟨nR, AR, kR, cR, y9, eR, ey, hQ, HQ, c0, c1⟩ := ret2 r3 (DR.out.below hb) (HB.out.trans (Below.mono hb HB.out.size)) (by omega)
  simp only [eR]
  refine wpList_of_skip rfl (op_store 4 8 _ rfl rfl (DR.out.below hb)) ?_
  rw [ey]
  clear eR ey hb hG HB DR
  go_wp2_with fail
  refine bodyPost_ret (v := .agg #[.bool nR, .slice AR kR cR]) (by simp [results, Tryz.results72, go_sem, c0, c1]) rfl ⟨_, rfl, hQ, HQ⟩
theorem neg_f : ∀ (vs : Array Value) (w1 : World), (callFunc 60 vs).run Tryz.prog w1 = .ok (.enter 60 vs) w1 := run_callFunc_go Tryz.func60 (by kernel_rfl) (by kernel_rfl)
set_option maxHeartbeats 4000000 in
set_option maxRecDepth 100000 in
theorem rneg_v (w : World) {u : Value} {q : Rat} (h0 : QV w u q) : Calls Tryz.prog 20 #[u] w fun e w' => ∃ r, e = .returned r ∧ RV w' r (-q) ∧ Grows w w' := by
  obtain ⟨n0, A0, k0, c0, B0, j0, d0, rfl, z0, l0, a0, s0, t0, hl0, e0⟩ := h0
  have hk0 : szz z0 ≤ 1000 := s0.size
  go_enter Tryz.func20, Tryz.ntmps20
  go_upto_region 1 with fail
  obtain ⟨x0, ex0, HB, D0, DR⟩ := st_33 w 26 (.bool n0) (.slice A0 k0 c0) (.slice B0 j0 d0) 26 (.bool false) (.slice none 0 0) (.slice none 0 0)
  rw [ex0]
  clear ex0
  replace HB := Lib.hid HB
  replace D0 := Lib.hid D0
  replace DR := Lib.hid DR
  have SN0 := Lib.hid (s0.below HB.out)
  clear s0
  have SD0 := Lib.hid (t0.below HB.out)
  clear t0
  refine wp_region_calm 2 [] ([fun vq wq => QV wq vq q,
      fun vq wq => RV wq vq ((-q))]) (by kernel_rfl) (by decide) ?_ ?_ ?_
  · intro j hj; cases hj
  · refine po rfl (fun lq aq wq hk hr K hK => ?_) ?_
    · have B1 : ev aq (.tmp 1) = .pointer (some ⟨w.heap.size, 0, none⟩) := hk.base 1 (by kernel_rfl) rfl
      have hb : Below _ _ _ := hk.ext
      exact vc hK (op_load3 1 _ B1 (D0.out.below hb)) (fun w2 h2 => QV.grow ⟨_, _, _, _, _, _, _, rfl, _, _, _, (SN0.out.below hb), (SD0.out.below hb), hl0, e0⟩ h2)
    refine po rfl (fun lq aq wq hk hr K hK => ?_) ?_
    · obtain ⟨v0, E0, r0⟩ := hk.dp hr 0 3 (by kernel_rfl)
      have r0 : QV wq v0 q := r0
      exact yc hK (f := 59) (vs := #[v0, .func (.func 60) #[] #[]]) (by go_simp) (withR_v wq (-q) _ #[] r0 neg_f (fun w1 u1 _ hu => neg1_v w1 hu)) (fun u w1 hu w2 h2 => (hu).grow h2)
    exact AllOps.nil
  intro V x1 hG hV hap
  have r1 : RV x1 (V 1) ((-q)) := hV 1 (by decide)
  clear hV hap
  simp only [List.take_succ_cons, List.take_zero, List.drop_succ_cons, List.drop_zero, putAll, Act.put, List.setIfInBounds_toArray, List.set_cons_zero, List.set_cons_succ]
  have hb := (show Below _ _ _ from hG)
  obtain ⟨nR, AR, kR, cR, BR, jR, dR, y9, eR, ey, hQ, HQ, c0, c1, c2⟩ := ret3 r1 (DR.out.below hb) (HB.out.trans (Below.mono hb HB.out.size)) (by omega)
  simp only [eR]
  refine wpList_of_skip rfl (op_store3 2 4 _ rfl rfl (DR.out.below hb)) ?_
  rw [ey]
  clear eR ey hb hG HB DR
  go_wp2_with fail
  refine bodyPost_ret (v := .agg #[.bool nR, .slice AR kR cR, .slice BR jR dR]) (by simp [results, Tryz.results20, go_sem, c0, c1, c2]) rfl ⟨_, rfl, hQ, HQ⟩
end Go.Proofs.YtbippecchpaleaaGreatDoor
/- rat.two: its inner function; Sign, Floor, Ceil, Of, Mul, Div: what each returns. -/
namespace Go.Num
open Go Go.RowKit Go.Kp
theorem divInt_pos {z y : Int} (h : 0 < y) : mkRat z y.natAbs = Rat.divInt z y := by
  obtain ⟨k, rfl⟩ : ∃ k : Nat, y = (k : Int) := ⟨y.natAbs, by omega⟩
  rfl
theorem divInt_neg' {z y : Int} (h : y < 0) : mkRat (-z) y.natAbs = Rat.divInt z y := by
  obtain ⟨k, rfl⟩ : ∃ k : Nat, y = -(k : Int) := ⟨y.natAbs, by omega⟩
  obtain ⟨m, rfl⟩ : ∃ m, k = m + 1 := ⟨k - 1, by omega⟩
  rw [Int.natAbs_neg, Int.natAbs_natCast]
  exact (Rat.normalize_eq_mkRat (Nat.succ_ne_zero m)).symm
theorem qfloor (q : Rat) : Int.fdiv q.num (q.den : Int) = q.floor := by
  rw [Rat.floor_def, Int.fdiv_eq_ediv_of_nonneg _ (by omega)]
end Go.Num
namespace Go.Proofs.YtbippecchpaleaaGreatDoor
open Go.RowKit Go.Num Go.Kp
attribute [local go_sem] Oper.semAt_some u64_mask ev_const ev_func ev_global
set_option maxHeartbeats 4000000 in
set_option maxRecDepth 100000 in
theorem up_v (w : World) {u v : Value} {z : Int} {l : List Nat} {a : Nat} (h0 : WV w u z) (h1 : LV w v l a) (hl : l.length ≤ 1000) (hs : szz (z * (a : Int)) ≤ 1000) : Calls Tryz.prog 106 #[u, v] w fun e w' => ∃ r, e = .returned r ∧ ZV w' r (z * (a : Int)) ∧ Grows w w' := by
  have hsa : szz (a : Int) ≤ 1000 := by unfold szz; rw [Int.natAbs_natCast]; exact Nat.le_trans h1.sz_le hl
  obtain ⟨A9, c9, rfl, q9⟩ := h1
  obtain ⟨n0, A0, k0, c0, rfl, s0⟩ := h0
  have hk0 : szz z ≤ 1000 := s0.size
  go_enter Tryz.func106, Tryz.ntmps106
  go_upto_region 1 with fail
  obtain ⟨x0, ex0, HB, D0, DR⟩ := st_22 w 24 (.bool n0) (.slice A0 k0 c0) 24 (.bool false) (.slice none 0 0)
  rw [ex0]
  clear ex0
  replace HB := Lib.hid HB
  replace D0 := Lib.hid D0
  replace DR := Lib.hid DR
  have SN0 := Lib.hid (s0.below HB.out)
  clear s0
  have Q9 := Lib.hid (q9.below HB.out)
  clear q9
  refine wp_region_going 5 [] ([fun vq wq => WV wq vq z,
      fun vq _ => vq = .slice A9 l.length c9,
      fun vq wq => ZV wq vq ((a : Int)),
      fun vq wq => RowV wq vq [z, (a : Int)],
      fun vq wq => ZV wq vq ((z * (a : Int)))]) (by kernel_rfl) (by kernel_rfl) (by decide) (by kernel_rfl) (by kernel_rfl) ?_ ?_ ?_
  · intro j hj; cases hj
  · refine po rfl (fun lq aq wq hk hr K hK => ?_) ?_
    · have B2 : ev aq (.tmp 2) = .pointer (some ⟨w.heap.size, 0, none⟩) := hk.base 2 (by kernel_rfl) rfl
      have hb := grows_of hk.ext
      exact vc hK (op_load 2 _ B2 (D0.out.below hb)) (fun w2 h2 => ⟨_, _, _, _, rfl, (SN0.out.below hb).below h2⟩)
    refine po rfl (fun lq aq wq hk hr K hK => ?_) ?_
    · have B1 : ev aq (.tmp 1) = .slice A9 l.length c9 := hk.base 1 (by kernel_rfl) rfl
      exact vc hK (by go_simp) (fun w2 h2 => rfl)
    refine po rfl (fun lq aq wq hk hr K hK => ?_) ?_
    · have E1 : ev aq (.tmp 6) = .slice A9 l.length c9 := hk.dc hr 1 (by kernel_rfl) fun _ _ h => h
      exact yc hK (by go_simp) (of_v wq false (Q9.out.below (grows_of hk.ext)).lv (sg_false a) hsa) (fun u w1 hu w2 h2 => (hu).grow h2)
    refine po rfl (fun lq aq wq hk hr K hK => ?_) ?_
    · obtain ⟨v0, E0, r0⟩ := hk.dp hr 0 5 (by kernel_rfl)
      have r0 : WV wq v0 z := r0
      obtain ⟨n0, A0, k0, c0, rfl, s0⟩ := r0
      obtain ⟨v2, E2, r2⟩ := hk.dp hr 2 7 (by kernel_rfl)
      have r2 : ZV wq v2 ((a : Int)) := r2
      obtain ⟨n2, A2, k2, c2, rfl, s2⟩ := r2
      exact wp_of_value (op_row2 5 7 E0 E2) (hK.out _ _ ((Grows.refl _).alloc _) (fun w2 h2 => (RowV.two s0 s2.whole).grow h2) (fun h => absurd h (by decide)))
    refine po rfl (fun lq aq wq hk hr K hK => ?_) ?_
    · obtain ⟨v3, E3, r3⟩ := hk.dp hr 3 8 (by kernel_rfl)
      have r3 : RowV wq v3 [z, (a : Int)] := r3
      exact yc hK (by go_simp) (mul2_v wq r3 hk0 hs) (fun u w1 hu w2 h2 => (hu).grow h2)
    exact AllOps.nil
  intro V x1 hG hV hap
  have r4 : ZV x1 (V 4) ((z * (a : Int))) := hV 4 (by decide)
  clear hV hap
  simp only [List.take_succ_cons, List.take_zero, List.drop_succ_cons, List.drop_zero, putAll, Act.put, List.setIfInBounds_toArray, List.set_cons_zero, List.set_cons_succ]
  have hb := grows_of hG
  obtain ⟨nR, AR, kR, cR, y9, eR, ey, hQ, HQ, c0, c1⟩ := ret2 r4 (DR.out.below hb) (HB.out.trans (Below.mono hb HB.out.size)) (by omega)
  simp only [eR]
  refine wpList_of_skip rfl (op_store 4 9 _ rfl rfl (DR.out.below hb)) ?_
  rw [ey]
  clear eR ey hb hG HB DR
  go_wp2_with fail
  refine bodyPost_ret (v := .agg #[.bool nR, .slice AR kR cR]) (by simp [results, Tryz.results106, go_sem, c0, c1]) rfl ⟨_, rfl, hQ, HQ⟩
set_option maxHeartbeats 4000000 in
set_option maxRecDepth 100000 in
theorem qsign_v (w : World) {u : Value} {q : Rat} {k : Int} (h0 : QV w u q) (hsg : Int.sign q.num = k) : Calls Tryz.prog 30 #[u] w fun e w' => ∃ r, e = .returned r ∧ r = .int .i64 k ∧ Grows w w' := by
  obtain ⟨n0, A0, k0, c0, B0, j0, d0, rfl, z0, l0, a0, s0, t0, hl0, e0⟩ := h0
  have hkS : Int.sign z0 = k := by rw [← hsg, e0]; exact (mkRat_sign _ (dn_pos _)).symm
  have hk0 : szz z0 ≤ 1000 := s0.size
  go_enter Tryz.func30, Tryz.ntmps30
  go_upto_region 1 with fail
  obtain ⟨x0, ex0, HB, D0⟩ := st_3 w 26 (.bool n0) (.slice A0 k0 c0) (.slice B0 j0 d0)
  rw [ex0]
  clear ex0
  replace HB := Lib.hid HB
  replace D0 := Lib.hid D0
  have SN0 := Lib.hid (s0.below HB.out)
  clear s0
  have SD0 := Lib.hid (t0.below HB.out)
  clear t0
  refine wp_region_calm 3 [] ([fun vq _ => vq = .pointer (some ⟨w.heap.size, 0, none⟩),
      fun vq wq => WV wq vq z0,
      fun vq _ => vq = .int .i64 k]) (by kernel_rfl) (by decide) ?_ ?_ ?_
  · intro j hj; cases hj
  · refine po rfl (fun lq aq wq hk hr K hK => ?_) ?_
    · have B1 : ev aq (.tmp 1) = .pointer (some ⟨w.heap.size, 0, none⟩) := hk.base 1 (by kernel_rfl) rfl
      exact vc hK (by go_simp) (fun w2 h2 => rfl)
    refine po rfl (fun lq aq wq hk hr K hK => ?_) ?_
    · have E0 : ev aq (.tmp 3) = .pointer (some ⟨w.heap.size, 0, none⟩) := hk.dc hr 0 (by kernel_rfl) fun _ _ h => h
      have hb : Below _ _ _ := hk.ext
      exact vc hK (op_loadN 3 _ E0 (D0.out.below hb)) (fun w2 h2 => ⟨_, _, _, _, rfl, (SN0.out.below hb).below h2⟩)
    refine po rfl (fun lq aq wq hk hr K hK => ?_) ?_
    · obtain ⟨v1, E1, r1⟩ := hk.dp hr 1 4 (by kernel_rfl)
      have r1 : WV wq v1 z0 := r1
      exact yc hK (by go_simp) (sign_v wq r1 (k := k) hkS) (fun u w1 hu w2 h2 => hu)
    exact AllOps.nil
  intro V x1 hG hV hap
  have r2 : (V 2) = .int .i64 k := hV 2 (by decide)
  clear hV hap
  simp only [List.take_succ_cons, List.take_zero, List.drop_succ_cons, List.drop_zero, putAll, Act.put, List.setIfInBounds_toArray, List.set_cons_zero, List.set_cons_succ]
  have hb := (show Below _ _ _ from hG)
  replace D0 := Lib.hid (D0.out.below hb)
  replace SN0 := Lib.hid (SN0.out.below hb)
  replace SD0 := Lib.hid (SD0.out.below hb)
  replace HB := Lib.hid (HB.out.trans (Below.mono hb HB.out.size))
  clear hb hG
  rw [r2]
  clear r2
  go_wp2_with fail
  go_ret
  exact ⟨_, rfl, rfl, HB.out⟩
set_option maxHeartbeats 4000000 in
set_option maxRecDepth 100000 in
theorem floor1_v (w : World) {u : Value} {q : Rat} (h0 : RV w u q) : Calls Tryz.prog 73 #[u] w fun e w' => ∃ r, e = .returned r ∧ ZV w' r q.floor ∧ Grows w w' := by
  obtain ⟨n0, A0, k0, c0, B0, j0, d0, rfl, s0, t0, hd0⟩ := h0
  go_enter Tryz.func73, Tryz.ntmps73
  go_upto_region 1 with fail
  obtain ⟨x0, ex0, HB, D0, DR⟩ := st_32 w 26 (.bool n0) (.slice A0 k0 c0) (.slice B0 j0 d0) 24 (.bool false) (.slice none 0 0)
  rw [ex0]
  clear ex0
  replace HB := Lib.hid HB
  replace D0 := Lib.hid D0
  replace DR := Lib.hid DR
  have SN0 := Lib.hid (s0.below HB.out)
  clear s0
  have SD0 := Lib.hid (t0.below HB.out)
  clear t0
  have hsd : szz (q.den : Int) ≤ 1000 := by unfold szz; rw [Int.natAbs_natCast]; exact hd0
  have hne : (q.den : Int) ≠ 0 := by have := q.den_pos; omega
  have lw0 := D0.out.lt
  have lwR := DR.out.lt
  refine wp_region_prompt 10 8 [9] ([fun vq _ => vq = .pointer (some ⟨w.heap.size, 0, none⟩),
      fun vq wq => ZV wq vq q.num,
      fun vq _ => vq = .pointer (some ⟨w.heap.size, 2, none⟩),
      fun vq _ => vq = .slice B0 j0 d0,
      fun vq wq => ZV wq vq ((q.den : Int)),
      fun vq wq => ∃ u0, vq = .tuple #[u0, .int .i64 0] ∧ ZV wq u0 ((Int.fdiv q.num (q.den : Int))),
      fun vq wq => ∃ u0, vq = .tuple #[u0, .int .i64 0] ∧ ZV wq u0 ((Int.fdiv q.num (q.den : Int))),
      fun vq wq => ZV wq vq ((Int.fdiv q.num (q.den : Int))),
      fun vq _ => vq = .int .i64 0,
      fun vq wq => ∃ bq, vq = .pointer (some ⟨bq, 0, none⟩) ∧ Box2 wq bq 24 (.bool false) (.slice none 0 0) ∧ (x0).heap.size ≤ bq]) rfl (by kernel_rfl) (by kernel_rfl) (by decide) (by kernel_rfl) (by kernel_rfl) (by kernel_rfl) (by kernel_rfl) (by decide) (fun _ _ _ _ h => h) ?_ ?_ ?_ ?_
  · intro j hj v w h
    simp only [List.mem_cons, List.not_mem_nil, or_false] at hj
    subst hj
    all_goals (obtain ⟨b, rfl, hB, _⟩ := h; exact hB.lt)
  · intro lq aq wq hk hr
    obtain ⟨v6, E6, r6⟩ := hk.dp hr 6 5 (by kernel_rfl)
    have r6 : ∃ u0, v6 = .tuple #[u0, .int .i64 0] ∧ ZV wq u0 ((Int.fdiv q.num (q.den : Int))) := r6
    obtain ⟨u0, rfl, h0⟩ := r6
    exact ⟨_, yields_of rfl (fun w2 => by go_simp), fun w2 h2 => rfl⟩
  · refine AllOps.cons (fun _ => Does.plain rfl fun lq aq wq hk hr K hK => ?_) ?_
    · have B1 : ev aq (.tmp 1) = .pointer (some ⟨w.heap.size, 0, none⟩) := hk.base 1 (by kernel_rfl) rfl
      exact vc hK (by go_simp) (fun w2 h2 => rfl)
    refine AllOps.cons (fun _ => Does.plain rfl fun lq aq wq hk hr K hK => ?_) ?_
    · have E0 : ev aq (.tmp 6) = .pointer (some ⟨w.heap.size, 0, none⟩) := hk.dc hr 0 (by kernel_rfl) fun _ _ h => h
      have hb := grows_of hk.ext
      exact vc hK (op_loadN 6 _ E0 (D0.out.below hb)) (fun w2 h2 => ⟨_, _, _, _, rfl, (SN0.out.below hb).below h2⟩)
    refine AllOps.cons (fun _ => Does.plain rfl fun lq aq wq hk hr K hK => ?_) ?_
    · have B1 : ev aq (.tmp 1) = .pointer (some ⟨w.heap.size, 0, none⟩) := hk.base 1 (by kernel_rfl) rfl
      exact vc hK (by go_simp) (fun w2 h2 => rfl)
    refine AllOps.cons (fun _ => Does.plain rfl fun lq aq wq hk hr K hK => ?_) ?_
    · have E2 : ev aq (.tmp 8) = .pointer (some ⟨w.heap.size, 2, none⟩) := hk.dc hr 2 (by kernel_rfl) fun _ _ h => h
      have hb := grows_of hk.ext
      have c2 := (D0.out.below hb).c2
      exact vc hK (by go_simp) (fun w2 h2 => rfl)
    refine AllOps.cons (fun _ => Does.plain rfl fun lq aq wq hk hr K hK => ?_) ?_
    · have E3 : ev aq (.tmp 9) = .slice B0 j0 d0 := hk.dc hr 3 (by kernel_rfl) fun _ _ h => h
      exact yc hK (by go_simp) (of_v wq false (SD0.out.below (grows_of hk.ext)).lv (sg_false _) hsd) (fun u w1 hu w2 h2 => (hu).grow h2)
    refine AllOps.cons (fun _ => Does.plain rfl fun lq aq wq hk hr K hK => ?_) ?_
    · obtain ⟨v1, E1, r1⟩ := hk.dp hr 1 7 (by kernel_rfl)
      have r1 : ZV wq v1 q.num := r1
      obtain ⟨v4, E4, r4⟩ := hk.dp hr 4 10 (by kernel_rfl)
      have r4 : ZV wq v4 ((q.den : Int)) := r4
      exact yc hK (by go_simp) (div_v wq (r1).wv (r4).wv hne (Nat.le_trans (szz_fdiv (q.den : Int) SN0.out.short) (by decide))) (fun u w1 hu w2 h2 => (let ⟨u0, e0, h0⟩ := hu; ⟨u0, e0, (h0).grow h2⟩))
    refine AllOps.cons (fun _ => Does.plain rfl fun lq aq wq hk hr K hK => ?_) ?_
    · obtain ⟨v5, E5, r5⟩ := hk.dp hr 5 11 (by kernel_rfl)
      have r5 : ∃ u0, v5 = .tuple #[u0, .int .i64 0] ∧ ZV wq u0 ((Int.fdiv q.num (q.den : Int))) := r5
      exact vc hK (by go_simp) (fun w2 h2 => (let ⟨u0, e0, h0⟩ := r5; ⟨u0, e0, (h0).grow h2⟩))
    refine AllOps.cons (fun _ => Does.plain rfl fun lq aq wq hk hr K hK => ?_) ?_
    · obtain ⟨v6, E6, r6⟩ := hk.dp hr 6 5 (by kernel_rfl)
      have r6 : ∃ u0, v6 = .tuple #[u0, .int .i64 0] ∧ ZV wq u0 ((Int.fdiv q.num (q.den : Int))) := r6
      obtain ⟨u0, rfl, h0⟩ := r6
      exact vc hK (by go_simp) (fun w2 h2 => (h0).grow h2)
    refine AllOps.cons (fun h => absurd rfl h) ?_
    refine AllOps.cons (fun _ => Does.plain rfl fun lq aq wq hk hr K hK => ?_) ?_
    · exact wp_of_value (by go_simp) (hK.out _ _ ((Grows.refl _).alloc _) (fun w2 h2 => ⟨_, rfl, (Box2.new wq 24 _ _).below h2, (grows_of hk.ext).size⟩) (fun _ => Nat.le_refl _))
    exact AllOps.nil
  intro V x1 hG hV hap
  have r1 : ZV x1 (V 1) q.num := hV 1 (by decide)
  have r2 : (V 2) = .pointer (some ⟨w.heap.size, 2, none⟩) := hV 2 (by decide)
  have r3 : (V 3) = .slice B0 j0 d0 := hV 3 (by decide)
  have r7 : ZV x1 (V 7) ((Int.fdiv q.num (q.den : Int))) := hV 7 (by decide)
  have r8 : (V 8) = .int .i64 0 := hV 8 (by decide)
  have r9 : ∃ bq, (V 9) = .pointer (some ⟨bq, 0, none⟩) ∧ Box2 x1 bq 24 (.bool false) (.slice none 0 0) ∧ (x0).heap.size ≤ bq := hV 9 (by decide)
  clear hV
  simp only [List.take_succ_cons, List.take_zero, List.drop_succ_cons, List.drop_zero, putAll, Act.put, List.setIfInBounds_toArray, List.set_cons_zero, List.set_cons_succ]
  have hb := grows_of hG
  obtain ⟨bo, eo, Do, go⟩ := r9
  obtain ⟨no, Ao, ko, co, eo9, so⟩ := r7
  simp only [eo, eo9, r8]
  clear eo eo9 hap hG r8
  refine wpList_of_skip rfl (op_store 3 12 _ rfl rfl Do) ?_
  have hB := put2_below (u := .bool no) (v := .slice Ao ko co) hb go
  replace so := so.put Do (.bool no) (.slice Ao ko co)
  replace Do := put2_own (u := .bool no) (v := .slice Ao ko co) Do
  clear hb
  generalize put2 x1 bo (.bool no) (.slice Ao ko co) = y2 at *
  replace D0 := Lib.hid (D0.out.below hB)
  replace SN0 := Lib.hid (SN0.out.below hB)
  replace SD0 := Lib.hid (SD0.out.below hB)
  replace DR := Lib.hid (DR.out.below hB)
  replace HB := Lib.hid (HB.out.trans (Below.mono hB HB.out.size))
  replace lw0 := Nat.lt_of_lt_of_le lw0 go
  replace lwR := Nat.lt_of_lt_of_le lwR go
  replace Do := Lib.hid Do
  have SNo := Lib.hid so
  clear hB go so
  go_upto_region 2 with fail
  refine wp_region_calm 1 [] ([fun vq wq => ZV wq vq ((Int.fdiv q.num (q.den : Int)))]) (by kernel_rfl) (by decide) ?_ ?_ ?_
  · intro j hj; cases hj
  · refine po rfl (fun lq aq wq hk hr K hK => ?_) ?_
    · have B3 : ev aq (.tmp 3) = .pointer (some ⟨bo, 0, none⟩) := hk.base 3 (by kernel_rfl) rfl
      have hb : Below _ _ _ := hk.ext
      exact vc hK (op_load 3 _ B3 (Do.out.below hb)) (fun w2 h2 => ⟨_, _, _, _, rfl, (SNo.out.below hb).below h2⟩)
    exact AllOps.nil
  intro V x3 hG hV hap
  have r0 : ZV x3 (V 0) ((Int.fdiv q.num (q.den : Int))) := hV 0 (by decide)
  clear hV hap
  simp only [List.take_succ_cons, List.take_zero, List.drop_succ_cons, List.drop_zero, putAll, Act.put, List.setIfInBounds_toArray, List.set_cons_zero, List.set_cons_succ]
  have hb := (show Below _ _ _ from hG)
  obtain ⟨nR, AR, kR, cR, y9, eR, ey, hQ, HQ, c0, c1⟩ := ret2 r0 (DR.out.below hb) (HB.out.trans (Below.mono hb HB.out.size)) (by omega)
  simp only [eR]
  refine wpList_of_skip rfl (op_store 2 14 _ rfl rfl (DR.out.below hb)) ?_
  rw [ey]
  clear eR ey hb hG HB DR
  go_wp2_with fail
  refine bodyPost_ret (v := .agg #[.bool nR, .slice AR kR cR]) (by simp [results, Tryz.results73, go_sem, c0, c1]) rfl ⟨_, rfl, (ZV.to hQ (qfloor q)), HQ⟩
end Go.Proofs.YtbippecchpaleaaGreatDoor
