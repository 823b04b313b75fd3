import Derived.Test.YtmajcjdhhnhmmaaDoorVal
import Derived.Tactics
/- few at a value; boxes that are written behind a region. -/
namespace Go.Num
open Go Go.RowKit Go.Kp
theorem few_szz (n : Bool) {l : List Nat} (j : Nat) (hl : Lim l) : szz (sg n (val (l.take j))) ≤ j := by
  unfold szz
  rw [sg_natAbs]
  exact Nat.le_trans (sz_val fun x hx => hl x (List.mem_of_mem_take hx)) (by rw [List.length_take]; omega)
theorem zlt_or_ge (a b : Int) : a < b ∨ b ≤ a := by omega
theorem sign_in (z : Int) : -1 ≤ Int.sign z ∧ Int.sign z ≤ 1 := by
  rcases Int.lt_trichotomy z 0 with h | h | h
  · rw [Int.sign_eq_neg_one_of_neg h]; decide
  · rw [h]; decide
  · rw [Int.sign_eq_one_of_pos h]; decide
theorem sign_alike (a b : Int) : decide (a = b) = (Int.sign (a - b) == 0) := by
  rcases Int.lt_trichotomy (a - b) 0 with h | h | h
  · rw [Int.sign_eq_neg_one_of_neg h, decide_eq_false (by omega)]; decide
  · rw [h, decide_eq_true (by omega)]; decide
  · rw [Int.sign_eq_one_of_pos h, decide_eq_false (by omega)]; decide
/-- A box of two cells, written. -/
def put2 (w : World) (g : Nat) (x y : Value) : World := (w.setCell ⟨g, 0, none⟩ x).setCell ⟨g, 1, none⟩ y
section
variable {W w : World} {g h : Nat} {T : TypeId} {x y u v : Value}
theorem put2_own (hb : Box2 w g T x y) : Box2 (put2 w g u v) g T u v := (hb.set0 u).set1 v
theorem put2_far (hb : Box2 w g T x y) (hg : g ≠ h) : Box2 (put2 w h u v) g T x y := (hb.apart hg 0 u).apart hg 1 v
theorem put2_below (hb : Below W.heap.size W w) (hg : W.heap.size ≤ g) : Below W.heap.size W (put2 w g u v) := (hb.setCell (p := ⟨g, 0, none⟩) hg u).setCell (p := ⟨g, 1, none⟩) hg v
theorem put2_cell {w : World} {g : Nat} {u v : Value} {p : Addr} (h : p.block ≠ g) : (put2 w g u v).cell? p = w.cell? p := by
  unfold put2
  rw [World.cell?_setCell_far _ _ _ _ (Ne.symm h), World.cell?_setCell_far _ _ _ _ (Ne.symm h)]
theorem Box2.not_limb {w : World} {g : Nat} {T : TypeId} {n : Bool} {A : Option Addr} {k c x : Nat} {p : Addr} (hb : Box2 w g T (.bool n) (.slice A k c)) (h : w.cell? p = some (encU x)) (hp : p.spot = none) : p.block ≠ g := fun e => by
  obtain ⟨q, i, r⟩ := p
  simp only at e hp
  subst e; subst hp
  rw [cell_of_row _ _ _ _ _ _ (show w.heap[q]? = _ from hb)] at h
  rcases i with _ | _ | i <;> simp at h
theorem Cells.put {w : World} {g : Nat} {T : TypeId} {n : Bool} {A B : Option Addr} {k c : Nat} {l : List Nat} (h : Cells encU w B l) (hb : Box2 w g T (.bool n) (.slice A k c)) (u v : Value) : Cells encU (put2 w g u v) B l := fun h0 => by
  obtain ⟨b, o, e, hx⟩ := h h0
  exact ⟨b, o, e, fun j x hj => by rw [put2_cell (hb.not_limb (hx j x hj) rfl)]; exact hx j x hj⟩
theorem Arg.put {w : World} {g : Nat} {T : TypeId} {n : Bool} {A : Option Addr} {k c : Nat} {m : Value} {l : List Nat} (h : Arg encU w m l) (hb : Box2 w g T (.bool n) (.slice A k c)) (u v : Value) : Arg encU (put2 w g u v) m l := by
  obtain ⟨B, d, e, hd, hc⟩ := h.open_
  exact e ▸ Arg.mk_ rfl hd (hc.put hb u v)
theorem Whole.put {w : World} {g : Nat} {T : TypeId} {n n' : Bool} {A : Option Addr} {k c : Nat} {m : Value} {z : Int} (h : Whole w n' m z) (hb : Box2 w g T (.bool n) (.slice A k c)) (u v : Value) : Whole (put2 w g u v) n' m z := by
  obtain ⟨l, a, hn, hl, e⟩ := h
  exact ⟨l, a, ⟨hn.arg.put hb u v, hn.lim, hn.len, hn.val⟩, hl, e⟩
theorem Sound.put {w : World} {g : Nat} {T : TypeId} {n n' : Bool} {A : Option Addr} {k c : Nat} {m : Value} {z : Int} (h : Sound w n' m z) (hb : Box2 w g T (.bool n) (.slice A k c)) (u v : Value) : Sound (put2 w g u v) n' m z :=
  ⟨h.sign, ⟨h.num.arg.put hb u v, h.num.lim, h.num.len, h.num.val⟩, h.short⟩
end
end Go.Num
namespace Go.Kp
open Go
theorem wpList_of_skip {P : Program} {ops : Array Oper} {Q : Exit → Act → World → Prop} {a : Act} {w w' : World} {o : Oper} {rest : List Oper} (hg : o.guard = none) (h : (execOp (ev a) o).run P w = .ok .skip w') (hr : wpList P ops Q rest (a.put o.dst undef) w') : wpList P ops Q (o :: rest) a w := by
  refine wpList_plain hg fun K hK => wp_of_skip h (hK _ _ hr)
end Go.Kp
namespace Go.Proofs.YtmajcjdhhnhmmaaDoor
open Go.RowKit Go.Num Go.Kp
attribute [local go_sem] Oper.semAt_some u64_mask ev_const ev_func ev_global
theorem few_v (w0 w : World) {n : Bool} {m : Value} {l : List Nat} {z : Int} (j : Nat) (ha : Arg encU w0 m l) (hl : Lim l) (hn : l.length ≤ 9223372036854775807) (hj : j ≤ 1000) (hz : sg n (val (l.take j)) = z) :
    Calls Tryd.prog 13 #[.agg #[.bool n, m], .int .i64 j] w fun e w' => ∃ r, e = .returned r ∧ WV w0 r z ∧ Grows w w' := by
  refine (few_at w0 w n m l j ha hl hn hj).mono ?_
  rintro e w1 ⟨A, k, c, rfl, h1, h2, hb⟩
  exact ⟨_, rfl, ⟨n, A, k, c, rfl, ⟨l.take j, _, h1, by omega, hz.symm⟩⟩, hb⟩
theorem op_store {a : Act} {w : World} {ty : TypeId} {pos : String} {af : Array Edge} {gu : Option (Nat × Bool)} (t t' g : Nat) {x y : Value} {n : Bool} {A : Option Addr} {k c : Nat} (he : ev a (.tmp t) = .pointer (some ⟨g, 0, none⟩)) (he' : ev a (.tmp t') = .agg #[.bool n, .slice A k c]) (h : Box2 w g 24 x y) :
    (execOp (ev a) ⟨none, .store 24 (.tmp t) (.tmp t'), ty, pos, af, gu⟩).run Tryd.prog w = .ok .skip (put2 w g (.bool n) (.slice A k c)) := by
  have h0 := h.c0
  have h1 := h.c1
  have h2 := h.f0
  have h3 := h.f1
  have h4 : (w.setCell ⟨g, 0, none⟩ (.bool n)).cell? ⟨g, 1, none⟩ = some y := (h.set0 _).c1
  have h5 : (w.setCell ⟨g, 0, none⟩ (.bool n)).frozen? ⟨g, 1, none⟩ = false := (h.set0 _).f1
  clear h
  unfold put2
  go_simp
/-- Three boxes that were just made, written one behind the other. -/
theorem put2_three {W w : World} {a b c : Nat} {T : TypeId} {x y : Value} {na nb nc : Bool} {ma mb mc : Value} (h : Below W.heap.size W w) (ha : Box2 w a T x y) (hb : Box2 w b T x y) (hc : Box2 w c T x y) (ga : W.heap.size ≤ a) (gb : W.heap.size ≤ b) (gc : W.heap.size ≤ c) (hab : a ≠ b) (hac : a ≠ c) (hbc : b ≠ c) :
    Below W.heap.size W (put2 (put2 (put2 w a (.bool na) ma) b (.bool nb) mb) c (.bool nc) mc) ∧ Box2 (put2 (put2 (put2 w a (.bool na) ma) b (.bool nb) mb) c (.bool nc) mc) a T (.bool na) ma ∧ Box2 (put2 (put2 (put2 w a (.bool na) ma) b (.bool nb) mb) c (.bool nc) mc) b T (.bool nb) mb ∧ Box2 (put2 (put2 (put2 w a (.bool na) ma) b (.bool nb) mb) c (.bool nc) mc) c T (.bool nc) mc :=
  ⟨put2_below (put2_below (put2_below h ga) gb) gc, put2_far (put2_far (put2_own ha) hab) hac, put2_far (put2_own (put2_far hb (Ne.symm hab))) hbc, put2_own (put2_far (put2_far hc (Ne.symm hac)) (Ne.symm hbc))⟩
end Go.Proofs.YtmajcjdhhnhmmaaDoor
