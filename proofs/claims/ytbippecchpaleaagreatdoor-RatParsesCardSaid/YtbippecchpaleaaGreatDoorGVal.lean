import Derived.Test.YtbippecchpaleaaGreatDoorBigWorks
import Derived.Deep.RegionHeld3
import Derived.Deep.RegionWith
import Derived.Deep.CutRange
import Derived.BigRegion
import Derived.Test.YtbippecchpaleaaGreatDoorGKept
import Derived.Test.YtbippecchpaleaaGreatDoorBigText
import Derived.Test.YtbippecchpaleaaGreatDoorBigCmp
import Derived.Test.YtbippecchpaleaaGreatDoorBigSmallC
import Derived.Tactics
/- Words for the laws over big. -/
namespace Go.Num
open Go Go.RowKit
/-- A block that holds these cells. -/
def BoxN (W : World) (g : Nat) (T : TypeId) (cs : Array Value) : Prop := W.heap[g]? = some (.cells cs T (0, 0))
theorem BoxN.new (W : World) (T : TypeId) (cs : Array Value) : BoxN (W.alloc (.cells cs T)) W.heap.size T cs := heap_alloc_new W _
theorem BoxN.lt {W : World} {g : Nat} {T : TypeId} {cs : Array Value} (h : BoxN W g T cs) : g < W.heap.size := (Array.getElem?_eq_some_iff.1 h).1
theorem BoxN.cell {W : World} {g : Nat} {T : TypeId} {cs : Array Value} (h : BoxN W g T cs) (i : Nat) {v : Value} (hi : cs[i]? = some v) : W.cell? ⟨g, i, none⟩ = some v := by rw [cell_of_row _ _ _ _ _ _ h]; exact hi
theorem BoxN.below {W W' : World} {g : Nat} {T : TypeId} {cs : Array Value} (h : BoxN W g T cs) (hb : Below W.heap.size W W') : BoxN W' g T cs := (hb.block g h.lt).trans h
theorem szz_zero : szz 0 ≤ 0 := sz_le (by decide)
theorem Par2.put0 {w w' : World} {T : TypeId} {x y x' y' : Value} (h : Par2 w w' T x y x' y') (u v : Value) : Par2 w ((w'.setCell ⟨w.heap.size, 0, none⟩ u).setCell ⟨w.heap.size, 1, none⟩ v) T u v x' y' :=
  ⟨(h.below.setCell (p := ⟨w.heap.size, 0, none⟩) (Nat.le_refl _) _).setCell (p := ⟨w.heap.size, 1, none⟩) (Nat.le_refl _) _, (h.p0.set0 _).set1 _, (h.p1.apart (by omega) _ _).apart (by omega) _ _⟩
theorem Par2.put1 {w w' : World} {T : TypeId} {x y x' y' : Value} (h : Par2 w w' T x y x' y') (u v : Value) : Par2 w ((w'.setCell ⟨w.heap.size + 1, 0, none⟩ u).setCell ⟨w.heap.size + 1, 1, none⟩ v) T x y u v :=
  ⟨(h.below.setCell (p := ⟨w.heap.size + 1, 0, none⟩) (by simp) _).setCell (p := ⟨w.heap.size + 1, 1, none⟩) (by simp) _, (h.p0.apart (by omega) _ _).apart (by omega) _ _, (h.p1.set0 _).set1 _⟩
theorem Par2.frozen {w w' : World} {T : TypeId} {x y x' y' : Value} (h : Par2 w w' T x y x' y') : w'.frozen? ⟨w.heap.size, 0, none⟩ = false ∧ w'.frozen? ⟨w.heap.size, 1, none⟩ = false ∧ w'.frozen? ⟨w.heap.size + 1, 0, none⟩ = false ∧ w'.frozen? ⟨w.heap.size + 1, 1, none⟩ = false := ⟨h.p0.f0, h.p0.f1, h.p1.f0, h.p1.f1⟩
end Go.Num
namespace Go.Proofs.YtbippecchpaleaaGreatDoor
open Go.RowKit Go.Num
end Go.Proofs.YtbippecchpaleaaGreatDoor
/- more words -/
namespace Go.Proofs.YtbippecchpaleaaGreatDoor
open Go.RowKit Go.Num
end Go.Proofs.YtbippecchpaleaaGreatDoor
/- Values that read as whole numbers, as one word; the contracts of package big in that word; the operations of a region at them. -/
namespace Go.Num
open Go Go.RowKit Go.Kp
/-- The value v reads as z. -/
def WV (w : World) (v : Value) (z : Int) : Prop := ∃ n A k c, v = .agg #[.bool n, .slice A k c] ∧ Whole w n (.slice A k c) z
/-- .. and is right. -/
def ZV (w : World) (v : Value) (z : Int) : Prop := ∃ n A k c, v = .agg #[.bool n, .slice A k c] ∧ Sound w n (.slice A k c) z
/-- A row of whole numbers. -/
def RowV (w : World) (v : Value) (Z : List Int) : Prop := ∃ A c, v = .slice A Z.length c ∧ CellsZ w A Z
section
variable {w w' : World} {v : Value} {z : Int} {Z : List Int}
theorem ZV.wv (h : ZV w v z) : WV w v z := by
  obtain ⟨n, A, k, c, e, s⟩ := h
  exact ⟨n, A, k, c, e, s.whole⟩
theorem ZV.grow (h : ZV w v z) (hb : Grows w w') : ZV w' v z := by
  obtain ⟨n, A, k, c, e, s⟩ := h
  exact ⟨n, A, k, c, e, s.below hb⟩
theorem WV.grow (h : WV w v z) (hb : Grows w w') : WV w' v z := by
  obtain ⟨n, A, k, c, e, s⟩ := h
  exact ⟨n, A, k, c, e, s.below hb⟩
theorem RowV.grow (h : RowV w v Z) (hb : Grows w w') : RowV w' v Z := by
  obtain ⟨A, c, e, s⟩ := h
  exact ⟨A, c, e, s.below hb⟩
theorem MadeZ.zv {e : TypeId} {n : Bool} {m : Value} (h : MadeZ e w w' n m z) (hz : sz z.natAbs ≤ 1000) : ZV w' (.agg #[.bool n, m]) z := by
  obtain ⟨A, k, c, rfl⟩ := h.shape
  exact ⟨n, A, k, c, rfl, h.sound hz⟩
theorem ZV.to {z' : Int} (h : ZV w v z) (e : z = z') : ZV w v z' := e ▸ h
theorem ZV.zero (w : World) (c : Nat) : ZV w (.agg #[.bool false, .slice none 0 c]) 0 := ⟨_, _, _, _, rfl, Sound.nil_ w c⟩
theorem grows_of (h : Grows w.drew w') : Below w.heap.size w w' := ((Below.refl _ w).drew).trans h
theorem RowV.one {T : TypeId} {n : Bool} {A : Option Addr} {k c : Nat} (h : Whole w n (.slice A k c) z) : RowV (w.alloc (.cells #[.bool n, .slice A k c] T)) (.slice (some ⟨w.heap.size, 0, none⟩) 1 1) [z] := by
  refine ⟨_, 1, rfl, fun _ => ⟨w.heap.size, 0, rfl, fun j y hj => ?_⟩⟩
  have hc : ∀ i, (w.alloc (.cells #[.bool n, .slice A k c] T)).cell? ⟨w.heap.size, i, none⟩ = #[Value.bool n, .slice A k c][i]? := fun i => cell_of_row _ _ _ _ _ _ (heap_alloc_new w _)
  rcases j with _ | j
  · obtain rfl : z = y := by simpa using hj
    exact ⟨n, _, (hc 0).trans rfl, (hc 1).trans rfl, h.alloc _⟩
  · simp at hj
theorem RowV.two {T : TypeId} {n n' : Bool} {A A' : Option Addr} {k c k' c' : Nat} {y : Int} (h : Whole w n (.slice A k c) z) (h' : Whole w n' (.slice A' k' c') y) : RowV (w.alloc (.cells #[.bool n, .slice A k c, .bool n', .slice A' k' c'] T)) (.slice (some ⟨w.heap.size, 0, none⟩) 2 2) [z, y] := by
  refine ⟨_, 2, rfl, fun _ => ⟨w.heap.size, 0, rfl, fun j x hj => ?_⟩⟩
  have hc : ∀ i, (w.alloc (.cells #[.bool n, .slice A k c, .bool n', .slice A' k' c'] T)).cell? ⟨w.heap.size, i, none⟩ = #[Value.bool n, .slice A k c, .bool n', .slice A' k' c'][i]? := fun i => cell_of_row _ _ _ _ _ _ (heap_alloc_new w _)
  rcases j with _ | _ | j
  · obtain rfl : z = x := by simpa using hj
    exact ⟨n, _, (hc 0).trans rfl, (hc 1).trans rfl, h.alloc _⟩
  · obtain rfl : y = x := by simpa using hj
    exact ⟨n', _, (hc 2).trans rfl, (hc 3).trans rfl, h'.alloc _⟩
  · simp at hj
end
end Go.Num
namespace Go.Proofs.YtbippecchpaleaaGreatDoor
open Go.RowKit Go.Num Go.Kp
attribute [local go_sem] Oper.semAt_some u64_mask
section
variable (w : World) {u v : Value} {x y z : Int} {Z : List Int}
theorem add2_v (h : RowV w v [x, y]) (hx : szz x ≤ 1000) (hs : szz (x + y) ≤ 1000) : Calls Tryz.prog 99 #[v] w fun e w' => ∃ r, e = .returned r ∧ ZV w' r (x + y) ∧ Grows w w' := by
  obtain ⟨A, c, rfl, hc⟩ := h
  refine (Add_row w A c [x, y] hc (by simp) fun j hj => ?_).mono ?_
  · rcases j with _ | _ | _ | j
    · exact sz_nil'
    · have hx' : sz x.natAbs ≤ 1000 := hx
      simpa using hx'
    · have hs' : sz (x + y).natAbs ≤ 1000 := hs
      simpa using hs'
    · simp at hj
  · rintro e w1 ⟨n, m, rfl, g⟩
    exact ⟨_, rfl, (g.to (show _ = x + y by simp)).zv hs, g.below⟩
theorem mul2_v (h : RowV w v [x, y]) (hx : szz x ≤ 1000) (hs : szz (x * y) ≤ 1000) : Calls Tryz.prog 49 #[v] w fun e w' => ∃ r, e = .returned r ∧ ZV w' r (x * y) ∧ Grows w w' := by
  obtain ⟨A, c, rfl, hc⟩ := h
  refine (Mul_row w A c [x, y] hc (by simp) fun j hj => ?_).mono ?_
  · rcases j with _ | _ | _ | j
    · exact sz_one
    · have hx' : sz x.natAbs ≤ 1000 := hx
      simpa using hx'
    · have hs' : sz (x * y).natAbs ≤ 1000 := hs
      simpa using hs'
    · simp at hj
  · rintro e w1 ⟨n, m, rfl, g⟩
    exact ⟨_, rfl, (g.to (show _ = x * y by simp)).zv hs, g.below⟩
theorem neg_v (h : WV w u x) (hs : szz (-x) ≤ 1000) : Calls Tryz.prog 61 #[u] w fun e w' => ∃ r, e = .returned r ∧ ZV w' r (-x) ∧ Grows w w' := by
  obtain ⟨n, A, k, c, rfl, s⟩ := h
  refine (neg_any w _ _ x s).mono ?_
  rintro e w1 ⟨n, m, rfl, g⟩
  exact ⟨_, rfl, g.zv hs, g.below⟩
theorem from_v (z : Int) (h1 : -9223372036854775808 ≤ z) (h2 : z ≤ 9223372036854775807) : Calls Tryz.prog 84 #[.int .i64 z] w fun e w' => ∃ r, e = .returned r ∧ ZV w' r z ∧ Grows w w' := by
  refine (bfrom_any w z h1 h2).mono ?_
  rintro e w1 ⟨n, m, rfl, g⟩
  exact ⟨_, rfl, g.zv (Nat.le_trans (szz_i64 h1 h2) (by decide)), g.below⟩
theorem div_v (h : WV w u x) (g : WV w v y) (h0 : y ≠ 0) (hs : szz (Int.fdiv x y) ≤ 1000) : Calls Tryz.prog 74 #[u, v] w fun e w' => ∃ r, e = .returned r ∧ (∃ q, r = .tuple #[q, .int .i64 0] ∧ ZV w' q (Int.fdiv x y)) ∧ Grows w w' := by
  obtain ⟨n, A, k, c, rfl, s⟩ := h
  obtain ⟨n', A', k', c', rfl, s'⟩ := g
  refine (bdiv_any w _ _ _ _ x y s s' h0).mono ?_
  rintro e w1 ⟨n, m, rfl, g⟩
  exact ⟨_, rfl, ⟨_, rfl, g.zv hs⟩, g.below⟩
theorem sign_v (h : WV w u x) {k : Int} (hk : Int.sign x = k) : Calls Tryz.prog 70 #[u] w fun e w' => ∃ r, e = .returned r ∧ r = .int .i64 k ∧ Grows w w' := by
  obtain ⟨n, A, i, c, rfl, s⟩ := h
  refine (bsign_any w _ _ x s).mono ?_
  rintro e w1 ⟨rfl, g⟩
  exact ⟨_, rfl, by rw [hk], g⟩
theorem cmp_v (h : WV w u x) (g : WV w v y) {k : Int} (hk : Int.sign (x - y) = k) : Calls Tryz.prog 69 #[u, v] w fun e w' => ∃ r, e = .returned r ∧ r = .int .i64 k ∧ Grows w w' := by
  obtain ⟨n, A, i, c, rfl, s⟩ := h
  obtain ⟨n', A', k', c', rfl, s'⟩ := g
  refine (bcmp_any w _ _ _ _ x y s s').mono ?_
  rintro e w1 ⟨rfl, g⟩
  exact ⟨_, rfl, by rw [hk], g⟩
theorem text_v (h : WV w u x) {s : ByteArray} (hs : ByteArray.mk (ztext x).toArray = s) : Calls Tryz.prog 80 #[u] w fun e w' => ∃ r, e = .returned r ∧ r = .string s ∧ Grows w w' := by
  obtain ⟨n, A, i, c, rfl, sW⟩ := h
  refine (btext_any w _ _ x sW).mono ?_
  rintro e w1 ⟨rfl, g⟩
  exact ⟨_, rfl, by rw [← hs], g⟩
end

/-! The operations. -/
section
attribute [local go_sem] ev_const ev_func ev_global
variable {a : Act} {w : World} {d : Option Tmp} {ty : TypeId} {pos : String} {af : Array Edge} {gu : Option (Nat × Bool)}
theorem op_load (t g : Nat) {x y : Value} (he : ev a (.tmp t) = .pointer (some ⟨g, 0, none⟩)) (h : Box2 w g 24 x y) :
    (execOp (ev a) ⟨d, .load 24 (.tmp t), ty, pos, af, gu⟩).run Tryz.prog w = .ok (.value (.agg #[x, y])) w := by
  have h0 := h.c0
  have h1 := h.c1
  clear h
  go_simp
theorem op_row2 (t t' : Nat) {n n' : Bool} {A A' : Option Addr} {k c k' c' : Nat} (he : ev a (.tmp t) = .agg #[.bool n, .slice A k c]) (he' : ev a (.tmp t') = .agg #[.bool n', .slice A' k' c']) :
    (execOp (ev a) ⟨d, .buildSlice 90 2 #[(0, .tmp t), (1, .tmp t')], ty, pos, af, gu⟩).run Tryz.prog w = .ok (.value (.slice (some ⟨w.heap.size, 0, none⟩) 2 2)) (w.alloc (.cells #[.bool n, .slice A k c, .bool n', .slice A' k' c'] 24)) := by
  go_simp
end
end Go.Proofs.YtbippecchpaleaaGreatDoor
/- few at a value; boxes that are written behind a region. -/
namespace Go.Num
open Go Go.RowKit Go.Kp
theorem few_szz (n : Bool) {l : List Nat} (j : Nat) (hl : Lim l) : szz (sg n (val (l.take j))) ≤ j := by
  unfold szz
  rw [sg_natAbs]
  exact Nat.le_trans (sz_val fun x hx => hl x (List.mem_of_mem_take hx)) (by rw [List.length_take]; omega)
/-- A box of two cells, written. -/
def put2 (w : World) (g : Nat) (x y : Value) : World := (w.setCell ⟨g, 0, none⟩ x).setCell ⟨g, 1, none⟩ y
section
variable {W w : World} {g h : Nat} {T : TypeId} {x y u v : Value}
theorem put2_own (hb : Box2 w g T x y) : Box2 (put2 w g u v) g T u v := (hb.set0 u).set1 v
theorem put2_far (hb : Box2 w g T x y) (hg : g ≠ h) : Box2 (put2 w h u v) g T x y := (hb.apart hg 0 u).apart hg 1 v
theorem put2_below (hb : Below W.heap.size W w) (hg : W.heap.size ≤ g) : Below W.heap.size W (put2 w g u v) := (hb.setCell (p := ⟨g, 0, none⟩) hg u).setCell (p := ⟨g, 1, none⟩) hg v
theorem put2_cell {w : World} {g : Nat} {u v : Value} {p : Addr} (h : p.block ≠ g) : (put2 w g u v).cell? p = w.cell? p := by
  unfold put2
  rw [World.cell?_setCell_far _ _ _ _ (Ne.symm h), World.cell?_setCell_far _ _ _ _ (Ne.symm h)]
theorem Box2.not_limb {w : World} {g : Nat} {T : TypeId} {n : Bool} {A : Option Addr} {k c x : Nat} {p : Addr} (hb : Box2 w g T (.bool n) (.slice A k c)) (h : w.cell? p = some (encU x)) (hp : p.spot = none) : p.block ≠ g := fun e => by
  obtain ⟨q, i, r⟩ := p
  simp only at e hp
  subst e; subst hp
  rw [cell_of_row _ _ _ _ _ _ (show w.heap[q]? = _ from hb)] at h
  rcases i with _ | _ | i <;> simp at h
theorem Cells.put {w : World} {g : Nat} {T : TypeId} {n : Bool} {A B : Option Addr} {k c : Nat} {l : List Nat} (h : Cells encU w B l) (hb : Box2 w g T (.bool n) (.slice A k c)) (u v : Value) : Cells encU (put2 w g u v) B l := fun h0 => by
  obtain ⟨b, o, e, hx⟩ := h h0
  exact ⟨b, o, e, fun j x hj => by rw [put2_cell (hb.not_limb (hx j x hj) rfl)]; exact hx j x hj⟩
theorem Arg.put {w : World} {g : Nat} {T : TypeId} {n : Bool} {A : Option Addr} {k c : Nat} {m : Value} {l : List Nat} (h : Arg encU w m l) (hb : Box2 w g T (.bool n) (.slice A k c)) (u v : Value) : Arg encU (put2 w g u v) m l := by
  obtain ⟨B, d, e, hd, hc⟩ := h.open_
  exact e ▸ Arg.mk_ rfl hd (hc.put hb u v)
theorem Whole.put {w : World} {g : Nat} {T : TypeId} {n n' : Bool} {A : Option Addr} {k c : Nat} {m : Value} {z : Int} (h : Whole w n' m z) (hb : Box2 w g T (.bool n) (.slice A k c)) (u v : Value) : Whole (put2 w g u v) n' m z := by
  obtain ⟨l, a, hn, hl, e⟩ := h
  exact ⟨l, a, ⟨hn.arg.put hb u v, hn.lim, hn.len, hn.val⟩, hl, e⟩
theorem Sound.put {w : World} {g : Nat} {T : TypeId} {n n' : Bool} {A : Option Addr} {k c : Nat} {m : Value} {z : Int} (h : Sound w n' m z) (hb : Box2 w g T (.bool n) (.slice A k c)) (u v : Value) : Sound (put2 w g u v) n' m z :=
  ⟨h.sign, ⟨h.num.arg.put hb u v, h.num.lim, h.num.len, h.num.val⟩, h.short⟩
end
end Go.Num
namespace Go.Kp
open Go
theorem wpList_of_skip {P : Program} {ops : Array Oper} {Q : Exit → Act → World → Prop} {a : Act} {w w' : World} {o : Oper} {rest : List Oper} (hg : o.guard = none) (h : (execOp (ev a) o).run P w = .ok .skip w') (hr : wpList P ops Q rest (a.put o.dst undef) w') : wpList P ops Q (o :: rest) a w := by
  refine wpList_plain hg fun K hK => wp_of_skip h (hK _ _ hr)
end Go.Kp
namespace Go.Proofs.YtbippecchpaleaaGreatDoor
open Go.RowKit Go.Num Go.Kp
attribute [local go_sem] Oper.semAt_some u64_mask ev_const ev_func ev_global
theorem op_store {a : Act} {w : World} {ty : TypeId} {pos : String} {af : Array Edge} {gu : Option (Nat × Bool)} (t t' g : Nat) {x y : Value} {n : Bool} {A : Option Addr} {k c : Nat} (he : ev a (.tmp t) = .pointer (some ⟨g, 0, none⟩)) (he' : ev a (.tmp t') = .agg #[.bool n, .slice A k c]) (h : Box2 w g 24 x y) :
    (execOp (ev a) ⟨none, .store 24 (.tmp t) (.tmp t'), ty, pos, af, gu⟩).run Tryz.prog w = .ok .skip (put2 w g (.bool n) (.slice A k c)) := by
  have h0 := h.c0
  have h1 := h.c1
  have h2 := h.f0
  have h3 := h.f1
  have h4 : (w.setCell ⟨g, 0, none⟩ (.bool n)).cell? ⟨g, 1, none⟩ = some y := (h.set0 _).c1
  have h5 : (w.setCell ⟨g, 0, none⟩ (.bool n)).frozen? ⟨g, 1, none⟩ = false := (h.set0 _).f1
  clear h
  unfold put2
  go_simp
end Go.Proofs.YtbippecchpaleaaGreatDoor
/- More contracts of package big in the word of values: Small, Of, Right that says no, divs, Parse that says no, Mul of three, Add of none. -/
namespace Go.Num
open Go Go.RowKit Go.Kp
section
variable {w w' : World} {v : Value} {z : Int} {Z : List Int}
theorem RowV.nil_ (w : World) (c : Nat) : RowV w (.slice none 0 c) [] := ⟨none, c, rfl, fun h => absurd h (Nat.lt_irrefl _)⟩
theorem RowV.three {T : TypeId} {n n' n'' : Bool} {A A' A'' : Option Addr} {k c k' c' k'' c'' : Nat} {x y : Int} (h : Whole w n (.slice A k c) z) (h' : Whole w n' (.slice A' k' c') y) (h'' : Whole w n'' (.slice A'' k'' c'') x) : RowV (w.alloc (.cells #[.bool n, .slice A k c, .bool n', .slice A' k' c', .bool n'', .slice A'' k'' c''] T)) (.slice (some ⟨w.heap.size, 0, none⟩) 3 3) [z, y, x] := by
  refine ⟨_, 3, rfl, fun _ => ⟨w.heap.size, 0, rfl, fun j q hj => ?_⟩⟩
  have hc : ∀ i, (w.alloc (.cells #[.bool n, .slice A k c, .bool n', .slice A' k' c', .bool n'', .slice A'' k'' c''] T)).cell? ⟨w.heap.size, i, none⟩ = #[Value.bool n, .slice A k c, .bool n', .slice A' k' c', .bool n'', .slice A'' k'' c''][i]? := fun i => cell_of_row _ _ _ _ _ _ (heap_alloc_new w _)
  rcases j with _ | _ | _ | j
  · obtain rfl : z = q := by simpa using hj
    exact ⟨n, _, (hc 0).trans rfl, (hc 1).trans rfl, h.alloc _⟩
  · obtain rfl : y = q := by simpa using hj
    exact ⟨n', _, (hc 2).trans rfl, (hc 3).trans rfl, h'.alloc _⟩
  · obtain rfl : x = q := by simpa using hj
    exact ⟨n'', _, (hc 4).trans rfl, (hc 5).trans rfl, h''.alloc _⟩
  · simp at hj
end
/-- A row of words that reads as the number a. -/
def LV (w : World) (v : Value) (l : List Nat) (a : Nat) : Prop := ∃ A c, v = .slice A l.length c ∧ Num w v l a
theorem LV.grow {w w' : World} {v : Value} {l : List Nat} {a : Nat} (h : LV w v l a) (hb : Grows w w') : LV w' v l a := by
  obtain ⟨A, c, e, s⟩ := h
  exact ⟨A, c, e, s.below hb⟩
end Go.Num
namespace Go.Proofs.YtbippecchpaleaaGreatDoor
open Go.RowKit Go.Num Go.Kp
attribute [local go_sem] Oper.semAt_some u64_mask
section
variable (w : World) {u v : Value} {x y z : Int} {Z : List Int}
theorem of_v (n : Bool) {m : Value} {l : List Nat} {a : Nat} (h : LV w m l a) (hz : sg n a = z) (hs : szz z ≤ 1000) : Calls Tryz.prog 50 #[.bool n, m] w fun e w' => ∃ r, e = .returned r ∧ ZV w' r z ∧ Grows w w' := by
  obtain ⟨A, c, rfl, s⟩ := h
  refine (of_num w n _ l a z s hz).mono ?_
  rintro e w1 ⟨n, m, rfl, g⟩
  exact ⟨_, rfl, g.zv hs, g.below⟩
theorem parse_no_v (w : World) (l : List UInt8) (hs : l.length ≤ 900000) (h : (∃ t, l = 45 :: t ∧ (goodText t = false ∨ goodText t = true ∧ tval 0 t = 0)) ∨ l.head? ≠ some 45 ∧ goodText l = false) {s : ByteArray} (e : ByteArray.mk l.toArray = s) :
    Calls Tryz.prog 87 #[.string s] w fun e w' => ∃ r, e = .returned r ∧ (∃ u0, r = .tuple #[u0, .bool false] ∧ ZV w' u0 0) ∧ Grows w w' := by
  subst e
  rcases h with ⟨t, rfl, h | ⟨h, h0⟩⟩ | ⟨h, hg⟩
  · refine (parse_neg_bad w t h (by simp at hs; omega)).mono ?_
    rintro e w1 ⟨rfl, g⟩
    exact ⟨_, rfl, ⟨_, rfl, ZV.zero _ _⟩, g⟩
  · refine (parse_neg_zero w t h h0 (by simp at hs; omega)).mono ?_
    rintro e w1 ⟨rfl, g⟩
    exact ⟨_, rfl, ⟨_, rfl, ZV.zero _ _⟩, g⟩
  · refine (parse_pos_bad w l h hg hs).mono ?_
    rintro e w1 ⟨rfl, g⟩
    exact ⟨_, rfl, ⟨_, rfl, ZV.zero _ _⟩, g⟩
end
section
attribute [local go_sem] ev_const ev_func ev_global
variable {a : Act} {w : World} {d : Option Tmp} {ty : TypeId} {pos : String} {af : Array Edge} {gu : Option (Nat × Bool)}
end
end Go.Proofs.YtbippecchpaleaaGreatDoor

