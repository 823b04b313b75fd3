import Derived.Test.YtbippecchpaleaaGreatDoorGBox
import Derived.Test.YtbippecchpaleaaGreatDoorGNat
import Derived.Deep.RegionWith
import Derived.Deep.CutRange
import Derived.Deep.LoopGhost
/- nat.Sub: what it returns. Conditions: rows of at most a hundred thousand limbs. -/
namespace Go.Proofs.YtbippecchpaleaaGreatDoor
open Go.RowKit Go.Num Go.Shelf
attribute [local go_sem] Oper.semAt_some u64_mask shr63

set_option maxHeartbeats 1000000 in
theorem sub_no (w : World) (va vb : Value) (la lb : List Nat) (a b : Nat) (ha : Num w va la a) (hb : Num w vb lb b) (h : a < b) :
    Calls Tryz.prog 132 #[va, vb] w fun e w' => e = .returned (.tuple #[.slice none 0 0, .bool false]) ∧ Below w.heap.size w w' := by
  have hc : cmpN a b = -1 := cmpN_lt h
  go_enter Tryz.func132, Tryz.ntmps132
  go_wp2_with fail
  refine (cmp_any _ _ _ _ _ _ _ ha hb).mono ?_
  rintro e w1 ⟨rfl, hb1⟩
  rw [hc]
  go_wp2
  go_ret2
  exact ⟨rfl, hb1⟩

/-- Where a loop over two numbers' limbs begins. -/
structure PairsAt (lo : Nat) (w1 W0 : World) (A1 A2 : Option Addr) (c1 c2 : Nat) (la lb : List Nat) : Prop where
  sz : W0.heap.size = lo + 5
  out : Boxed W0 lo 22 (.slice none 0 0)
  carry : Boxed W0 (lo + 1) 47 (.int .u64 ((0 : Nat) : Int))
  b0 : W0.cell? ⟨lo + 2, 0, none⟩ = some (.slice A1 la.length c1)
  b1 : W0.cell? ⟨lo + 2 + 1, 0, none⟩ = some (.slice A2 lb.length c2)
  b2 : W0.cell? ⟨lo + 2 + 2, 0, none⟩ = some (.func (.func 155) #[] #[])
  below : Below lo w1 W0
  cells1 : Cells encU W0 A1 la
  cells2 : Cells encU W0 A2 lb
  old1 : 0 < la.length → ∀ x, A1 = some x → x.block < lo
  old2 : 0 < lb.length → ∀ x, A2 = some x → x.block < lo
theorem pairsAt (w1 : World) (A1 A2 : Option Addr) (c1 c2 : Nat) (la lb : List Nat) (hr1 : Cells encU w1 A1 la) (hr2 : Cells encU w1 A2 lb) : PairsAt w1.heap.size w1 (((((w1.alloc (.cells #[.slice none 0 0] 22)).alloc (.cells #[.int .u64 0] 47)).alloc (.cells #[.slice A1 la.length c1] 22)).alloc (.cells #[.slice A2 lb.length c2] 22)).alloc (.cells #[.func (.func 155) #[] #[]] 142)) A1 A2 c1 c2 la lb := by
  obtain ⟨lo, hlo⟩ : ∃ lo, lo = w1.heap.size := ⟨_, rfl⟩
  obtain ⟨W0, hW0⟩ : ∃ W0, W0 = ((((w1.alloc (.cells #[.slice none 0 0] 22)).alloc (.cells #[.int .u64 0] 47)).alloc (.cells #[.slice A1 la.length c1] 22)).alloc (.cells #[.slice A2 lb.length c2] 22)).alloc (.cells #[.func (.func 155) #[] #[]] 142) := ⟨_, rfl⟩
  have hsz : W0.heap.size = lo + 5 := by rw [hW0, hlo]; simp
  have hbo : Boxed W0 lo 22 (.slice none 0 0) := by rw [hW0, hlo]; exact ((((Boxed.new w1 _ _).alloc _).alloc _).alloc _).alloc _
  have hbc : Boxed W0 (lo + 1) 47 (.int .u64 ((0 : Nat) : Int)) := by
    have := (((Boxed.new (w1.alloc (.cells #[.slice none 0 0] 22)) 47 (.int .u64 0)).alloc (.cells #[.slice A1 la.length c1] 22)).alloc (.cells #[.slice A2 lb.length c2] 22)).alloc (.cells #[.func (.func 155) #[] #[]] 142)
    rw [World.size_alloc] at this
    rw [hW0, hlo]; exact this
  have hx0 : Boxed W0 (lo + 2) 22 (.slice A1 la.length c1) := by
    have := ((Boxed.new ((w1.alloc (.cells #[.slice none 0 0] 22)).alloc (.cells #[.int .u64 0] 47)) 22 (.slice A1 la.length c1)).alloc (.cells #[.slice A2 lb.length c2] 22)).alloc (.cells #[.func (.func 155) #[] #[]] 142)
    simp only [World.size_alloc] at this
    rw [hW0, hlo]; exact this
  have hx1 : Boxed W0 (lo + 2 + 1) 22 (.slice A2 lb.length c2) := by
    have := (Boxed.new (((w1.alloc (.cells #[.slice none 0 0] 22)).alloc (.cells #[.int .u64 0] 47)).alloc (.cells #[.slice A1 la.length c1] 22)) 22 (.slice A2 lb.length c2)).alloc (.cells #[.func (.func 155) #[] #[]] 142)
    simp only [World.size_alloc] at this
    rw [hW0, hlo]; exact this
  have hx2 : Boxed W0 (lo + 2 + 2) 142 (.func (.func 155) #[] #[]) := by
    have := Boxed.new ((((w1.alloc (.cells #[.slice none 0 0] 22)).alloc (.cells #[.int .u64 0] 47)).alloc (.cells #[.slice A1 la.length c1] 22)).alloc (.cells #[.slice A2 lb.length c2] 22)) 142 (.func (.func 155) #[] #[])
    simp only [World.size_alloc] at this
    rw [hW0, hlo]; exact this
  have hB1 : Below lo w1 W0 := by rw [hW0, hlo]; exact ((((((Below.refl _ w1).alloc (Nat.le_refl _) _).alloc (by simp) _).alloc (by simp; omega) _).alloc (by simp; omega) _).alloc (by simp; omega) _)
  have hr1' : Cells encU W0 A1 la := hr1.below (by rw [← hlo]; exact hB1)
  have hr2' : Cells encU W0 A2 lb := hr2.below (by rw [← hlo]; exact hB1)
  have hA1 : 0 < la.length → ∀ x, A1 = some x → x.block < lo := fun h0 x e => by
    obtain ⟨b0, o0, e0, hx⟩ := hr1 h0
    obtain ⟨y, hy⟩ := get_some h0
    have := World.block_lt_of_cell? w1 _ (hx 0 y hy)
    rw [e] at e0; cases e0; rw [hlo]; exact this
  have hA2 : 0 < lb.length → ∀ x, A2 = some x → x.block < lo := fun h0 x e => by
    obtain ⟨b0, o0, e0, hx⟩ := hr2 h0
    obtain ⟨y, hy⟩ := get_some h0
    have := World.block_lt_of_cell? w1 _ (hx 0 y hy)
    rw [e] at e0; cases e0; rw [hlo]; exact this
  rw [← hW0, ← hlo]
  exact ⟨hsz, hbo, hbc, hx0.cell, hx1.cell, hx2.cell, hB1, hr1', hr2', hA1, hA2⟩

/-- What holds between two rounds of nat.Sub. -/
def SubInv (pre : List Lb) (r : List Nat) (c : Nat) : Prop := r.length = pre.length ∧ Lim r ∧ c ≤ 1 ∧ val (fsts pre) + 4294967296 ^ pre.length * c = val r + val (snds pre)
theorem SubInv.step {pre : List Lb} {r : List Nat} {c : Nat} (h : SubInv pre r c) (x : Lb) {D : Nat} (h1 : hi63 D ≤ 1) (hd : x.1.1 + 4294967296 * hi63 D = D % 4294967296 + x.1.2 + c) : SubInv (pre ++ [x]) (r ++ [D % 4294967296]) (hi63 D) := by
  obtain ⟨hl, hr, _, hv⟩ := h
  refine ⟨by simp [hl], hr.snoc (Nat.mod_lt _ (by decide)), h1, ?_⟩
  unfold fsts snds at *
  rw [List.map_append, List.map_append, List.map_singleton, List.map_singleton, val_snoc, val_snoc, val_snoc, List.length_append, List.length_singleton, pow_succ', List.length_map, List.length_map, hl]
  exact sub_step hv hd

set_option maxHeartbeats 4000000 in
set_option maxRecDepth 100000 in
theorem sub_yes (w : World) (va vb : Value) (la lb : List Nat) (a b : Nat) (ha : Num w va la a) (hb : Num w vb lb b) (h : b ≤ a) :
    Calls Tryz.prog 132 #[va, vb] w fun e w' => ∃ v', e = .returned (.tuple #[v', .bool true]) ∧ Gives 43 encU w w' v' (limbs (a - b)) := by
  obtain ⟨i0, hi, hz0, hz1, hz2⟩ := info_parts infoU
  have hc : (0 : Int) ≤ cmpN a b := by
    rcases Nat.lt_or_ge b a with h' | h'
    · rw [cmpN_gt h']; decide
    · rw [cmpN_eq (by omega)]; decide
  refine (callsIn_wide (n := 10)).1 ?_
  refine callsIn_of_wp_marks Tryz.func132 rfl trivial ?_ rfl
  simp only [Tryz.ntmps132, List.size_toArray, List.length_cons, List.length_nil, Nat.reduceAdd, Nat.reduceSub, Array.replicate_succ, Array.replicate_zero, List.push_toArray, List.append_toArray, List.nil_append, List.cons_append]
  gi_wp2_with fail
  refine ⟨trivial, callsIn_wide.2 ((cmp_any _ _ _ _ _ _ _ ha hb).mono ?_)⟩
  rintro e w1 ⟨rfl, hb1⟩
  have ha1 := ha.below hb1
  have hb2 := hb.below hb1
  obtain ⟨A1, c1, rfl, hc1, hr1⟩ := ha1.arg.open_
  obtain ⟨A2, c2, rfl, hc2, hr2⟩ := hb2.arg.open_
  generalize cmpN a b = cc at *
  gi_wp2_with fail
  refine ⟨trivial, callsIn_wide.2 ((pairs_any _ _ _ _ _ _ _).mono ?_)⟩
  rintro e w2 ⟨rfl, rfl⟩
  simp only [World.size_alloc]
  have hla := ha.len
  have hlb := hb.len
  have hP := pairsAt w1 A1 A2 c1 c2 la lb hr1 hr2
  obtain ⟨lo, hlo⟩ : ∃ lo, lo = w1.heap.size := ⟨_, rfl⟩
  obtain ⟨W0, hW0⟩ : ∃ W0, W0 = ((((w1.alloc (.cells #[.slice none 0 0] 22)).alloc (.cells #[.int .u64 0] 47)).alloc (.cells #[.slice A1 la.length c1] 22)).alloc (.cells #[.slice A2 lb.length c2] 22)).alloc (.cells #[.func (.func 155) #[] #[]] 142) := ⟨_, rfl⟩
  rw [← hW0, ← hlo] at hP
  rw [← hW0, ← hlo]
  clear hW0
  have HP := Lib.hid hP
  have Hsz := Lib.hid hP.sz
  have Hlo := Lib.hid hlo
  clear hP hlo ha1 hb2 hr1 hr2
  gi_wp2_with fail
  refine wpIn_rangeFunc_ownF rfl (by decide) (gf := 156) (lb := #[.pointer (some ⟨lo + 2, 0, none⟩), .pointer (some ⟨lo + 2 + 1, 0, none⟩), .pointer (some ⟨lo + 2 + 2, 0, none⟩)]) rfl trivial (enters_of Tryz.func156 (by kernel_rfl) rfl)
    (pairs_stops 9 lo (lo + 5) A1 A2 c1 c2 la lb ha.lim hb.lim (by omega) (by omega) W0 (lo + 2) (by omega) (by omega) (by rw [Hsz.out]; omega) HP.out.cells1 HP.out.cells2 HP.out.old1 HP.out.old2 HP.out.b0 HP.out.b1 HP.out.b2)
    (fun h k => h.trans k) (KeepP.putObj (by rw [Hsz.out]; omega)) (Below.refl _ _) (fun _ => rfl)
    (fun pre W => ∃ v r c, Boxed W lo 22 v ∧ Boxed W (lo + 1) 47 (.int .u64 (c : Nat)) ∧ W.ownsRow (lo + 5) 43 1 v r.length (r.map encU) ∧ KeepP lo (lo + 5) W0 W ∧ SubInv pre r c)
    (fun _ _ _ => False)
    (box_own _ _ W0 lo (lo + 5) _ _ _ (fun pre _ r c => SubInv pre r c) (by rw [Hsz.out]; omega) (Nat.le_refl _))
    (fun _ _ _ _ _ hs _ _ => hs)
    ⟨_, [], 0, HP.out.out, HP.out.carry, World.ownsRow_nil _ _ _ _, KeepP.refl _ _ _, rfl, Lim.nil, by omega, by simp [fsts, snds]⟩
    (fun x => { tmps := #[.slice A1 la.length c1, .slice A2 lb.length c2, undef, undef, .slice none 0 0, .bool false, .pointer (some ⟨lo, 0, none⟩), .pointer (some ⟨lo + 1, 0, none⟩), .int .u64 x.1.1, .int .u64 x.1.2, undef, .slice A1 la.length c1, .slice A2 lb.length c2, .int .i64 cc, .bool (decide (cc < 0)), .slice A1 la.length c1, .slice A2 lb.length c2, .func (.func 156) #[] #[.pointer (some ⟨lo + 2, 0, none⟩), .pointer (some ⟨lo + 2 + 1, 0, none⟩), .pointer (some ⟨lo + 2 + 2, 0, none⟩)], .int .u64 x.1.1, .int .u64 x.1.2, undef, undef, undef, undef, undef, undef, undef, undef, undef, undef, undef, undef, undef, undef, undef], defers := [] }) ?assign ?body ?done ?stop
  case assign =>
    intro l x W K hK
    gi_wp2
    exact hK
  case body =>
    rintro l pre x W ⟨v, r, c, hbo, hbc, hrow, hk, hinv⟩ hlen
    have hN : lo + 5 ≤ W.heap.size := by have := hk.size; have := Hsz.out; omega
    obtain ⟨D, hD, hD1, hD2, hD3⟩ := sub64 x.1.1 x.1.2 c x.2.1 x.2.2 hinv.2.2.1
    have Hst := Lib.hid (hinv.step x hD2 hD3)
    have hrl : r.length ≤ 100000 := by rw [hinv.1]; omega
    clear hD2 hD3 hinv hlen
    have hc1 := hbo.cell
    have hf1 := hbo.frozen
    have hc2 := hbc.cell
    have hf2 := hbc.frozen
    gi_wp2_with (gi_at_builtin; refine wpListIn_append_own _ rfl _ _ 22 rfl (lo + 5) 43 i0 (.int .u32 0) 1 4 Tryz.underlying22 hi hz0 hz1 hz2 rfl (by decide) _ _ _ rfl (hrow.alloc _) ⟨W.heap.size, 0, none⟩ 1 1 [.int .u32 ((D : Int) % 4294967296)] rfl rfl (cell_one_new _ _ _) (by simp [Value.oneCell']) (by unfold maxLen; omega) (by omega) (by simp; omega) ?_; intro v' w3 hown' hgrow _; obtain ⟨g', cap', rfl⟩ := ownsRow_succ hown'; obtain ⟨p1, p2, p3, p4⟩ := box_push (e := 43) hbo hbc (by decide) (by decide) hrow hN hgrow; have hd1 := p1.cell; have hd2 := p1.frozen; have hd3 := p2.cell; have hd4 := p2.frozen)
    obtain ⟨q1, q2, q3, q4, q5⟩ := box_store (u' := .int .u64 (hi63 D : Nat)) p1 p2 (by decide) (by decide) hown'
    exact ⟨p4.trans q5, p3.trans q4, _, r ++ [D % 4294967296], hi63 D, q1, q2, row_snoc q3 (by simp), hk.trans (p3.trans q4), Hst.out⟩
  case done =>
    rintro D ys W hD rfl ⟨v, r, c, hbo, hbc, hrow, hk, hinv⟩ hK
    have hval : val r = a - b ∧ Lim r ∧ r.length ≤ 1000000 := by
      obtain ⟨e1, e2, e3, e4⟩ := hinv
      rw [ups_length] at e1 e4
      rw [fsts_ups _ _ _ (Nat.le_max_left _ _), snds_ups _ _ _ (Nat.le_max_right _ _), ha.val, hb.val] at e4
      have hlt := val_lt e2
      rw [e1] at hlt
      refine ⟨?_, e2, by omega⟩
      rcases (show c = 0 ∨ c = 1 by omega) with rfl | rfl
      · omega
      · rw [Nat.mul_one] at e4; omega
    have HV := Lib.hid hval
    clear hval hinv
    have hc1 := hbo.cell
    have harg : Arg encU W v r := ownsRow_arg hrow
    gi_wp2_with fail
    refine ⟨trivial, callsIn_wide.2 ((trim_any _ _ r harg HV.out.2.1 HV.out.2.2).mono ?_)⟩
    rintro e w5 ⟨v5, rfl, hg⟩
    have hK5 : w5.heap[D]? = some (.deferred (some [])) := (hg.below.block D (Array.getElem?_eq_some_iff.1 hK).1).trans hK
    gi_wp2
    refine ⟨by simp, .inl ⟨_, _, rfl, run_takeDeferred hK5, ?_⟩⟩
    have hs1 := hb1.size
    have hlo := Hlo.out
    have hbW : Below w.heap.size w W := hk.under (by omega) (by omega) (hb1.trans (HP.out.below.mono (by omega)))
    have hsz := Hsz.out
    refine ⟨_, results_tmp2 rfl _ _ _, v5, rfl, ?_⟩
    rw [HV.out.1] at hg
    exact (hg.after hbW).putObj _ (by omega) hK5 rfl
  case stop =>
    rintro D c pre W _ _ h _
    exact h.elim
end Go.Proofs.YtbippecchpaleaaGreatDoor
/- nat.sum of two, nat.Add: what each returns. Conditions: rows of at most a hundred thousand limbs. -/
namespace Go.Proofs.YtbippecchpaleaaGreatDoor
open Go.RowKit Go.Num Go.Shelf
attribute [local go_sem] Oper.semAt_some u64_mask

section
variable {W w1 : World} {lo N : Nat} {t1 t2 e : TypeId} {size : Nat} {v u u' : Value} {k m : Nat} {xs : List Value}
theorem box_num (_hbo : Boxed W lo t1 v) (hbc : Boxed W (lo + 1) t2 u) (h2 : t2 ≠ e) (hrow : W.ownsRow N e size v k xs) : (W.setCell ⟨lo + 1, 0, none⟩ u').ownsRow N e size v k xs :=
  hrow.kept (grownBy_setCell' W (lo + 1) u') (.inr (hbc.not_row h2 hrow).symm)
theorem box_num1 (hbo : Boxed W lo t1 v) : Boxed (W.setCell ⟨lo + 1, 0, none⟩ u') lo t1 v :=
  hbo.kept (grownBy_setCell' W (lo + 1) u') (fun e => by have := Option.some.inj e; omega)
theorem box_num2 (hbc : Boxed W (lo + 1) t2 u) : Boxed (W.setCell ⟨lo + 1, 0, none⟩ u') (lo + 1) t2 u' := hbc.set u'
theorem box_num3 : KeepP lo N W (W.setCell ⟨lo + 1, 0, none⟩ u') := (KeepP.refl lo N W).set (p := ⟨lo + 1, 0, none⟩) (.inr rfl) u'
theorem box_num4 : KeepsOthers W (W.setCell ⟨lo + 1, 0, none⟩ u') := KeepsOthers.setCell _ _ _
end

/-- What holds between two rounds of nat.sum. -/
def AddInv (pre : List Lb) (r : List Nat) (c : Nat) : Prop := r.length = pre.length ∧ Lim r ∧ c ≤ 1 ∧ val r + 4294967296 ^ pre.length * c = val (fsts pre) + val (snds pre)
theorem AddInv.step {pre : List Lb} {r : List Nat} {c : Nat} (h : AddInv pre r c) (x : Lb) {S : Nat} (hS : S = c + (x.1.1 + x.1.2)) : AddInv (pre ++ [x]) (r ++ [S % 4294967296]) (S / 4294967296) := by
  obtain ⟨hl, hr, hc, hv⟩ := h
  have hx := x.2.1
  have hy := x.2.2
  refine ⟨by simp [hl], hr.snoc (Nat.mod_lt _ (by decide)), by omega, ?_⟩
  unfold fsts snds at *
  rw [List.map_append, List.map_append, List.map_singleton, List.map_singleton, val_snoc, val_snoc, val_snoc, List.length_append, List.length_singleton, pow_succ', List.length_map, List.length_map, hl]
  exact add_step hv (by omega)

set_option maxHeartbeats 4000000 in
set_option maxRecDepth 100000 in
theorem sum_any (w : World) (g : Nat) (va vb : Value) (la lb : List Nat) (a b : Nat) (ha : Num w va la a) (hb : Num w vb lb b) (hg0 : w.cell? ⟨g, 0, none⟩ = some va) (hg1 : w.cell? ⟨g, 1, none⟩ = some vb) :
    Calls Tryz.prog 145 #[.slice (some ⟨g, 0, none⟩) 2 2] w fun e w' => ∃ v', e = .returned v' ∧ Gives 43 encU w w' v' (limbs (a + b)) := by
  obtain ⟨i0, hi, hz0, hz1, hz2⟩ := info_parts infoU
  refine (callsIn_wide (n := 10)).1 ?_
  refine callsIn_of_wp_marks Tryz.func145 rfl trivial ?_ rfl
  simp only [Tryz.ntmps145, List.size_toArray, List.length_cons, List.length_nil, Nat.reduceAdd, Nat.reduceSub, Array.replicate_succ, Array.replicate_zero, List.push_toArray, List.append_toArray, List.nil_append, List.cons_append]
  obtain ⟨A1, c1, rfl, hc1, hr1⟩ := ha.arg.open_
  obtain ⟨A2, c2, rfl, hc2, hr2⟩ := hb.arg.open_
  have hla := ha.len
  have hlb := hb.len
  gi_wp2_with fail
  refine wpIn_loop_rounds 3 ?_
  rw [roundsIn_succ]
  gi_wp2_with fail
  refine ⟨trivial, callsIn_wide.2 ((pairs_any _ _ _ _ _ _ _).mono ?_)⟩
  rintro e wp1 ⟨rfl, rfl⟩
  simp only [World.size_alloc]
  have hP1 : PairsAt _ w (((((w.alloc (.cells #[.slice none 0 0] 22)).alloc (.cells #[.int .u64 0] 47)).alloc (.cells #[.slice none 0 0] 22)).alloc (.cells #[.slice A1 la.length c1] 22)).alloc (.cells #[.func (.func 155) #[] #[]] 142)) none A1 0 c1 ([] : List Nat) la := pairsAt w none A1 0 c1 ([] : List Nat) la (Cells.nil_ _ _ _) hr1
  obtain ⟨lo1, hlo1⟩ : ∃ lo, lo = w.heap.size := ⟨_, rfl⟩
  obtain ⟨W01, hW01⟩ : ∃ W0, W0 = ((((w.alloc (.cells #[.slice none 0 0] 22)).alloc (.cells #[.int .u64 0] 47)).alloc (.cells #[.slice none 0 0] 22)).alloc (.cells #[.slice A1 la.length c1] 22)).alloc (.cells #[.func (.func 155) #[] #[]] 142) := ⟨_, rfl⟩
  rw [← hW01, ← hlo1] at hP1
  rw [← hW01, ← hlo1]
  clear hW01
  have HP1 := Lib.hid hP1
  have Hsz1 := Lib.hid hP1.sz
  have Hlo1 := Lib.hid hlo1
  clear hP1 hlo1
  gi_wp2_with fail
  refine wpIn_rangeFunc_ownF rfl (by decide) (gf := 156) (lb := #[.pointer (some ⟨lo1 + 2, 0, none⟩), .pointer (some ⟨lo1 + 2 + 1, 0, none⟩), .pointer (some ⟨lo1 + 2 + 2, 0, none⟩)]) rfl trivial (enters_of Tryz.func156 (by kernel_rfl) rfl)
    (pairs_stops 9 lo1 (lo1 + 5) none A1 0 c1 ([] : List Nat) la Lim.nil ha.lim (by simp) (by omega) W01 (lo1 + 2) (by omega) (by omega) (by rw [Hsz1.out]; omega) HP1.out.cells1 HP1.out.cells2 HP1.out.old1 HP1.out.old2 HP1.out.b0 HP1.out.b1 HP1.out.b2)
    (fun h k => h.trans k) (KeepP.putObj (by rw [Hsz1.out]; omega)) (Below.refl _ _) (fun _ => rfl)
    (fun pre W => ∃ v r c, Boxed W lo1 22 v ∧ Boxed W (lo1 + 1) 47 (.int .u64 (c : Nat)) ∧ W.ownsRow (lo1 + 5) 43 1 v r.length (r.map encU) ∧ KeepP lo1 (lo1 + 5) W01 W ∧ AddInv pre r c)
    (fun _ _ _ => False)
    (box_own _ _ W01 lo1 (lo1 + 5) _ _ _ (fun pre _ r c => AddInv pre r c) (by rw [Hsz1.out]; omega) (Nat.le_refl _))
    (fun _ _ _ _ _ hs _ _ => hs)
    ⟨_, [], 0, HP1.out.out, HP1.out.carry, World.ownsRow_nil _ _ _ _, KeepP.refl _ _ _, rfl, Lim.nil, by omega, by simp [fsts, snds]⟩
    (fun x => { tmps := #[.slice (some ⟨g, 0, none⟩) 2 2, undef, .slice none 0 0, undef, .slice A1 la.length c1, .pointer (some ⟨lo1, 0, none⟩), .pointer (some ⟨lo1 + 1, 0, none⟩), .int .u64 x.1.1, .int .u64 x.1.2, .slice (some ⟨g, 0, none⟩) 2 2, .int .i64 2, .int .i64 0, .bool true, .pointer (some ⟨g, 0, none⟩), .slice A1 la.length c1, .slice none 0 0, .slice A1 la.length c1, .func (.func 156) #[] #[.pointer (some ⟨lo1 + 2, 0, none⟩), .pointer (some ⟨lo1 + 2 + 1, 0, none⟩), .pointer (some ⟨lo1 + 2 + 2, 0, none⟩)], .int .u64 x.1.1, .int .u64 x.1.2, undef, undef, undef, undef, undef, undef, undef, undef, undef, undef, undef, undef, undef, undef, undef, undef, undef, undef, undef, undef, undef], defers := [] }) ?assign1 ?body1 ?done1 ?stop1
  case assign1 =>
    intro l x W K hK
    gi_wp2
    exact hK
  case body1 =>
    rintro l pre x W ⟨v, r, c, hbo, hbc, hrow, hk, hinv⟩ hlen
    have hN : lo1 + 5 ≤ W.heap.size := by have := hk.size; have := Hsz1.out; omega
    obtain ⟨S, hS⟩ : ∃ S : Nat, S = c + (x.1.1 + x.1.2) := ⟨_, rfl⟩
    have hSi : (c : Int) + ((x.1.1 : Int) + (x.1.2 : Int)) = (S : Int) := by rw [hS]; simp
    have hSb : S / 4294967296 < 4294967296 := by have := x.2.1; have := x.2.2; have := hinv.2.2.1; omega
    have hxy : x.1.1 + x.1.2 ≤ S := by omega
    have Hst := Lib.hid (hinv.step x hS)
    have hrl : r.length ≤ 300000 := by have := @List.length_nil Nat; rw [hinv.1]; omega
    clear hS hinv hlen
    have hc1 := hbo.cell
    have hf1 := hbo.frozen
    have hc2 := hbc.cell
    have hf2 := hbc.frozen
    gi_wp2_with (gi_at_builtin; refine wpListIn_append_own _ rfl _ _ 22 rfl (lo1 + 5) 43 i0 (.int .u32 0) 1 4 Tryz.underlying22 hi hz0 hz1 hz2 rfl (by decide) _ _ _ rfl ((box_num hbo hbc (by decide) hrow).alloc _) ⟨W.heap.size, 0, none⟩ 1 1 [.int .u32 ((S : Int) % 4294967296)] rfl rfl (by simpa using cell_one_new (W.setCell ⟨lo1 + 1, 0, none⟩ (.int .u64 S)) _ _) (by simp [Value.oneCell']) (by unfold maxLen; omega) (by omega) (by simp; omega) ?_; intro v' w3 hown' hgrow _; obtain ⟨g', cap', rfl⟩ := ownsRow_succ hown'; obtain ⟨p1, p2, p3, p4⟩ := box_push (e := 43) (box_num1 hbo) (box_num2 hbc) (by decide) (by decide) (box_num hbo hbc (by decide) hrow) (by simp; omega) hgrow; have hd1 := p1.cell; have hd2 := p1.frozen; have hd3 := p2.cell; have hd4 := p2.frozen)
    obtain ⟨q1, q2, q3, q4, q5⟩ := box_store (u' := .int .u64 (S / 4294967296 : Nat)) p1 p2 (by decide) (by decide) hown'
    exact ⟨box_num4.trans (p4.trans q5), box_num3.trans (p3.trans q4), _, r ++ [S % 4294967296], S / 4294967296, q1, q2, row_snoc q3 (by simp), hk.trans (box_num3.trans (p3.trans q4)), Hst.out⟩
  case done1 =>
    rintro D1 ys W1 hD1 rfl ⟨v1, r1, q1, hbo, hbc, hrow, hk, hinv⟩ hK1
    have hc1 := hbo.cell
    have hc2 := hbc.cell
    have hN : lo1 + 5 ≤ W1.heap.size := by have := hk.size; have := Hsz1.out; omega
    have hcc := hinv.2.2.1
    have hrl : r1.length ≤ 100000 + 1 := by have := @List.length_nil Nat; have := hinv.1; rw [ups_length] at this; omega
    obtain ⟨l1, hl1⟩ : ∃ l, l = r1 ++ [q1] := ⟨_, rfl⟩
    have hll : l1.length ≤ 100001 + 1 := by rw [hl1, List.length_append, List.length_singleton]; omega
    have hlim : Lim l1 := by rw [hl1]; exact hinv.2.1.snoc (by omega)
    have hval : val l1 = a := by
      obtain ⟨e1, e2, e3, e4⟩ := hinv
      rw [ups_length] at e1 e4
      rw [fsts_ups _ _ _ (Nat.le_max_left _ _), snds_ups _ _ _ (Nat.le_max_right _ _)] at e4
      rw [hl1, val_snoc, e1, e4, ha.val, show val ([] : List Nat) = 0 from rfl, Nat.zero_add]
    have hbW : Below w.heap.size w W1 := by have := Hlo1.out; exact hk.under (by omega) (by omega) (HP1.out.below.mono (by omega))
    have HB := Lib.hid hbW
    have HV1 := Lib.hid (And.intro hll (And.intro hlim hval))
    have HL := Lib.hid hl1
    have Hrow := Lib.hid hrow
    clear hbW hll hlim hval hinv hl1
    gi_wp2_with (gi_at_builtin; refine wpListIn_append_own _ rfl _ _ 22 rfl (lo1 + 5) 43 i0 (.int .u32 0) 1 4 Tryz.underlying22 hi hz0 hz1 hz2 rfl (by decide) _ _ _ rfl (hrow.alloc _) ⟨W1.heap.size, 0, none⟩ 1 1 [.int .u32 (q1 : Int)] rfl rfl (cell_one_new _ _ _) (by simp [Value.oneCell']) (by unfold maxLen; omega) (by omega) (by simp; omega) ?_; intro v' w2 hown' hgrow _; have hown2 := row_snoc (u := .int .u32 (q1 : Int)) hown' rfl; rw [← HL.out] at hown2; obtain ⟨B1, b1, rfl, hb1', hR1⟩ := (ownsRow_arg hown2).open_)
    have hgrow' : (W1.alloc (.cells #[.int .u32 (q1 : Int)] 43)).grownBy w2 v1.ownBlock := hgrow
    have hB2 : Below w.heap.size w w2 := by
      have h1 := HB.out.size
      have h2 := Hlo1.out
      exact (HB.out.alloc h1 _).grown hgrow' (by simp; omega) (fun k ek => by have := (World.ownsRow.lt Hrow.out k ek).1; omega)
    have hKO1 : KeepsOthers W1 w2 := (box_push hbo hbc (by decide) (by decide) hrow hN hgrow').2.2.2
    have hKn1 := hKO1.same D1 _ hK1 rfl
    clear hgrow hgrow' hown' hown2 hbo hbc hrow hk HB HL Hrow hK1 hc1 hc2 hN hcc hrl
    have hg1' : w2.cell? ⟨g, 1, none⟩ = some (.slice A2 lb.length c2) := (hB2.cell (World.block_lt_of_cell? w _ hg1)).trans hg1
    have hr2b : Cells encU w2 A2 lb := hr2.below hB2
    rw [roundsIn_succ]
    gi_wp2_with fail
    refine ⟨trivial, callsIn_wide.2 ((pairs_any _ _ _ _ _ _ _).mono ?_)⟩
    rintro e wp2 ⟨rfl, rfl⟩
    simp only [World.size_alloc]
    have hP2 : PairsAt _ w2 (((((w2.alloc (.cells #[.slice none 0 0] 22)).alloc (.cells #[.int .u64 0] 47)).alloc (.cells #[.slice B1 l1.length b1] 22)).alloc (.cells #[.slice A2 lb.length c2] 22)).alloc (.cells #[.func (.func 155) #[] #[]] 142)) B1 A2 b1 c2 l1 lb := pairsAt w2 B1 A2 b1 c2 l1 lb hR1 hr2b
    obtain ⟨lo2, hlo2⟩ : ∃ lo, lo = w2.heap.size := ⟨_, rfl⟩
    obtain ⟨W02, hW02⟩ : ∃ W0, W0 = ((((w2.alloc (.cells #[.slice none 0 0] 22)).alloc (.cells #[.int .u64 0] 47)).alloc (.cells #[.slice B1 l1.length b1] 22)).alloc (.cells #[.slice A2 lb.length c2] 22)).alloc (.cells #[.func (.func 155) #[] #[]] 142) := ⟨_, rfl⟩
    rw [← hW02, ← hlo2] at hP2
    rw [← hW02, ← hlo2]
    clear hW02
    have HP2 := Lib.hid hP2
    have Hsz2 := Lib.hid hP2.sz
    have Hlo2 := Lib.hid hlo2
    clear hP2 hlo2
    gi_wp2_with fail
    refine wpIn_rangeFunc_ownF rfl (by decide) (gf := 156) (lb := #[.pointer (some ⟨lo2 + 2, 0, none⟩), .pointer (some ⟨lo2 + 2 + 1, 0, none⟩), .pointer (some ⟨lo2 + 2 + 2, 0, none⟩)]) rfl trivial (enters_of Tryz.func156 (by kernel_rfl) rfl)
      (pairs_stops 9 lo2 (lo2 + 5) B1 A2 b1 c2 l1 lb HV1.out.2.1 hb.lim (by have := HV1.out.1; omega) (by omega) W02 (lo2 + 2) (by omega) (by omega) (by rw [Hsz2.out]; omega) HP2.out.cells1 HP2.out.cells2 HP2.out.old1 HP2.out.old2 HP2.out.b0 HP2.out.b1 HP2.out.b2)
      (fun h k => h.trans k) (KeepP.putObj (by rw [Hsz2.out]; omega)) (Below.refl _ _) (fun _ => rfl)
      (fun pre W => ∃ v r c, Boxed W lo2 22 v ∧ Boxed W (lo2 + 1) 47 (.int .u64 (c : Nat)) ∧ W.ownsRow (lo2 + 5) 43 1 v r.length (r.map encU) ∧ KeepP lo2 (lo2 + 5) W02 W ∧ AddInv pre r c)
      (fun _ _ _ => False)
      (box_own _ _ W02 lo2 (lo2 + 5) _ _ _ (fun pre _ r c => AddInv pre r c) (by rw [Hsz2.out]; omega) (Nat.le_refl _))
      (fun _ _ _ _ _ hs _ _ => hs)
      ⟨_, [], 0, HP2.out.out, HP2.out.carry, World.ownsRow_nil _ _ _ _, KeepP.refl _ _ _, rfl, Lim.nil, by omega, by simp [fsts, snds]⟩
      (fun x => { tmps := #[.slice (some ⟨g, 0, none⟩) 2 2, undef, .slice B1 l1.length b1, undef, .slice A2 lb.length c2, .pointer (some ⟨lo2, 0, none⟩), .pointer (some ⟨lo2 + 1, 0, none⟩), .int .u64 x.1.1, .int .u64 x.1.2, .slice (some ⟨g, 0, none⟩) 2 2, .int .i64 2, .int .i64 1, .bool true, .pointer (some ⟨g, 1, none⟩), .slice A2 lb.length c2, .slice B1 l1.length b1, .slice A2 lb.length c2, .func (.func 156) #[] #[.pointer (some ⟨lo2 + 2, 0, none⟩), .pointer (some ⟨lo2 + 2 + 1, 0, none⟩), .pointer (some ⟨lo2 + 2 + 2, 0, none⟩)], .int .u64 x.1.1, .int .u64 x.1.2, undef, undef, undef, undef, undef, undef, undef, undef, undef, undef, undef, undef, undef, v1, .int .u64 (q1 : Nat), .int .u32 (q1 : Nat), .slice (some ⟨W1.heap.size, 0, none⟩) 1 1, .slice B1 l1.length b1, .int .i64 1, undef, undef], defers := [] }) ?assign2 ?body2 ?done2 ?stop2
    case assign2 =>
      intro l x W K hK
      gi_wp2
      exact hK
    case body2 =>
      rintro l pre x W ⟨v, r, c, hbo, hbc, hrow, hk, hinv⟩ hlen
      have hN : lo2 + 5 ≤ W.heap.size := by have := hk.size; have := Hsz2.out; omega
      obtain ⟨S, hS⟩ : ∃ S : Nat, S = c + (x.1.1 + x.1.2) := ⟨_, rfl⟩
      have hSi : (c : Int) + ((x.1.1 : Int) + (x.1.2 : Int)) = (S : Int) := by rw [hS]; simp
      have hSb : S / 4294967296 < 4294967296 := by have := x.2.1; have := x.2.2; have := hinv.2.2.1; omega
      have hxy : x.1.1 + x.1.2 ≤ S := by omega
      have Hst := Lib.hid (hinv.step x hS)
      have hrl : r.length ≤ 300000 := by have := @List.length_nil Nat; have := HV1.out.1; rw [hinv.1]; omega
      clear hS hinv hlen
      have hc1 := hbo.cell
      have hf1 := hbo.frozen
      have hc2 := hbc.cell
      have hf2 := hbc.frozen
      gi_wp2_with (gi_at_builtin; refine wpListIn_append_own _ rfl _ _ 22 rfl (lo2 + 5) 43 i0 (.int .u32 0) 1 4 Tryz.underlying22 hi hz0 hz1 hz2 rfl (by decide) _ _ _ rfl ((box_num hbo hbc (by decide) hrow).alloc _) ⟨W.heap.size, 0, none⟩ 1 1 [.int .u32 ((S : Int) % 4294967296)] rfl rfl (by simpa using cell_one_new (W.setCell ⟨lo2 + 1, 0, none⟩ (.int .u64 S)) _ _) (by simp [Value.oneCell']) (by unfold maxLen; omega) (by omega) (by simp; omega) ?_; intro v' w3 hown' hgrow _; obtain ⟨g', cap', rfl⟩ := ownsRow_succ hown'; obtain ⟨p1, p2, p3, p4⟩ := box_push (e := 43) (box_num1 hbo) (box_num2 hbc) (by decide) (by decide) (box_num hbo hbc (by decide) hrow) (by simp; omega) hgrow; have hd1 := p1.cell; have hd2 := p1.frozen; have hd3 := p2.cell; have hd4 := p2.frozen)
      obtain ⟨q1, q2, q3, q4, q5⟩ := box_store (u' := .int .u64 (S / 4294967296 : Nat)) p1 p2 (by decide) (by decide) hown'
      exact ⟨box_num4.trans (p4.trans q5), box_num3.trans (p3.trans q4), _, r ++ [S % 4294967296], S / 4294967296, q1, q2, row_snoc q3 (by simp), hk.trans (box_num3.trans (p3.trans q4)), Hst.out⟩
    case done2 =>
      rintro D2 ys W2 hD2 rfl ⟨v2, r2, q2, hbo, hbc, hrow, hk, hinv⟩ hK2
      have hc1 := hbo.cell
      have hc2 := hbc.cell
      have hN : lo2 + 5 ≤ W2.heap.size := by have := hk.size; have := Hsz2.out; omega
      have hcc := hinv.2.2.1
      have hrl : r2.length ≤ 100000 + 2 := by have := @List.length_nil Nat; have := HV1.out.1; have := hinv.1; rw [ups_length] at this; omega
      obtain ⟨l2, hl2⟩ : ∃ l, l = r2 ++ [q2] := ⟨_, rfl⟩
      have hll : l2.length ≤ 100001 + 2 := by rw [hl2, List.length_append, List.length_singleton]; omega
      have hlim : Lim l2 := by rw [hl2]; exact hinv.2.1.snoc (by omega)
      have hval : val l2 = a + b := by
        obtain ⟨e1, e2, e3, e4⟩ := hinv
        rw [ups_length] at e1 e4
        rw [fsts_ups _ _ _ (Nat.le_max_left _ _), snds_ups _ _ _ (Nat.le_max_right _ _)] at e4
        rw [hl2, val_snoc, e1, e4, HV1.out.2.2, hb.val]
      have hbW : Below w2.heap.size w2 W2 := by have := Hlo2.out; exact hk.under (by omega) (by omega) (HP2.out.below.mono (by omega))
      have HB := Lib.hid hbW
      have HV2 := Lib.hid (And.intro hll (And.intro hlim hval))
      have HL := Lib.hid hl2
      have Hrow := Lib.hid hrow
      clear hbW hll hlim hval hinv hl2
      gi_wp2_with (gi_at_builtin; refine wpListIn_append_own _ rfl _ _ 22 rfl (lo2 + 5) 43 i0 (.int .u32 0) 1 4 Tryz.underlying22 hi hz0 hz1 hz2 rfl (by decide) _ _ _ rfl (hrow.alloc _) ⟨W2.heap.size, 0, none⟩ 1 1 [.int .u32 (q2 : Int)] rfl rfl (cell_one_new _ _ _) (by simp [Value.oneCell']) (by unfold maxLen; omega) (by omega) (by simp; omega) ?_; intro v' w3 hown' hgrow _; have hown2 := row_snoc (u := .int .u32 (q2 : Int)) hown' rfl; rw [← HL.out] at hown2; obtain ⟨B2, b2, rfl, hb2', hR2⟩ := (ownsRow_arg hown2).open_)
      have hgrow' : (W2.alloc (.cells #[.int .u32 (q2 : Int)] 43)).grownBy w3 v2.ownBlock := hgrow
      have hB3 : Below w2.heap.size w2 w3 := by
        have h1 := HB.out.size
        have h2 := Hlo2.out
        exact (HB.out.alloc h1 _).grown hgrow' (by simp; omega) (fun k ek => by have := (World.ownsRow.lt Hrow.out k ek).1; omega)
      have hKO2 : KeepsOthers W2 w3 := (box_push hbo hbc (by decide) (by decide) hrow hN hgrow').2.2.2
      have hKn2 := hKO2.same D2 _ hK2 rfl
      have hD1w : D1 < w2.heap.size := (Array.getElem?_eq_some_iff.1 hKn1).1
      have hlo2e := Hlo2.out
      have hsz2 := Hsz2.out
      have hKm : w3.heap[D1]? = some (.deferred (some [])) := hKO2.same D1 _ ((hk.block D1 (by omega) (by omega) (by omega)).trans ((HP2.out.below.block D1 (by omega)).trans hKn1)) rfl
      clear hgrow hgrow' hown' hown2 hbo hbc hrow hk HB HL Hrow hK2 hc1 hc2 hN hcc hrl
      rw [roundsIn_succ]
      gi_wp2_with fail
      have hKn := (KeepsOthers.refl w3).same D2 _ hKn2 rfl
      have harg : Arg encU w3 (.slice B2 l2.length b2) l2 := ⟨_, _, rfl, hb2', hR2⟩
      refine ⟨trivial, callsIn_wide.2 ((trim_any _ _ l2 harg HV2.out.2.1 (by have := HV2.out.1; omega)).mono ?_)⟩
      rintro e w5 ⟨v5, rfl, hg⟩
      have hK5 : w5.heap[D2]? = some (.deferred (some [])) := (hg.below.block D2 (Array.getElem?_eq_some_iff.1 hKn2).1).trans hKn2
      have hK6 : w5.heap[D1]? = some (.deferred (some [])) := (hg.below.block D1 (Array.getElem?_eq_some_iff.1 hKm).1).trans hKm
      have hne : D1 ≠ D2 := by omega
      have hK7 : (w5.putObj D2 (.deferred none)).heap[D1]? = some (.deferred (some [])) := ((grownBy_putObj' w5 D2 (.deferred none)).block D1 (Array.getElem?_eq_some_iff.1 hK6).1 (fun e => hne (Option.some.inj e))).trans hK6
      rw [HV2.out.2.2] at hg
      have hz1 := HP1.out.below.size
      have hz2 := Hlo1.out
      have hgg := ((hg.after (hB2.trans (hB3.mono hB2.size))).putObj (.deferred none) (by omega) hK5 rfl).putObj (.deferred none) (by omega) hK7 rfl
      gi_wp2
      refine ⟨by simp, .inl ⟨_, _, rfl, run_takeDeferred hK5, ?_⟩⟩
      refine ⟨by simp, .inl ⟨_, _, rfl, run_takeDeferred hK7, ?_⟩⟩
      exact ⟨_, results_tmp rfl _ _ _, v5, rfl, hgg⟩
    case stop2 =>
      rintro D c pre W _ _ h _
      exact h.elim

  case stop1 =>
    rintro D c pre W _ _ h _
    exact h.elim

theorem add_any (w : World) (va vb : Value) (la lb : List Nat) (a b : Nat) (ha : Num w va la a) (hb : Num w vb lb b) :
    Calls Tryz.prog 133 #[va, vb] w fun e w' => ∃ v', e = .returned v' ∧ Gives 43 encU w w' v' (limbs (a + b)) := by
  obtain ⟨A1, c1, rfl, hc1, hr1⟩ := ha.arg.open_
  obtain ⟨A2, c2, rfl, hc2, hr2⟩ := hb.arg.open_
  go_enter Tryz.func133, Tryz.ntmps133
  go_wp2_with fail
  have hB := (Below.refl w.heap.size w).alloc (Nat.le_refl _) (.cells #[.slice A1 la.length c1, .slice A2 lb.length c2] 22)
  refine (sum_any _ _ _ _ _ _ _ _ (ha.below hB) (hb.below hB) (by rw [cell_of_row _ _ _ _ _ _ (heap_alloc_new w _)]; rfl) (by rw [cell_of_row _ _ _ _ _ _ (heap_alloc_new w _)]; rfl)).mono ?_
  rintro e w1 ⟨v1, rfl, hg⟩
  go_wp2
  go_ret
  exact ⟨_, rfl, hg.after hB⟩
end Go.Proofs.YtbippecchpaleaaGreatDoor
/- nat.guess: what it returns. Conditions: v of two limbs or more, its highest bit set; u of one limb more, below 2^32 times v. -/
namespace Go.Proofs.YtbippecchpaleaaGreatDoor
open Go.RowKit Go.Num
attribute [local go_sem] Oper.semAt_some

/-- What the guess of a limb of a quotient keeps. -/
structure GuessLaw (U V top v1 v2 u2 : Nat) : Prop where
  first : U / V ≤ top / v1
  much : ∀ q L, q * v1 + L = top → L * 4294967296 + u2 < q * v2 → U / V < q
  fair : ∀ q L, q * v1 + L = top → q < 4294967296 → q * v2 ≤ L * 4294967296 + u2 → (q - 1) * V ≤ U
  broke : ∀ q L, q * v1 + L = top → 4294967296 ≤ L → q < 4294967296 ∧ (q - 1) * V ≤ U
  big : U / V < 4294967296
  low : ∀ q L, q * v1 + L = top → q < 8589934592

theorem val_lo_lt {l : List Nat} (h : Lim l) (k : Nat) (hk : k ≤ l.length) : val (l.take k) < 4294967296 ^ k := by
  have := val_lt (h.take k)
  rw [List.length_take, Nat.min_eq_left hk] at this
  exact this
theorem guessLaw {lu lv : List Nat} {n u0 u1 u2 v1 v2 : Nat} (hlu : Lim lu) (hlv : Lim lv) (h2 : 2 ≤ n) (hnv : lv.length = n) (hnu : lu.length = n + 1) (hu0 : lu[n]? = some u0) (hu1 : lu[n - 1]? = some u1) (hu2 : lu[n - 2]? = some u2)
    (hv1 : lv[n - 1]? = some v1) (hv2 : lv[n - 2]? = some v2) (htop : 2147483648 ≤ v1) (hlt : val lu < 4294967296 * val lv) : GuessLaw (val lu) (val lv) (u0 * 4294967296 + u1) v1 v2 u2 := by
  obtain ⟨k, rfl⟩ : ∃ k, n = k + 2 := ⟨n - 2, by omega⟩
  simp only [Nat.add_sub_cancel] at *
  rw [show k + 2 - 1 = k + 1 by omega] at *
  obtain ⟨D, hD⟩ : ∃ D, D = 4294967296 ^ k := ⟨_, rfl⟩
  have hDp : 0 < D := by rw [hD]; exact pow_pos' k
  have hv1b := hlv.get hv1
  have hv2b := hlv.get hv2
  have hu0b := hlu.get hu0
  have hu1b := hlu.get hu1
  have hu2b := hlu.get hu2
  have dv0 : lv.drop (k + 2) = [] := List.drop_eq_nil_of_le (by omega)
  have dv1 : lv.drop (k + 1) = v1 :: lv.drop (k + 2) := drop_pred (k := k + 2) (by omega) hv1
  have dv2 : lv.drop k = v2 :: lv.drop (k + 1) := drop_pred (k := k + 1) (by omega) hv2
  have du00 : lu.drop (k + 3) = [] := List.drop_eq_nil_of_le (by omega)
  have du0 : lu.drop (k + 2) = u0 :: lu.drop (k + 3) := drop_pred (k := k + 3) (by omega) hu0
  have du1 : lu.drop (k + 1) = u1 :: lu.drop (k + 2) := drop_pred (k := k + 2) (by omega) hu1
  have du2 : lu.drop k = u2 :: lu.drop (k + 1) := drop_pred (k := k + 1) (by omega) hu2
  obtain ⟨L, hL⟩ : ∃ L, L = val (lv.take k) := ⟨_, rfl⟩
  obtain ⟨M, hM⟩ : ∃ M, M = val (lu.take k) := ⟨_, rfl⟩
  have hLD : L < D := by rw [hL, hD]; exact val_lo_lt hlv k (by omega)
  have hMD : M < D := by rw [hM, hD]; exact val_lo_lt hlu k (by omega)
  have hV : val lv = (v1 * 4294967296 + v2) * D + L := by
    rw [val_take_drop lv k (by omega), ← hL, ← hD, dv2, dv1, dv0]
    simp only [val_cons, val_nil]
    rw [Nat.mul_comm D, show v2 + 4294967296 * (v1 + 4294967296 * 0) = v1 * 4294967296 + v2 by omega]
    omega
  have hU : val lu = ((u0 * 4294967296 + u1) * 4294967296 + u2) * D + M := by
    rw [val_take_drop lu k (by omega), ← hM, ← hD, du2, du1, du0, du00]
    simp only [val_cons, val_nil]
    rw [Nat.mul_comm D, show u2 + 4294967296 * (u1 + 4294967296 * (u0 + 4294967296 * 0)) = (u0 * 4294967296 + u1) * 4294967296 + u2 by omega]
    omega
  have hUl : ((u0 * 4294967296 + u1) * 4294967296 + u2) * D ≤ val lu := by omega
  have hUu : val lu < ((u0 * 4294967296 + u1) * 4294967296 + u2 + 1) * D := by rw [hU, Nat.add_mul _ 1 D]; omega
  have hVp : 0 < val lv := by
    rw [hV]
    have : 1 * D ≤ (v1 * 4294967296 + v2) * D := Nat.mul_le_mul_right _ (by omega)
    omega
  have hu0v : u0 ≤ v1 := by
    have e1 : val lv < (v1 + 1) * 4294967296 * D := by
      have h5 : (v1 * 4294967296 + v2 + 1) * D ≤ (v1 + 1) * 4294967296 * D := Nat.mul_le_mul_right _ (by omega)
      rw [Nat.add_mul _ 1 D] at h5
      omega
    have e0 : 4294967296 * (u0 * 4294967296) ≤ (u0 * 4294967296 + u1) * 4294967296 + u2 := by omega
    have e2 : 4294967296 * (u0 * 4294967296) * D ≤ ((u0 * 4294967296 + u1) * 4294967296 + u2) * D := Nat.mul_le_mul_right _ e0
    have e3 : u0 * 4294967296 * D < (v1 + 1) * 4294967296 * D := by
      rw [Nat.mul_assoc] at e2
      omega
    have e4 := Nat.lt_of_mul_lt_mul_right e3
    omega
  have hmul : ∀ q, val lu < q * val lv → val lu / val lv < q := fun q h => (Nat.div_lt_iff_lt_mul hVp).2 h
  refine ⟨?_, ?_, ?_, ?_, hmul _ hlt, ?_⟩
  · rw [Nat.le_div_iff_mul_le (by omega)]
    refine guess_first (B := 0) (V := val lv) (U := val lu) (D := 4294967296 * D) (L := v2 * D + L) ?_ ?_ (Nat.div_mul_le_self _ _) rfl
    · rw [hV, Nat.add_mul, Nat.mul_assoc]; omega
    · have : ((u0 * 4294967296 + u1) * 4294967296 + u2 + 1) * D ≤ (u0 * 4294967296 + u1 + 1) * 4294967296 * D := Nat.mul_le_mul_right _ (by omega)
      rw [← Nat.mul_assoc]
      omega
  · intro q X hq h
    exact hmul _ (guess_much hV hUu hq.symm h)
  · intro q X hq hqb h
    exact guess_fair hV hLD (by omega) hUl hq.symm hqb h
  · intro q X hq hX
    have hqb : q < 4294967296 := by
      have h1 : u0 * 4294967296 ≤ v1 * 4294967296 := Nat.mul_le_mul_right _ hu0v
      have h3 : q * v1 < 4294967296 * v1 := by omega
      exact Nat.lt_of_mul_lt_mul_right h3
    exact ⟨hqb, guess_broke hV hLD (by omega) hv2b hUl hq.symm hqb hX⟩
  · intro q X hq
    have h1 : q * 2147483648 ≤ q * v1 := Nat.mul_le_mul_left _ htop
    omega

set_option maxHeartbeats 4000000 in
set_option maxRecDepth 100000 in
theorem guess_any (w : World) (vu vv : Value) (lu lv : List Nat) (hu : Arg encU w vu lu) (hv : Arg encU w vv lv) (hlu : Lim lu) (hlv : Lim lv) (h2 : 2 ≤ lv.length) (hnu : lu.length = lv.length + 1) (hb : lv.length ≤ 200000)
    {v1 : Nat} (hv1 : lv[lv.length - 1]? = some v1) (htop : 2147483648 ≤ v1) (hlt : val lu < 4294967296 * val lv) :
    Calls Tryz.prog 128 #[vu, vv] w fun e w' => ∃ q : Nat, e = .returned (.int .u64 q) ∧ q < 4294967296 ∧ val lu / val lv ≤ q ∧ (q - 1) * val lv ≤ val lu ∧ Below w.heap.size w w' := by
  obtain ⟨A1, c1, rfl, hc1, hr1⟩ := hu.open_
  obtain ⟨A2, c2, rfl, hc2, hr2⟩ := hv.open_
  generalize hn : lv.length = n at *
  obtain ⟨u0, hu0⟩ := get_some (l := lu) (k := n) (by omega)
  obtain ⟨u1, hu1⟩ := get_some (l := lu) (k := n - 1) (by omega)
  obtain ⟨u2, hu2⟩ := get_some (l := lu) (k := n - 2) (by omega)
  obtain ⟨v2, hv2⟩ := get_some (l := lv) (k := n - 2) (by omega)
  have HG := Lib.hid (guessLaw hlu hlv h2 hn hnu hu0 hu1 hu2 hv1 hv2 htop hlt)
  obtain ⟨b1, o1, rfl, hcu0⟩ := hr1.at_ hu0
  obtain ⟨_, _, e1, hcu1⟩ := hr1.at_ hu1
  cases e1
  obtain ⟨_, _, e2, hcu2⟩ := hr1.at_ hu2
  cases e2
  obtain ⟨b2, o2, rfl, hcv1⟩ := hr2.at_ hv1
  obtain ⟨_, _, e3, hcv2⟩ := hr2.at_ hv2
  cases e3
  have hv1b := hlv.get hv1
  have hv2b := hlv.get hv2
  have hu0b := hlu.get hu0
  have hu1b := hlu.get hu1
  have hu2b := hlu.get hu2
  rw [hnu]
  obtain ⟨U, hU⟩ : ∃ U, U = val lu := ⟨_, rfl⟩
  obtain ⟨V, hV⟩ : ∃ V, V = val lv := ⟨_, rfl⟩
  rw [← hU, ← hV] at HG ⊢
  clear hU hV hr1 hr2 hu0 hu1 hu2 hv1 hv2 hlu hlv hu hv hlt hn hnu
  obtain ⟨top, hT⟩ : ∃ top, top = u0 * 4294967296 + u1 := ⟨_, rfl⟩
  have hTi : Go.bits .or .u64 ((u0 : Int) * 4294967296) (u1 : Int) = (top : Int) := by rw [u64_join u0 u1 hu0b hu1b, hT]; simp
  have hTb : top / 4294967296 < 4294967296 := by omega
  rw [← hT] at HG
  clear hT
  have hi1 : (0 : Int) ≤ (n : Int) - 1 := by omega
  have hi2 : (n : Int) - 1 < (n : Int) := by omega
  have hi3 : (n : Int) - 1 < (n : Int) + 1 := by omega
  have hi4 : (0 : Int) ≤ (n : Int) - 2 := by omega
  have hi5 : (n : Int) - 2 < (n : Int) := by omega
  have hi6 : (n : Int) - 2 < (n : Int) + 1 := by omega
  have hi7 : (n : Int) < (n : Int) + 1 := by omega
  have hv0 : (v1 : Int) ≠ 0 := by omega
  obtain ⟨q0, hq0⟩ : ∃ q0, q0 = top / v1 := ⟨_, rfl⟩
  obtain ⟨L0, hL0⟩ : ∃ L0, L0 = top % v1 := ⟨_, rfl⟩
  have hq0i : (top : Int) / (v1 : Int) = (q0 : Int) := by rw [hq0]; simp
  have hL0i : (top : Int) % (v1 : Int) = (L0 : Int) := by rw [hL0]; simp
  have hL0b : L0 < 4294967296 := by rw [hL0]; exact Nat.lt_trans (Nat.mod_lt _ (by omega)) hv1b
  have h0 : q0 * v1 + L0 = top := by rw [hq0, hL0, Nat.mul_comm]; exact Nat.div_add_mod _ _
  have H0 := Lib.hid (And.intro h0 (show U / V ≤ q0 by rw [hq0]; exact HG.out.first))
  have hq0b : q0 / 4294967296 < 4294967296 := by
    have : top / v1 ≤ top := Nat.div_le_self _ _
    rw [← hq0] at this
    omega
  have HL0 := Lib.hid hL0i
  clear hq0 hL0 h0 hL0i
  go_enter Tryz.func128, Tryz.ntmps128
  go_wp2_with fail
  go_quiet (fail)
  go_wp2_with fail
  go_quiet (fail)
  go_wp2_with fail
  clear hu0b hu1b hcu0 hcu1 hq0i hTi hi3 hi7 hv0
  have Hnn := Lib.hid hc1
  clear hc1
  go_loopw [7, 8] (fun qv lf wr => ∃ q L m : Nat, qv = .int .u64 q ∧ lf = .int .u64 L ∧ L < 4294967296 ∧ Hid (q * v1 + L = top ∧ U / V ≤ q) ∧ wr = w.drewN m) (fun qv _ _ => (intOf qv).toNat)
  case atStart => exact ⟨q0, L0, _, rfl, by rw [HL0.out], hL0b, H0, World.drewN_drewN _ _ _⟩
  case round =>
    obtain ⟨q, L, m, rfl, rfl, hL, HI, rfl⟩ := hrel
    clear H0 hL0b
    have hq33 := HG.out.low q L HI.out.1
    have hstep : ∀ p, q = p + 1 → p * v1 + (L + v1) = top := by
      intro p hp
      have := HI.out.1
      rw [hp, Nat.add_mul, Nat.one_mul] at this
      omega
    have Hstep := Lib.hid hstep
    clear hstep
    by_cases hbig : 4294967295 < q
    · have hd : decide ((4294967295 : Int) < (q : Int)) = true := decide_eq_true (by omega)
      have Hbig := Lib.hid hbig
      have hqp : 1 ≤ q := by omega
      clear hbig
      go_wp2_with fail
      go_quiet (fail)
      go_wp2_with fail
      · rename_i hbr
        go_ret
        obtain ⟨h1, h2⟩ := HG.out.broke (q - 1) (L + v1) (Hstep.out (q - 1) (by omega)) (by omega)
        exact ⟨q - 1, by go_num, h1, by have := HG.out.big; have := Hbig.out; omega, h2, below_drewN (Below.refl _ _) _⟩
      · go_roundw
        case rel => exact ⟨q - 1, L + v1, _, by go_num, by go_num, by omega, ⟨Hstep.out (q - 1) (by omega), by have := HG.out.big; have := Hbig.out; omega⟩, rfl⟩
        case measure => simp [intOf]; omega
    · obtain ⟨M, hM⟩ : ∃ M, M = q * v2 := ⟨_, rfl⟩
      obtain ⟨T, hT⟩ : ∃ T, T = L * 4294967296 + u2 := ⟨_, rfl⟩
      have hMi : (q : Int) * (v2 : Int) = (M : Int) := by rw [hM]; simp
      have hTi : Go.bits .or .u64 ((L : Int) * 4294967296) (u2 : Int) = (T : Int) := by rw [u64_join L u2 hL hu2b, hT]; simp
      have hMb : M / 4294967296 < 4294967296 := by
        have : q * v2 ≤ 4294967295 * 4294967295 := Nat.mul_le_mul (by omega) (by omega)
        omega
      have hTb : T / 4294967296 < 4294967296 := by omega
      have HM := Lib.hid (And.intro hM hT)
      have hd : decide ((4294967295 : Int) < (q : Int)) = false := decide_eq_false (by omega)
      have Hbig := Lib.hid hbig
      clear hM hT hbig
      by_cases hmuch : T < M
      · have hlt := HG.out.much q L HI.out.1 (by rw [← HM.out.1, ← HM.out.2]; exact hmuch)
        have Hlt := Lib.hid hlt
        have hqp : 1 ≤ q := Nat.lt_of_le_of_lt (Nat.zero_le _) hlt
        clear hlt
        go_wp2_with fail
        go_quiet (fail)
        go_wp2_with fail
        · rename_i hbr
          go_ret
          obtain ⟨h1, h2⟩ := HG.out.broke (q - 1) (L + v1) (Hstep.out (q - 1) (by omega)) (by omega)
          exact ⟨q - 1, by go_num, h1, by have := Hlt.out; omega, h2, below_drewN (Below.refl _ _) _⟩
        · go_roundw
          case rel => exact ⟨q - 1, L + v1, _, by go_num, by go_num, by omega, ⟨Hstep.out (q - 1) (by omega), by have := Hlt.out; omega⟩, rfl⟩
          case measure => simp [intOf]; omega
      · have hfair := HG.out.fair q L HI.out.1 (by have := Hbig.out; omega) (by rw [← HM.out.1, ← HM.out.2]; omega)
        have Hfair := Lib.hid hfair
        clear hfair
        go_wp2_with fail
        go_quiet (fail)
        go_wp2_with fail
        go_ret
        exact ⟨q, rfl, by have := Hbig.out; omega, HI.out.2, Hfair.out, below_drewN (below_drewN (Below.refl _ _) _) _⟩
end Go.Proofs.YtbippecchpaleaaGreatDoor
/- nat.take, nat.back: what each leaves. Conditions: u is a part of a row that the caller owns; rows of at most two hundred thousand limbs. -/
namespace Go.Num
/-- The row r, from place i on d. -/
def splice (r : List Nat) (i : Nat) (d : List Nat) : List Nat := r.take i ++ (d ++ r.drop (i + d.length))
theorem splice_nil (r : List Nat) (i : Nat) : splice r i [] = r := by simp [splice]
theorem splice_get {r : List Nat} {i : Nat} {d : List Nat} (h : i + d.length < r.length) : (splice r i d)[i + d.length]? = r[i + d.length]? := by
  unfold splice
  rw [List.getElem?_append_right (by rw [List.length_take]; omega), List.length_take, Nat.min_eq_left (by omega), List.getElem?_append_right (by omega), List.getElem?_drop]
  congr 1
  omega
theorem splice_set {r : List Nat} {i : Nat} {d : List Nat} (x : Nat) (h : i + d.length < r.length) : (splice r i d).set (i + d.length) x = splice r i (d ++ [x]) := by
  unfold splice
  rw [List.set_append_right _ _ (by rw [List.length_take]; omega), List.length_take, Nat.min_eq_left (by omega), List.set_append_right _ _ (by omega), List.drop_eq_getElem_cons h, show i + d.length - i - d.length = 0 by omega, List.set_cons_zero]
  simp [Nat.add_assoc]
theorem splice_val {r : List Nat} {i : Nat} {d : List Nat} (h : i + d.length ≤ r.length) : val (splice r i d) = val (r.take i) + 4294967296 ^ i * (val d + 4294967296 ^ d.length * val (r.drop (i + d.length))) := by
  unfold splice
  rw [val_append, val_append, List.length_take, Nat.min_eq_left (by omega)]
theorem splice_lim {r : List Nat} {i : Nat} {d : List Nat} (h : Lim r) (hd : Lim d) : Lim (splice r i d) := (h.take i).append (hd.append (h.drop _))
theorem splice_drop {r : List Nat} {i : Nat} {d : List Nat} (h : i + d.length ≤ r.length) : (splice r i d).drop i = d ++ r.drop (i + d.length) := by
  unfold splice
  rw [List.drop_append_of_le_length (by rw [List.length_take]; omega), List.drop_eq_nil_of_le (by rw [List.length_take]; omega), List.nil_append]
theorem part_snoc {r : List Nat} {i k y : Nat} (h : r[i + k]? = some y) : (r.drop i).take (k + 1) = (r.drop i).take k ++ [y] := take_snoc (by rw [List.getElem?_drop]; exact h)
/-- One step of what is taken away. -/
theorem take_round {P U W V q x u S D c b s : Nat} (h1 : s + P * c = q * V) (h2 : U + P * b = W + s) (hS : S = c + q * x) (hD : u + 4294967296 * hi63 D = D % 4294967296 + S % 4294967296 + b) :
    ∃ s', s' + (P * 4294967296) * (S / 4294967296) = q * (V + P * x) ∧ (U + P * u) + (P * 4294967296) * hi63 D = (W + P * (D % 4294967296)) + s' := by
  refine ⟨s + P * (S % 4294967296), ?_, ?_⟩
  · have e1 : P * (S % 4294967296 + 4294967296 * (S / 4294967296)) = P * (c + q * x) := by rw [← hS, Nat.mod_add_div]
    have e3 : q * (P * x) = P * (q * x) := by rw [Nat.mul_left_comm]
    rw [Nat.mul_add, Nat.mul_add, ← Nat.mul_assoc P 4294967296] at e1
    rw [Nat.mul_add, e3]
    omega
  · have e2 : P * (u + 4294967296 * hi63 D) = P * (D % 4294967296 + S % 4294967296 + b) := by rw [hD]
    rw [Nat.mul_add, Nat.mul_add, Nat.mul_add, ← Nat.mul_assoc] at e2
    omega
theorem take_end {U W V q c b s n : Nat} (h1 : s + 4294967296 ^ (n + 1) * c = q * V) (h2 : U + 4294967296 ^ (n + 1) * b = W + s) (hq : q < 4294967296) (hV : V < 4294967296 ^ n) : U + 4294967296 ^ (n + 1) * b = W + q * V := by
  have h3 : q * V < 4294967296 ^ (n + 1) := by
    rw [Nat.pow_succ, Nat.mul_comm]
    exact Nat.mul_lt_mul'' hV hq
  have h0 : c = 0 := by
    rcases Nat.eq_zero_or_pos c with h | h
    · exact h
    · have : 4294967296 ^ (n + 1) * 1 ≤ 4294967296 ^ (n + 1) * c := Nat.mul_le_mul_left _ h
      omega
  subst h0
  omega
theorem inp_grown {w w' : Go.World} {e : Go.TypeId} {base g n c : Nat} {q : List Nat} {row : Option Nat} (h : Inp e encU base w g n c q) (hg : w.grownBy w' row) (hne : row ≠ some g) : Inp e encU base w' g n c q :=
  Go.World.ownsRow.kept h.row hg (.inr (by simpa [Go.Value.ownBlock] using fun e => hne e.symm))
end Go.Num
namespace Go.Proofs.YtbippecchpaleaaGreatDoor
open Go.RowKit Go.Num
attribute [local go_sem] Oper.semAt_some u64_mask shr63

set_option maxHeartbeats 4000000 in
set_option maxRecDepth 100000 in
theorem take_any (w : World) (base g N c i cu : Nat) (r : List Nat) (vv : Value) (lv : List Nat) (x : Nat) (hu : Inp 43 encU base w g N c r) (hlr : Lim r) (hi : i + lv.length + 1 ≤ N) (hv : Arg encU w vv lv) (hlv : Lim lv) (hx : x < 4294967296) (hb : N ≤ 200000) (_hcu : lv.length + 1 ≤ cu) :
    Calls Tryz.prog 129 #[.slice (some ⟨g, i, none⟩) (lv.length + 1) cu, vv, .int .u64 x] w fun e w' => ∃ d b, e = .returned (.bool (decide (0 < b))) ∧ b ≤ 1 ∧ d.length = lv.length + 1 ∧ Lim d ∧
      val ((r.drop i).take (lv.length + 1)) + 4294967296 ^ (lv.length + 1) * b = val d + x * val lv ∧ Inp 43 encU base w' g N c (splice r i d) ∧ w.grownBy w' (some g) := by
  obtain ⟨i0, hi0, hz0, hz1, hz2⟩ := info_parts infoU
  have hNr := hu.len
  have hgw := hu.lt
  go_enter Tryz.func129, Tryz.ntmps129
  go_wp2_with fail
  refine (clone_any w vv lv hv (by omega)).mono ?_
  rintro e w1 ⟨v1, rfl, hg1⟩
  have hown1 := hg1.own
  have hbel1 := hg1.below
  have hv1 := val_lt hlv
  have Hv := Lib.hid (And.intro hlv hv1)
  clear hg1 hv hlv hv1
  go_wp2_with (at_builtin; refine wpList_append_own _ rfl _ _ 22 rfl w.heap.size 43 i0 (.int .u32 0) 1 4 Tryz.underlying22 hi0 hz0 hz1 hz2 rfl (by decide) _ _ _ rfl (World.ownsRow.alloc hown1 _) ⟨w1.heap.size, 0, none⟩ 1 1 [.int .u32 0] rfl rfl (cell_one_new _ _ _) (by simp [Value.oneCell']) ?c3 ?c4 ?c5 ?_)
  case c3 => unfold maxLen; omega
  case c4 => omega
  case c5 => have := hbel1.size; simp; omega
  intro v' w3 h3 hgr _
  have hgr3 : w.grownBy w3 (some g) := by
    refine ⟨(hgr.os.trans hbel1.os), (hgr.tape.trans hbel1.tape), (hgr.output.trans hbel1.output), Nat.le_trans hbel1.size (Nat.le_trans (by simp) hgr.size), fun k hk _ => ?_⟩
    have h1 := hbel1.block k hk
    have h2 := hbel1.size
    rw [hgr.block k (by simp; omega) (fun e => by have := (World.ownsRow.lt hown1 k e.symm).1; omega), Below.heap_alloc _ _ k (by omega), h1]
  have hin3 : Inp 43 encU base w3 g N c r := ((hu.below hbel1).alloc _).row |> fun h => World.ownsRow.kept h hgr (.inr (fun e => by
    have := (World.ownsRow.lt hown1 g (by simpa [Value.ownBlock] using e.symm)).1; omega))
  obtain ⟨g', cap', rfl⟩ := ownsRow_succ h3
  have hv3 : Inp 43 encU w.heap.size w3 g' (lv.length + 1) cap' (lv ++ [0]) := by
    unfold Inp
    rw [List.map_append]
    exact h3
  have hgg : g ≠ g' := by have := hv3.base_le; omega
  have hlen0 : (lv ++ [0]).length = lv.length + 1 := by simp
  have hlim0 : Lim (lv ++ [0]) := Hv.out.1.snoc (by decide)
  have hval0 : val ((lv ++ [0]).take (lv.length + 1)) = val lv := by rw [take_all _ (by simp), val_snoc]; simp
  have Hval0 := Lib.hid hval0
  clear hval0 h3 hgr hown1 hbel1
  generalize hl0 : lv ++ [0] = l0 at *
  generalize hn : lv.length = n at *
  go_wp2_with fail
  go_loopw [7, 8, 17] (fun cv bv iv wr => ∃ (k C B : Nat) (d : List Nat), k ≤ n + 1 ∧ iv = .int .i64 k ∧ cv = .int .u64 C ∧ bv = .int .u64 B ∧ C < 4294967296 ∧ B ≤ 1 ∧ d.length = k ∧
      Hid (Lim d ∧ ∃ s, s + 4294967296 ^ k * C = x * val (l0.take k) ∧ val ((r.drop i).take k) + 4294967296 ^ k * B = val d + s) ∧ Inp 43 encU base wr g N c (splice r i d) ∧ w3.grownBy wr (some g)) (fun _ _ iv _ => n + 1 - (intOf iv).toNat)
  case atStart => exact ⟨0, 0, 0, [], Nat.zero_le _, rfl, rfl, rfl, by decide, by decide, rfl, ⟨Lim.nil, 0, by simp, by simp⟩, by rw [splice_nil]; exact hin3, World.grownBy.refl _ _⟩
  case round =>
    obtain ⟨k, C, B, d, hk, rfl, rfl, rfl, hC, hB, hdk, HI, hin, hgr⟩ := hrel
    have hv4 := inp_grown hv3 hgr (by simpa using hgg)
    by_cases hlt : k < n + 1
    · obtain ⟨y, hy⟩ := get_some (l := l0) (k := k) (by omega)
      have hcy := hv4.cell hy
      have hyb := hlim0.get hy
      obtain ⟨u, hu0⟩ := get_some (l := r) (k := i + k) (by omega)
      have hsg : (splice r i d)[i + k]? = some u := by rw [← hdk, splice_get (by omega), hdk]; exact hu0
      have hcu := hin.cell hsg
      have hub := hlr.get hu0
      have hfu := hin.free (i + k)
      obtain ⟨S, hS⟩ : ∃ S, S = C + x * y := ⟨_, rfl⟩
      obtain ⟨R, hR⟩ : ∃ R, R = S % 4294967296 := ⟨_, rfl⟩
      have hSi : (C : Int) + (x : Int) * (y : Int) = (S : Int) := by rw [hS]; simp
      have hRi : (S : Int) % 4294967296 = (R : Int) := by rw [hR]; simp
      have hSb : S / 4294967296 < 4294967296 := by
        have : x * y ≤ 4294967295 * 4294967295 := Nat.mul_le_mul (by omega) (by omega)
        omega
      have hxy : x * y ≤ S := by omega
      obtain ⟨D, hD, hD1, hD2, hD3⟩ := sub64 u R B hub (by omega) hB
      have hst := take_round HI.out.2.choose_spec.1 HI.out.2.choose_spec.2 hS (D := D) (by rw [← hR]; exact hD3)
      have Hst := Lib.hid hst
      have Hsg := Lib.hid (And.intro hu0 hy)
      have Hset := Lib.hid (splice_set (r := r) (i := i) (d := d) (D % 4294967296) (by omega))
      have Hps := Lib.hid (part_snoc hu0)
      have Hts := Lib.hid (take_snoc hy)
      clear hS hR hst hsg hu0 hy
      go_wp2_with fail
      go_roundw
      case rel =>
        refine ⟨k + 1, S / 4294967296, hi63 D, d ++ [D % 4294967296], by omega, by go_num, by go_num, rfl, hSb, hD2, by simp; omega, ?_, ?_, hgr.trans ⟨rfl, rfl, rfl, by simp, fun k hk hne => Below.heap_setCell _ _ _ k (fun e => hne (by rw [e]))⟩⟩
        · obtain ⟨s', e1, e2⟩ := Hst.out
          exact ⟨HI.out.1.snoc (Nat.mod_lt _ (by decide)), s', by rw [Hts.out, val_snoc, List.length_take, Nat.min_eq_left (by omega), pow_succ']; exact e1, by rw [Hps.out, val_snoc, List.length_take, List.length_drop, Nat.min_eq_left (by omega), val_snoc, hdk, pow_succ']; exact e2⟩
        · have := hin.set (i + k) (D % 4294967296)
          rw [← hdk, Hset.out, hdk] at this
          exact this
      case measure => simp [intOf]; omega
    · have hk1 : k = n + 1 := by omega
      subst hk1
      clear hlt
      go_wp2_with fail
      go_ret
      obtain ⟨s, e1, e2⟩ := HI.out.2
      rw [Hval0.out] at e1
      rw [hn]
      exact ⟨d, B, rfl, hB, hdk, HI.out.1, take_end e1 e2 hx Hv.out.2, hin, hgr3.trans hgr⟩

set_option maxHeartbeats 4000000 in
set_option maxRecDepth 100000 in
theorem back_any (w : World) (base g N c i cu : Nat) (r : List Nat) (vv : Value) (lv : List Nat) (hu : Inp 43 encU base w g N c r) (hlr : Lim r) (hi : i + lv.length + 1 ≤ N) (hv : Arg encU w vv lv) (hlv : Lim lv) (hb : N ≤ 200000) (_hcu : lv.length + 1 ≤ cu) :
    Calls Tryz.prog 130 #[.slice (some ⟨g, i, none⟩) (lv.length + 1) cu, vv] w fun e w' => ∃ d C, e = .returned (.tuple #[]) ∧ d.length = lv.length + 1 ∧ Lim d ∧
      val ((r.drop i).take (lv.length + 1)) + val lv = val d + 4294967296 ^ (lv.length + 1) * C ∧ Inp 43 encU base w' g N c (splice r i d) ∧ w.grownBy w' (some g) := by
  obtain ⟨i0, hi0, hz0, hz1, hz2⟩ := info_parts infoU
  have hNr := hu.len
  have hgw := hu.lt
  go_enter Tryz.func130, Tryz.ntmps130
  go_wp2_with fail
  refine (clone_any w vv lv hv (by omega)).mono ?_
  rintro e w1 ⟨v1, rfl, hg1⟩
  have hown1 := hg1.own
  have hbel1 := hg1.below
  have hv1 := val_lt hlv
  have Hv := Lib.hid (And.intro hlv hv1)
  clear hg1 hv hlv hv1
  go_wp2_with (at_builtin; refine wpList_append_own _ rfl _ _ 22 rfl w.heap.size 43 i0 (.int .u32 0) 1 4 Tryz.underlying22 hi0 hz0 hz1 hz2 rfl (by decide) _ _ _ rfl (World.ownsRow.alloc hown1 _) ⟨w1.heap.size, 0, none⟩ 1 1 [.int .u32 0] rfl rfl (cell_one_new _ _ _) (by simp [Value.oneCell']) ?c3 ?c4 ?c5 ?_)
  case c3 => unfold maxLen; omega
  case c4 => omega
  case c5 => have := hbel1.size; simp; omega
  intro v' w3 h3 hgr _
  have hgr3 : w.grownBy w3 (some g) := by
    refine ⟨(hgr.os.trans hbel1.os), (hgr.tape.trans hbel1.tape), (hgr.output.trans hbel1.output), Nat.le_trans hbel1.size (Nat.le_trans (by simp) hgr.size), fun k hk _ => ?_⟩
    have h1 := hbel1.block k hk
    have h2 := hbel1.size
    rw [hgr.block k (by simp; omega) (fun e => by have := (World.ownsRow.lt hown1 k e.symm).1; omega), Below.heap_alloc _ _ k (by omega), h1]
  have hin3 : Inp 43 encU base w3 g N c r := ((hu.below hbel1).alloc _).row |> fun h => World.ownsRow.kept h hgr (.inr (fun e => by
    have := (World.ownsRow.lt hown1 g (by simpa [Value.ownBlock] using e.symm)).1; omega))
  obtain ⟨g', cap', rfl⟩ := ownsRow_succ h3
  have hv3 : Inp 43 encU w.heap.size w3 g' (lv.length + 1) cap' (lv ++ [0]) := by
    unfold Inp
    rw [List.map_append]
    exact h3
  have hgg : g ≠ g' := by have := hv3.base_le; omega
  have hlen0 : (lv ++ [0]).length = lv.length + 1 := by simp
  have hlim0 : Lim (lv ++ [0]) := Hv.out.1.snoc (by decide)
  have hval0 : val ((lv ++ [0]).take (lv.length + 1)) = val lv := by rw [take_all _ (by simp), val_snoc]; simp
  have Hval0 := Lib.hid hval0
  clear hval0 h3 hgr hown1 hbel1
  generalize hl0 : lv ++ [0] = l0 at *
  generalize hn : lv.length = n at *
  go_wp2_with fail
  go_loopw [4, 12] (fun cv iv wr => ∃ (k C : Nat) (d : List Nat), k ≤ n + 1 ∧ iv = .int .i64 k ∧ cv = .int .u64 C ∧ C ≤ 1 ∧ d.length = k ∧
      Hid (Lim d ∧ val ((r.drop i).take k) + val (l0.take k) = val d + 4294967296 ^ k * C) ∧ Inp 43 encU base wr g N c (splice r i d) ∧ w3.grownBy wr (some g)) (fun _ iv _ => n + 1 - (intOf iv).toNat)
  case atStart => exact ⟨0, 0, [], Nat.zero_le _, rfl, rfl, by decide, rfl, ⟨Lim.nil, by simp⟩, by rw [splice_nil]; exact hin3, World.grownBy.refl _ _⟩
  case round =>
    obtain ⟨k, C, d, hk, rfl, rfl, hC, hdk, HI, hin, hgr⟩ := hrel
    have hv4 := inp_grown hv3 hgr (by simpa using hgg)
    by_cases hlt : k < n + 1
    · obtain ⟨y, hy⟩ := get_some (l := l0) (k := k) (by omega)
      have hcy := hv4.cell hy
      have hyb := hlim0.get hy
      obtain ⟨u, hu0⟩ := get_some (l := r) (k := i + k) (by omega)
      have hsg : (splice r i d)[i + k]? = some u := by rw [← hdk, splice_get (by omega), hdk]; exact hu0
      have hcu := hin.cell hsg
      have hub := hlr.get hu0
      have hfu := hin.free (i + k)
      obtain ⟨S, hS⟩ : ∃ S, S = C + (u + y) := ⟨_, rfl⟩
      have hSi : (C : Int) + ((u : Int) + (y : Int)) = (S : Int) := by rw [hS]; simp
      have hSb : S / 4294967296 < 4294967296 := by omega
      have hS1 : S / 4294967296 ≤ 1 := by omega
      have huy : u + y ≤ S := by omega
      have hst : val ((r.drop i).take k) + val (l0.take k) = val d + 4294967296 ^ k * C → (val d + 4294967296 ^ k * (S % 4294967296)) + (4294967296 ^ k * 4294967296) * (S / 4294967296) = (val ((r.drop i).take k) + 4294967296 ^ k * u) + (val (l0.take k) + 4294967296 ^ k * y) := fun h => add_step h.symm (by omega)
      have Hst := Lib.hid (hst HI.out.2)
      have Hsg := Lib.hid (And.intro hu0 hy)
      have Hset := Lib.hid (splice_set (r := r) (i := i) (d := d) (S % 4294967296) (by omega))
      have Hps := Lib.hid (part_snoc hu0)
      have Hts := Lib.hid (take_snoc hy)
      clear hS hst hsg hu0 hy
      go_wp2_with fail
      go_roundw
      case rel =>
        refine ⟨k + 1, S / 4294967296, d ++ [S % 4294967296], by omega, by go_num, by go_num, hS1, by simp; omega, ?_, ?_, hgr.trans ⟨rfl, rfl, rfl, by simp, fun k hk hne => Below.heap_setCell _ _ _ k (fun e => hne (by rw [e]))⟩⟩
        · refine ⟨HI.out.1.snoc (Nat.mod_lt _ (by decide)), ?_⟩
          rw [Hts.out, val_snoc, List.length_take, Nat.min_eq_left (by omega), Hps.out, val_snoc, List.length_take, List.length_drop, Nat.min_eq_left (by omega), val_snoc, hdk, pow_succ']
          exact Hst.out.symm
        · have := hin.set (i + k) (S % 4294967296)
          rw [← hdk, Hset.out, hdk] at this
          exact this
      case measure => simp [intOf]; omega
    · have hk1 : k = n + 1 := by omega
      subst hk1
      clear hlt
      go_wp2_with fail
      refine bodyPost_end (results_none rfl _ _ _) rfl ?_
      have e1 := HI.out.2
      rw [Hval0.out] at e1
      rw [hn]
      exact ⟨d, C, rfl, hdk, HI.out.1, e1, hin, hgr3.trans hgr⟩
end Go.Proofs.YtbippecchpaleaaGreatDoor
/- nat.Div: what it returns. Conditions: rows of at most a hundred thousand limbs. -/
namespace Go.Proofs.YtbippecchpaleaaGreatDoor
open Go.RowKit Go.Num
attribute [local go_sem] Oper.semAt_some u64_mask

/-- Two answers' rows are two. -/
def Apart (v u : Value) : Prop := ∀ k, v.ownBlock = some k → u.ownBlock ≠ some k
theorem Apart.nil_ (u : Value) (n c : Nat) : Apart (.slice none n c) u := fun k h => by simp [Value.ownBlock] at h
theorem Apart.of_lt {e e' : TypeId} {w w1 w2 w3 : World} {v u : Value} {l m : List Nat} (h : Gives e encU w w1 u l) (k : Gives e' encU w2 w3 v m) (hs : w1.heap.size ≤ w2.heap.size) : Apart v u := fun j hj hu => by
  have h1 := (World.ownsRow.lt h.own j hu).2
  have h2 := (World.ownsRow.lt k.own j hj).1
  omega
theorem _root_.Go.Num.Gives.later {α : Type} {enc : α → Value} {e : TypeId} {w w1 w2 : World} {v : Value} {l : List α} (h : Gives e enc w w1 v l) (hb : Below w1.heap.size w1 w2) : Gives e enc w w2 v l :=
  ⟨World.ownsRow.kept h.own (row := none) ⟨hb.os, hb.tape, hb.output, hb.size, fun k hk _ => hb.block k hk⟩ (by
    rcases h.own.2 with h0 | ⟨g, cap, cur, rfl, _⟩
    · exact .inl (by rw [h0.1]; rfl)
    · exact .inr (by simp [Value.ownBlock])), h.below.trans (hb.mono h.below.size)⟩

theorem gives_shape {e : TypeId} {w w' : World} {v : Value} {l : List Nat} {n : Nat} (h : Gives e encU w w' v l) (hn : l.length = n + 1) : ∃ g c, v = .slice (some ⟨g, 0, none⟩) (n + 1) c ∧ n + 1 ≤ c ∧ Inp e encU w.heap.size w' g (n + 1) c l := by
  have ho := h.own
  rw [hn] at ho
  obtain ⟨g, c, rfl⟩ := ownsRow_succ ho
  refine ⟨g, c, rfl, ?_, ho⟩
  obtain ⟨_, _, e5, h5, _⟩ := h.arg.open_
  simp only [Value.slice.injEq] at e5
  omega

set_option maxHeartbeats 2000000 in
theorem div_low (w : World) (va vb : Value) (la lb : List Nat) (a b : Nat) (ha : Num w va la a) (hb : Num w vb lb b) (hab : a < b) :
    Calls Tryz.prog 103 #[va, vb] w fun e w' => ∃ vr, e = .returned (.tuple #[.slice none 0 0, vr, .int .i64 0]) ∧ Gives 43 encU w w' vr (limbs a) := by
  have hc1 : cmpN a b = -1 := cmpN_lt hab
  go_enter Tryz.func103, Tryz.ntmps103
  go_wp2_with fail
  refine (trim_any _ _ _ ha.arg ha.lim (by have := ha.len; omega)).mono ?_
  rintro e w1 ⟨v1, rfl, g1⟩
  go_wp2_with fail
  refine (trim_any _ _ _ (hb.arg.below g1.below) hb.lim (by have := hb.len; omega)).mono ?_
  rintro e w2 ⟨v2, rfl, g2⟩
  rw [hb.val] at g2
  rw [ha.val] at g1
  have na := (g1.later g2.below).num (Nat.le_trans (sz_num ha) ha.len)
  have nb := g2.num (Nat.le_trans (sz_num hb) hb.len)
  have gr := (g1.later g2.below)
  obtain ⟨A, c, rfl, hc, hr⟩ := nb.arg.open_
  have hl0 : 0 < (limbs b).length := by
    rcases Nat.eq_zero_or_pos (limbs b).length with h | h
    · have := (limbs_length_le b 0).1 (by omega); simp at this; omega
    · exact h
  have hbel := g1.below.trans (g2.below.mono g1.below.size)
  go_wp2_with fail
  refine (cmp_any _ _ _ _ _ _ _ na nb).mono ?_
  rintro e w3 ⟨rfl, hb3⟩
  rw [hc1]
  go_wp2_with fail
  go_ret3
  exact ⟨_, rfl, gr.later hb3⟩

theorem limbs_one {b : Nat} (h0 : 0 < b) (h : b < 4294967296) : limbs b = [b] := by
  rw [limbs_pos (by omega), Nat.mod_eq_of_lt h, Nat.div_eq_of_lt h, limbs_zero]

set_option maxHeartbeats 2000000 in
theorem div_one (w : World) (va vb : Value) (la lb : List Nat) (a b : Nat) (ha : Num w va la a) (hb : Num w vb lb b) (hab : b ≤ a) (hb0 : 0 < b) (hb1 : b < 4294967296) :
    Calls Tryz.prog 103 #[va, vb] w fun e w' => ∃ vq vr, e = .returned (.tuple #[vq, vr, .int .i64 0]) ∧ Gives 43 encU w w' vq (limbs (a / b)) ∧ Gives 43 encU w w' vr (limbs (a % b)) ∧ Apart vr vq := by
  have hc1 : (0 : Int) ≤ cmpN a b := by
    rcases Nat.lt_or_ge b a with h' | h'
    · rw [cmpN_gt h']; decide
    · rw [cmpN_eq (by omega)]; decide
  have hmod : a % b < 18446744073709551616 := by have := Nat.mod_lt a hb0; omega
  have Hmod := Lib.hid hmod
  clear hmod
  go_enter Tryz.func103, Tryz.ntmps103
  go_wp2_with fail
  refine (trim_any _ _ _ ha.arg ha.lim (by have := ha.len; omega)).mono ?_
  rintro e w1 ⟨v1, rfl, g1⟩
  go_wp2_with fail
  refine (trim_any _ _ _ (hb.arg.below g1.below) hb.lim (by have := hb.len; omega)).mono ?_
  rintro e w2 ⟨v2, rfl, g2⟩
  rw [hb.val] at g2
  rw [ha.val] at g1
  have na := (g1.later g2.below).num (Nat.le_trans (sz_num ha) ha.len)
  have nb := g2.num (Nat.le_trans (sz_num hb) hb.len)
  obtain ⟨A, c, rfl, hc, hr⟩ := nb.arg.open_
  have hb2 := g1.below.trans (g2.below.mono g1.below.size)
  have hl1 : (limbs b).length = 1 := by rw [limbs_one hb0 hb1]; rfl
  obtain ⟨b1, o1, rfl, hcell⟩ := hr.at_ (k := 0) (x := b) (by rw [limbs_one hb0 hb1]; rfl)
  rw [Nat.add_zero] at hcell
  have Hl1 := Lib.hid hl1
  have Hc := Lib.hid hc
  clear g1 g2 hc hl1 hr
  rw [Hl1.out] at nb ⊢
  go_wp2_with fail
  refine (cmp_any _ _ _ _ _ _ _ na nb).mono ?_
  rintro e w3 ⟨rfl, hb3⟩
  have na3 := na.below hb3
  have hcell3 := (hb3.cell (World.block_lt_of_cell? w2 _ hcell)).trans hcell
  generalize cmpN a b = cc at *
  go_wp2_with fail
  refine (short_any _ _ _ b na3.arg na3.lim (Nat.le_trans na3.len (by decide)) (by omega) hb0).mono ?_
  rintro e w4 ⟨v4, rfl, g4⟩
  rw [na3.val] at g4 ⊢
  go_wp2_with fail
  refine (from_any _ _ Hmod.out).mono ?_
  rintro e w5 ⟨v5, rfl, g5⟩
  go_wp2_with fail
  go_ret3
  have h1 := g4.after (hb2.trans (hb3.mono hb2.size))
  exact ⟨_, _, rfl, h1.later g5.below, g5.after h1.below, Apart.of_lt g4 g5 (Nat.le_refl _)⟩

theorem limbs_top {b n : Nat} (hn : (limbs b).length = n + 1) : ∃ t, (limbs b)[n]? = some t ∧ 0 < t ∧ t < 4294967296 := by
  obtain ⟨t, ht⟩ := get_some (l := limbs b) (k := n) (by omega)
  refine ⟨t, ht, ?_, (limbs_lim b).get ht⟩
  rcases Nat.eq_zero_or_pos t with h | h
  · exfalso
    subst h
    have h1 := val_take_drop (limbs b) n (by omega)
    have h2 : (limbs b).drop n = [0] := by
      have := drop_pred (l := limbs b) (k := n + 1) (by omega) ht
      rw [show n + 1 - 1 = n by omega] at this
      rw [this, List.drop_eq_nil_of_le (by omega)]
    rw [h2, val_limbs] at h1
    have h3 := val_lo_lt (limbs_lim b) n (by omega)
    have h4 := (limbs_length_le b n).2 (by rw [h1]; simp; exact h3)
    omega
  · exact h

theorem val_split_top {l : List Nat} {n t : Nat} (hl : l.length = n + 1) (ht : l[n]? = some t) : val l = val (l.take n) + 4294967296 ^ n * t := by
  have h2 : l.drop n = [t] := by
    have := drop_pred (l := l) (k := n + 1) (by omega) ht
    rw [show n + 1 - 1 = n by omega] at this
    rw [this, List.drop_eq_nil_of_le (by omega)]
  rw [val_take_drop l n (by omega), h2]
  simp
theorem norm_top {b n k t : Nat} (hn : (limbs b).length = n + 1) (ht : (limbs b)[n]? = some t) (hk : k < 32) (hM : t * 2 ^ k < 4294967296) (hM2 : 2147483648 ≤ t * 2 ^ k) :
    2 ^ k * b < 4294967296 ^ (n + 1) ∧ 4294967296 ^ n * 2147483648 ≤ 2 ^ k * b := by
  have h1 := val_split_top hn ht
  rw [val_limbs] at h1
  have h2 := val_lo_lt (limbs_lim b) n (by omega)
  obtain ⟨B, hB⟩ : ∃ B, B = 4294967296 ^ n := ⟨_, rfl⟩
  obtain ⟨p, hp⟩ : ∃ p, p = 2 ^ k := ⟨_, rfl⟩
  have hpq : p * 2 ^ (32 - k) = 4294967296 := by rw [hp, ← Nat.pow_add, show k + (32 - k) = 32 by omega]
  have hpp : 0 < p := by rw [hp]; exact Nat.pow_pos (by decide)
  rw [Nat.pow_succ, ← hB, ← hp]
  rw [← hB] at h1 h2
  rw [← hp] at hM hM2
  have ht1 : (t + 1) * p ≤ 4294967296 := by
    have h3 : t * p < 2 ^ (32 - k) * p := by rw [Nat.mul_comm (2 ^ (32 - k)), hpq]; exact hM
    have h4 := Nat.lt_of_mul_lt_mul_right h3
    have h5 : (t + 1) * p ≤ 2 ^ (32 - k) * p := Nat.mul_le_mul_right _ h4
    rw [Nat.mul_comm (2 ^ (32 - k)), hpq] at h5
    exact h5
  constructor
  · have h6 : b < B * (t + 1) := by rw [Nat.mul_add]; omega
    have h7 : p * b < p * (B * (t + 1)) := Nat.mul_lt_mul_of_pos_left h6 hpp
    have h8 : p * (B * (t + 1)) = B * ((t + 1) * p) := by rw [Nat.mul_left_comm, Nat.mul_comm p]
    have h9 : B * ((t + 1) * p) ≤ B * 4294967296 := Nat.mul_le_mul_left _ ht1
    omega
  · have h6 : p * (B * t) ≤ p * b := Nat.mul_le_mul_left _ (by omega)
    have h8 : p * (B * t) = B * (t * p) := by rw [Nat.mul_left_comm, Nat.mul_comm p]
    have h9 : B * 2147483648 ≤ B * (t * p) := Nat.mul_le_mul_left _ hM2
    omega
theorem top_half {s : List Nat} {n : Nat} (hl : Lim s) (hs : s.length = n + 1) (h : 4294967296 ^ n * 2147483648 ≤ val s) : ∃ x, s[n]? = some x ∧ 2147483648 ≤ x := by
  obtain ⟨x, hx⟩ := get_some (l := s) (k := n) (by omega)
  refine ⟨x, hx, ?_⟩
  have h1 := val_split_top hs hx
  have h2 := val_lo_lt hl n (by omega)
  have h3 : 4294967296 ^ n * 2147483648 < 4294967296 ^ n * (x + 1) := by rw [Nat.mul_add]; omega
  have h4 := Nat.lt_of_mul_lt_mul_left h3
  omega
theorem val_take_low {s : List Nat} {n : Nat} (hs : n ≤ s.length) (h : val s < 4294967296 ^ n) : val (s.take n) = val s := by
  have h1 := val_take_drop s n hs
  have h2 : val (s.drop n) = 0 := by
    rcases Nat.eq_zero_or_pos (val (s.drop n)) with h0 | h0
    · exact h0
    · have : 4294967296 ^ n * 1 ≤ 4294967296 ^ n * val (s.drop n) := Nat.mul_le_mul_left _ h0
      omega
  rw [h1, h2]; simp

theorem splice_splice {r d d' : List Nat} {i : Nat} (h : i + d.length ≤ r.length) (hd : d'.length = d.length) : splice (splice r i d) i d' = splice r i d' := by
  have h1 : (splice r i d).take i = r.take i := by
    unfold splice
    rw [List.take_append_of_le_length (by rw [List.length_take]; omega), List.take_take, Nat.min_self]
  have h2 : (splice r i d).drop (i + d'.length) = r.drop (i + d'.length) := by
    rw [← List.drop_drop, splice_drop h, hd, List.drop_left, ← hd]
  unfold splice at *
  rw [h1, h2]
theorem long_step {r d : List Nat} {i N x Q V AA : Nat} (hlen : i + N ≤ r.length) (hd : d.length = N) (hU : val (r.drop i) < 4294967296 ^ N) (he : val (r.drop i) = x * V + val d) (hdV : val d < V)
    (hA : AA = (4294967296 ^ (i + 1) * Q) * V + val r) : AA = (4294967296 ^ i * (x + 4294967296 * Q)) * V + val (splice r i d) ∧ val ((splice r i d).drop i) < V := by
  have h1 := val_take_drop r i (by omega)
  have h0 : val (r.drop (i + N)) = 0 := by
    have h2 := val_take_drop (r.drop i) N (by rw [List.length_drop]; omega)
    rw [List.drop_drop] at h2
    rcases Nat.eq_zero_or_pos (val (r.drop (i + N))) with h | h
    · exact h
    · have : 4294967296 ^ N * 1 ≤ 4294967296 ^ N * val (r.drop (i + N)) := Nat.mul_le_mul_left _ h
      omega
  subst hd
  rw [splice_val hlen, splice_drop hlen, val_append, h0, Nat.mul_zero, Nat.add_zero]
  refine ⟨?_, hdV⟩
  rw [hA, h1, he, Nat.mul_add _ x, Nat.add_mul, Nat.mul_add _ (x * V), ← Nat.mul_assoc _ x V, pow_succ', Nat.mul_assoc (4294967296 ^ i) 4294967296 Q]
  omega
theorem quo_fair {U V x vd : Nat} (hV : 0 < V) (hx : U / V ≤ x) (he : U = vd + x * V) : vd < V := by
  have h1 : x ≤ U / V := by rw [Nat.le_div_iff_mul_le hV]; omega
  have h2 : x = U / V := Nat.le_antisymm h1 hx
  have h3 := Nat.div_add_mod U V
  have h4 := Nat.mod_lt U hV
  rw [← h2, Nat.mul_comm] at h3
  omega
theorem quo_much {U V x vd vd' C Bn : Nat} (hx : (x - 1) * V ≤ U) (he : U + Bn = vd + x * V) (hvd : vd < Bn) (hVB : V < Bn) (hb : vd + V = vd' + Bn * C) (hd' : vd' < Bn) : 1 ≤ x ∧ U = (x - 1) * V + vd' ∧ vd' < V := by
  have hx1 : 1 ≤ x := by
    rcases Nat.eq_zero_or_pos x with h | h
    · subst h; omega
    · exact h
  obtain ⟨y, rfl⟩ : ∃ y, x = y + 1 := ⟨x - 1, by omega⟩
  rw [Nat.add_sub_cancel] at hx ⊢
  rw [Nat.add_mul, Nat.one_mul] at he
  have hC : C = 1 := by
    rcases Nat.lt_trichotomy C 1 with h | h | h
    · have h0 : C = 0 := by omega
      subst h0; omega
    · exact h
    · have : Bn * 2 ≤ Bn * C := Nat.mul_le_mul_left _ h
      omega
  subst hC
  omega

theorem part_arg {e : TypeId} {base : Nat} {w : World} {g N c i k : Nat} {p : List Nat} (hp : Inp e encU base w g N c p) (h : i + k ≤ N) (hc : N ≤ c) : Arg encU w (.slice (some ⟨g, i, none⟩) k (c - i)) ((p.drop i).take k) := by
  have hl := hp.len
  refine Arg.mk_ (by rw [List.length_take, List.length_drop]; omega) (by omega) fun _ => ⟨g, i, rfl, fun y x hy => hp.cell (j := i + y) ?_⟩
  rw [List.getElem?_take] at hy
  split at hy
  · rw [List.getElem?_drop] at hy; exact hy
  · cases hy
theorem cells_grown {α : Type} {enc : α → Value} {w w' : World} {A o g : Nat} {l : List α} (h : Cells enc w (some ⟨A, o, none⟩) l) (hg : w.grownBy w' (some g)) (hne : A ≠ g) : Cells enc w' (some ⟨A, o, none⟩) l := fun h0 => by
  obtain ⟨b, o', e, hx⟩ := h h0
  cases e
  exact ⟨A, o, rfl, fun j x hj => hg.cell (hx j x hj) (by simpa using hne)⟩
theorem inp_setCellV {e : TypeId} {base : Nat} {w : World} {g G N c : Nat} {p : List Nat} (hp : Inp e encU base w g N c p) (hne : g ≠ G) (v : Value) (i : Nat) : Inp e encU base (w.setCell ⟨G, i, none⟩ v) g N c p :=
  inp_grown hp (row := some G) ⟨rfl, rfl, rfl, by simp, fun k _ h => Below.heap_setCell _ _ _ k (fun e => h (by rw [e]))⟩ (by simpa using fun e => hne e.symm)
theorem inp_setCell {e : TypeId} {base : Nat} {w : World} {g G N c : Nat} {p : List Nat} (hp : Inp e encU base w g N c p) (hne : g ≠ G) (x i : Nat) : Inp e encU base (w.setCell ⟨G, i, none⟩ (encU x)) g N c p := inp_setCellV hp hne _ i
theorem cells_setCell {α : Type} {enc : α → Value} {w : World} {A o G : Nat} {l : List α} (h : Cells enc w (some ⟨A, o, none⟩) l) (hne : A ≠ G) (i : Nat) (v : Value) : Cells enc (w.setCell ⟨G, i, none⟩ v) (some ⟨A, o, none⟩) l :=
  cells_grown h (g := G) ⟨rfl, rfl, rfl, by simp, fun k _ h => Below.heap_setCell _ _ _ k (fun e => h (by rw [e]))⟩ hne
theorem drop_low {p : List Nat} {i N V : Nat} (hp : Lim p) (hi : i < p.length) (h : val (p.drop (i + 1)) < V) (hV : V < 4294967296 ^ N) : val (p.drop i) < 4294967296 * V ∧ val (p.drop i) < 4294967296 ^ (N + 1) := by
  obtain ⟨y, hy⟩ := get_some hi
  have h1 : p.drop i = y :: p.drop (i + 1) := drop_pred (k := i + 1) (by omega) hy
  have hyb := hp.get hy
  have h2 : val (p.drop i) < 4294967296 * V := by rw [h1, val_cons]; exact part_lt hyb h
  refine ⟨h2, ?_⟩
  rw [pow_succ']
  omega

set_option maxHeartbeats 4000000 in
set_option maxRecDepth 100000 in
theorem div_long (w : World) (va vb : Value) (la lb : List Nat) (a b n : Nat) (ha : Num w va la a) (hb : Num w vb lb b) (hab : b ≤ a) (hn : (limbs b).length = n + 2) :
    Calls Tryz.prog 103 #[va, vb] w fun e w' => ∃ vq vr, e = .returned (.tuple #[vq, vr, .int .i64 0]) ∧ Gives 43 encU w w' vq (limbs (a / b)) ∧ Gives 43 encU w w' vr (limbs (a % b)) ∧ Apart vq vr := by
  have hc1 : (0 : Int) ≤ cmpN a b := by
    rcases Nat.lt_or_ge b a with h' | h'
    · rw [cmpN_gt h']; decide
    · rw [cmpN_eq (by omega)]; decide
  have hb0 : 0 < b := by
    rcases Nat.eq_zero_or_pos b with h | h
    · rw [h, limbs_zero] at hn; cases hn
    · exact h
  obtain ⟨t, ht, ht0, ht32⟩ := limbs_top (b := b) (n := n + 1) hn
  have hne0 : ((n : Int) + 2 == 0) = false := beq_eq_false_iff_ne.2 (by omega)
  have hne1 : ((n : Int) + 2 == 1) = false := beq_eq_false_iff_ne.2 (by omega)
  go_enter Tryz.func103, Tryz.ntmps103
  go_wp2_with fail
  refine (trim_any _ _ _ ha.arg ha.lim (by have := ha.len; omega)).mono ?_
  rintro e w1 ⟨v1, rfl, g1⟩
  go_wp2_with fail
  refine (trim_any _ _ _ (hb.arg.below g1.below) hb.lim (by have := hb.len; omega)).mono ?_
  rintro e w2 ⟨v2, rfl, g2⟩
  rw [hb.val] at g2
  rw [ha.val] at g1
  have na := (g1.later g2.below).num (Nat.le_trans (sz_num ha) ha.len)
  have nb := g2.num (Nat.le_trans (sz_num hb) hb.len)
  have hb2 := g1.below.trans (g2.below.mono g1.below.size)
  clear g1 g2 ha hb
  obtain ⟨A, c, rfl, hc, hr⟩ := nb.arg.open_
  obtain ⟨b1, o1, rfl, hcell⟩ := hr.at_ ht
  have hnl := nb.len
  rw [hn] at hnl hc
  have Hl1 := Lib.hid hn
  have Ht := Lib.hid ht
  clear hn ht hr
  rw [Hl1.out] at nb ⊢
  go_wp2_with fail
  refine (cmp_any _ _ _ _ _ _ _ na nb).mono ?_
  rintro e w3 ⟨rfl, hb3⟩
  have na3 := na.below hb3
  have nb3 := nb.below hb3
  have hcell3 := (hb3.cell (World.block_lt_of_cell? w2 _ hcell)).trans hcell
  have HB := Lib.hid (hb2.trans (hb3.mono hb2.size))
  clear hcell na nb hb2 hb3
  generalize cmpN a b = cc at *
  go_wp2_with fail
  go_loopw [9] (fun nv wr => ∃ k : Nat, nv = .int .u64 k ∧ k < 32 ∧ t * 2 ^ k < 4294967296 ∧ wr = w3) (fun nv _ => 32 - (intOf nv).toNat)
  case atStart => exact ⟨0, rfl, by omega, by simpa using ht32, rfl⟩
  case round =>
    obtain ⟨k, rfl, hk, hM, rfl⟩ := hrel
    obtain ⟨M, hMe⟩ : ∃ M, M = t * 2 ^ k := ⟨_, rfl⟩
    rw [← hMe] at hM
    have hw : IntKind.u32.wrap ((t : Int) * 2 ^ k) = (M : Int) := by
      have e : ((t : Int) * 2 ^ k) = (M : Int) := by rw [hMe]; simp
      rw [e]; exact IntWalk.u32_in _ (by omega)
    obtain ⟨z, hz⟩ : ∃ z, z = M / 2147483648 := ⟨_, rfl⟩
    have hzi : (M : Int) / 2147483648 = (z : Int) := by rw [hz]; simp
    have HM := Lib.hid hMe
    by_cases hz0 : z = 0
    · have Hz := Lib.hid hz
      clear hz
      have hk31 : k < 31 ∧ t * 2 ^ (k + 1) < 4294967296 := by
        have h1 : M < 2147483648 := by omega
        have h2 : t * 2 ^ (k + 1) = 2 * M := by rw [hMe, Nat.pow_succ, ← Nat.mul_assoc, Nat.mul_comm]
        refine ⟨?_, by omega⟩
        have h3 : 1 * 2 ^ k ≤ t * 2 ^ k := Nat.mul_le_mul_right _ ht0
        rw [← hMe] at h3
        exact (Nat.pow_lt_pow_iff_right (a := 2) (by decide)).1 (show 2 ^ k < 2 ^ 31 by omega)
      have HK := Lib.hid hk31.2
      have hk31 := hk31.1
      clear hMe
      subst hz0
      go_wp2_with fail
      go_roundw
      case rel => exact ⟨k + 1, by go_num, by omega, HK.out, trivial⟩
      case measure => simp [intOf]; omega
    · have Hz := Lib.hid hz
      have hzb : ((z : Int) == 0) = false := beq_eq_false_iff_ne.2 (by omega)
      clear hz hMe
      go_upto_region 12 with fail
      go_cut [10, 11] from 57 to 65 (fun uv vv wx => ∃ (g cu A cv : Nat) (r s : List Nat), uv = .slice (some ⟨g, 0, none⟩) r.length cu ∧ vv = .slice (some ⟨A, 0, none⟩) (n + 2) cv ∧ n + 2 ≤ cv ∧ s.length = n + 2 ∧ r.length ≤ cu ∧
        Inp 43 encU w.heap.size wx g r.length cu r ∧ Hid (Lim r ∧ val r = 2 ^ k * a ∧ r.length = (limbs a).length + 1) ∧ Cells encU wx (some ⟨A, 0, none⟩) s ∧ Hid (Lim s ∧ val s = 2 ^ k * b) ∧ A ≠ g ∧ Below w.heap.size w wx)
      case first =>
        have na4 := na3.drew
        have nb4 := nb3.drew
        go_region_with (first
          | (refine (up_any _ v1 (limbs a) k ?_ na3.lim ?_ hk).mono ?_; exact na4.arg; exact Nat.le_trans na3.len (by decide); rintro e w4 ⟨v4, r, rfl, g4, p1, p2, p3⟩)
          | (refine (up_any _ _ (limbs b) k ?_ nb3.lim ?_ hk).mono ?_; exact nb4.arg.below g4.below; exact Nat.le_trans nb3.len (by decide); rintro e w5 ⟨v5, s, rfl, g5, q1, q2, q3⟩; obtain ⟨ga, ca, rfl, h8, hin5⟩ := gives_shape (n := n + 2) g5 (by rw [q2, Hl1.out]); have h9 : n + 2 ≤ ca := by omega))
        all_goals (go_wp2_with fail; go_meet)
        case rel =>
          obtain ⟨gu, cu, rfl, hcu, hin4⟩ := gives_shape (n := (limbs a).length) g4 p2
          have hM31 : 2147483648 ≤ t * 2 ^ k := by rw [← HM.out]; have := Hz.out; omega
          have hnt := norm_top Hl1.out Ht.out hk (by rw [← HM.out]; exact hM) hM31
          have hsz := HB.out.size
          have hB4 : Below w.heap.size w w4 := (show Below w.heap.size w wr.drew from ⟨HB.out.os, HB.out.tape, HB.out.output, HB.out.size, HB.out.block⟩).trans (g4.below.mono hsz)
          have hs3 : s.length = n + 3 := by rw [q2, Hl1.out]
          refine ⟨gu, cu, ga, ca, r, s.take (n + 2), by simp [p2], by simp, h9, by rw [List.length_take]; omega, by rw [p2]; exact hcu, ?_, ⟨p1, by rw [p3, na3.val], p2⟩, ?_, ⟨q1.take _, by rw [val_take_low (by omega) (by rw [q3, nb3.val]; exact hnt.1), q3, nb3.val]⟩, ?_, ?_⟩
          · rw [p2]; exact (show Inp 43 encU w.heap.size w4 gu ((limbs a).length + 1) cu r from ownsRow_base hin4.row hsz).below g5.below
          · exact Cells.take (fun _ => ⟨ga, 0, rfl, fun j x hj => by rw [Nat.zero_add]; exact hin5.cell hj⟩) _
          · have h1 := hin5.base_le; have h2 := hin4.lt; omega
          · exact hB4.trans (g5.below.mono hB4.size)
      case rest =>
        obtain ⟨g, cu, A, cv, r, s, rfl, rfl, hcv, hsl, hcu, hin, hR, hcs, hS, hAg, hbw⟩ := hcut
        have hna := na3.len
        have hnn := Lib.hid (lt_sz a)
        obtain ⟨m, hm, hm1, hm2⟩ : ∃ m, r.length = m + (n + 2) ∧ 1 ≤ m ∧ m + (n + 2) ≤ 100001 := by
          have h1 := hR.out.2.2
          have h2 : n + 2 ≤ (limbs a).length := by have := sz_mono hab; unfold sz at this; rw [Hl1.out] at this; exact this
          exact ⟨r.length - (n + 2), by omega, by omega, by omega⟩
        rw [hm] at hin hcu ⊢
        have HR := Lib.hid (And.intro hR.out hm)
        have hmk := run_make_row' (P := Tryz.prog) 22 43 (.int .u32 0) 4 Tryz.underlying22 infoU rfl .i64 .i64 m (by omega) (by omega)
        have hM31 : 2147483648 ≤ t * 2 ^ k := by rw [← HM.out]; have := Hz.out; omega
        have hnt := norm_top Hl1.out Ht.out hk (by rw [← HM.out]; exact hM) hM31
        obtain ⟨V, hV⟩ : ∃ V, V = val s := ⟨_, rfl⟩
        obtain ⟨AA, hAA⟩ : ∃ AA, AA = val r := ⟨_, rfl⟩
        have hVb : V = 2 ^ k * b := hV.trans hS.out.2
        obtain ⟨sx, hsx, hsx31⟩ := top_half (n := n + 1) hS.out.1 hsl (by rw [hS.out.2]; exact hnt.2)
        have hVlt : V < 4294967296 ^ (n + 2) := by rw [hVb]; exact hnt.1
        have hVp : 0 < V := by
          rw [hVb]
          exact Nat.mul_pos (Nat.pow_pos (by decide)) hb0
        have hdrop : val (r.drop m) < V := by
          have h1 := val_take_drop r m (by omega)
          have h2 := lt_sz a
          have h3 : sz a = m + (n + 1) := by have := hR.out.2.2; unfold sz; omega
          rw [h3, Nat.pow_add] at h2
          have h4 : 2 ^ k * a < 2147483648 * (4294967296 ^ m * 4294967296 ^ (n + 1)) := by
            have hk31 : (2 : Nat) ^ k ≤ 2 ^ 31 := Nat.pow_le_pow_right (by decide) (by omega)
            have e1 : (2 : Nat) ^ k * a ≤ 2 ^ 31 * a := Nat.mul_le_mul_right _ hk31
            omega
          have h5 : 4294967296 ^ m * val (r.drop m) < 4294967296 ^ m * (4294967296 ^ (n + 1) * 2147483648) := by
            have e2 : 2147483648 * (4294967296 ^ m * 4294967296 ^ (n + 1)) = 4294967296 ^ m * (4294967296 ^ (n + 1) * 2147483648) := by
              rw [Nat.mul_comm 2147483648, Nat.mul_assoc]
            have e3 := hR.out.2.1
            omega
          have h6 := Nat.lt_of_mul_lt_mul_left h5
          have h7 := hnt.2
          omega
        have HV := Lib.hid (And.intro hVb (And.intro hVlt (And.intro hVp (And.intro hsx hsx31))))
        have HVs := Lib.hid hV
        have HA := Lib.hid (show AA = 2 ^ k * a from hAA.trans hR.out.2.1)
        have Hst := Lib.hid (show AA = (4294967296 ^ m * val ((List.replicate m 0).drop m)) * V + val r ∧ val (r.drop m) < V from ⟨by rw [List.drop_eq_nil_of_le (by simp)]; simp [hAA], hdrop⟩)
        have hstart : Inp 43 encU w.heap.size (wc.alloc (.cells (madeCells #[.int .u32 0] m) 43)) wc.heap.size m m (List.replicate m 0) := ownsRow_base (Inp.made wc 0 (by omega) rfl) hbw.size
        have hin0 := hin.alloc (.cells (madeCells #[.int .u32 0] m) 43)
        have hcs0 := hcs.alloc (.cells (madeCells #[.int .u32 0] m) 43)
        have hbw0 := hbw.alloc hbw.size (.cells (madeCells #[.int .u32 0] m) 43)
        have hgG : g ≠ wc.heap.size := by have := hin.lt; omega
        have hAG : A ≠ wc.heap.size := by
          obtain ⟨_, _, e, h⟩ := hcs.at_ hsx
          cases e
          have h9 : A < wc.heap.size := World.block_lt_of_cell? wc _ h
          omega
        obtain ⟨G, hG⟩ : ∃ G, G = wc.heap.size := ⟨_, rfl⟩
        rw [← hG] at hstart hgG hAG
        clear hR hm hna hnt hM31 hV hAA hVb hsx hsx31 hVlt hVp hdrop hw hzi hzb hz0 hM hcell3 hcs hin hbw
        go_wp2_with fail
        rw [← hG]
        clear hmk hG
        go_loopw [12] (fun iv wq => ∃ (j : Nat) (p q : List Nat), j ≤ m ∧ iv = .int .i64 ((j : Int) - 1) ∧ Inp 43 encU w.heap.size wq g (m + (n + 2)) cu p ∧ Inp 43 encU w.heap.size wq G m m q ∧ Cells encU wq (some ⟨A, 0, none⟩) s ∧
          Hid ((Lim p ∧ Lim q) ∧ AA = (4294967296 ^ j * val (q.drop j)) * V + val p ∧ val (p.drop j) < V) ∧ Below w.heap.size w wq) (fun iv _ => (intOf iv + 1).toNat)
        case atStart => exact ⟨m, r, List.replicate m 0, Nat.le_refl _, rfl, hin0, hstart, hcs0, ⟨⟨HR.out.1.1, Lim.zeros _⟩, Hst.out⟩, hbw0⟩
        case round =>
          obtain ⟨j, p, q, hj, rfl, hp, hq, hs4, HI, hbq⟩ := hrel
          clear hin0 hstart hcs0 hbw0
          rcases Nat.eq_zero_or_pos j with h0 | h0
          · subst h0
            have hk32 : (2 : Nat) ^ k < 2 ^ 32 := Nat.pow_lt_pow_right (by decide) hk
            have hkp : 0 < (2 : Nat) ^ k := Nat.pow_pos (by decide)
            obtain ⟨pk, hpk⟩ : ∃ pk, pk = (2 : Nat) ^ k := ⟨_, rfl⟩
            rw [← hpk] at hk32 hkp
            have hwk : IntKind.u64.wrap (2 ^ k) = (pk : Int) := by
              have e : ((2 : Int) ^ k) = (pk : Int) := by rw [hpk]; simp
              rw [e]; exact IntWalk.u64_in _ (by omega)
            have hfin := unscale (a := a) (b := b) (s := pk) (Q := val q) (R := val p) hkp (by
              have h1 := HI.out.2.1
              rw [HA.out, HV.out.1, ← hpk] at h1
              simp only [List.drop_zero, Nat.pow_zero, Nat.one_mul] at h1
              rw [Nat.mul_comm a, Nat.mul_comm b]; exact h1) (by
              have h1 := HI.out.2.2
              rw [HV.out.1, ← hpk] at h1
              rw [Nat.mul_comm b]; simpa using h1)
            have HF := Lib.hid hfin
            have Hpk := Lib.hid hpk
            clear hfin hpk
            have hpl := hp.len
            have hql := hq.len
            go_wp2_with fail
            refine (short_any _ _ p pk hp.arg HI.out.1.1 (by omega) (by omega) hkp).mono ?_
            rintro e w5 ⟨v5, rfl, g5⟩
            rw [HF.out.2] at g5
            go_wp2_with fail
            refine (trim_any _ _ q (hq.arg.below g5.below) HI.out.1.2 (by omega)).mono ?_
            rintro e w6 ⟨v6, rfl, g6⟩
            rw [HF.out.1] at g6
            go_wp2_with fail
            go_ret3
            have hr5 := g5.after hbq
            exact ⟨_, _, rfl, g6.after hr5.below, hr5.later g6.below, Apart.of_lt g5 g6 (Nat.le_refl _)⟩
          · obtain ⟨i, rfl⟩ : ∃ i, j = i + 1 := ⟨j - 1, by omega⟩
            have hii : ((i + 1 : Nat) : Int) - 1 = (i : Int) := by omega
            rw [hii]
            clear hii
            have hpl := hp.len
            have hql := hq.len
            obtain ⟨hlow, hlow2⟩ := drop_low HI.out.1.1 (by omega) HI.out.2.2 HV.out.2.1
            have hPl : ((p.drop i).take (n + 3)).length = s.length + 1 := by rw [List.length_take, List.length_drop]; omega
            have hPv : val ((p.drop i).take (n + 3)) = val (p.drop i) := val_take_low (by rw [List.length_drop]; omega) hlow2
            have hgs := fun (h : Arg encU _ _ _) => guess_any wr (.slice (some ⟨g, i, none⟩) (n + 3) (cu - i)) (.slice (some ⟨A, 0, none⟩) (n + 2) cv) ((p.drop i).take (n + 3)) s (part_arg hp (by omega) hcu) h ((HI.out.1.1.drop _).take _) hS.out.1 (by omega) hPl (by omega) (by rw [hsl]; exact HV.out.2.2.2.1) HV.out.2.2.2.2 (by rw [hPv, ← HVs.out]; exact hlow)
            have HP := Lib.hid (And.intro hPl (And.intro hPv (And.intro hlow hlow2)))
            have Hgs := Lib.hid (hgs (Arg.mk_ hsl.symm hcv hs4))
            clear hPl hPv hlow hlow2 hgs
            go_wp2_with fail
            rw [show i + (n + 2) + 1 - i = n + 3 by omega]
            refine Hgs.out.mono ?_
            rintro e w4 ⟨x, rfl, hx32, hx1, hx2, hb4⟩
            rw [HP.out.2.1, ← HVs.out] at hx1 hx2
            have HX := Lib.hid (And.intro hx1 hx2)
            clear hx1 hx2 Hgs
            have hp4 := hp.below hb4
            have hq4 := hq.below hb4
            have hs5 := hs4.below hb4
            have hbq4 := hbq.trans (hb4.mono hbq.size)
            clear hp hq hs4 hbq hb4
            have htk := take_any w4 w.heap.size g (m + (n + 2)) cu i (cu - i) p (.slice (some ⟨A, 0, none⟩) (n + 2) cv) s x hp4 HI.out.1.1 (by omega) (Arg.mk_ hsl.symm hcv hs5) hS.out.1 hx32 (by omega) (by omega)
            rw [hsl, ← HVs.out] at htk
            have Htk := Lib.hid htk
            clear htk
            go_wp2_with fail
            refine Htk.out.mono ?_
            rintro e w5 ⟨d, bw, rfl, hbw1, hdl, hdlim, hde, hp5, hg5⟩
            clear Htk
            rw [HP.out.2.1] at hde
            have hq5 := inp_grown hq4 hg5 (by simpa using hgG)
            have hs6 := cells_grown hs5 hg5 hAg
            have hgb := hp4.base_le
            have hbq5 := hbq4.grown hg5 hbq4.size (fun k ek => by cases ek; exact hgb)
            clear hq4 hs5 hbq4 hp4 hg5
            obtain ⟨tq, htq⟩ := get_some (l := q) (k := i) (by omega)
            rcases (show bw = 0 ∨ bw = 1 by omega) with rfl | rfl
            · rw [Nat.mul_zero, Nat.add_zero] at hde
              have hfair := quo_fair HV.out.2.2.1 HX.out.1 hde
              have hst := long_step (N := n + 3) (by omega) hdl HP.out.2.2.2 (by rw [hde, Nat.add_comm]) hfair HI.out.2.1
              have HS := Lib.hid hst
              clear hst hfair hde
              have hcq := hq5.cell htq
              have hfq := hq5.free i
              clear htq
              go_wp2_with fail
              go_roundw
              case rel =>
                (repeat apply Exists.intro)
                refine ⟨?_, rfl⟩
                refine ⟨i, splice p i d, q.set i x, by omega, by go_num, inp_setCell hp5 hgG x i, hq5.set i x, cells_setCell hs6 hAG _ _, ⟨⟨splice_lim HI.out.1.1 hdlim, HI.out.1.2.set _ _ hx32⟩, ?_⟩, ?_⟩
                · rw [show (q.set i x).drop i = x :: q.drop (i + 1) from drop_set_pred (k := i + 1) (by omega) (by omega), val_cons]
                  exact HS.out
                · exact hbq5.setCell (p := ⟨G, i, none⟩) hq5.base_le _
              case measure => simp [intOf]
            · have hbk := back_any w5 w.heap.size g (m + (n + 2)) cu i (cu - i) (splice p i d) (.slice (some ⟨A, 0, none⟩) (n + 2) cv) s hp5 (splice_lim HI.out.1.1 hdlim) (by omega) (Arg.mk_ hsl.symm hcv hs6) hS.out.1 (by omega) (by omega)
              rw [hsl, ← HVs.out] at hbk
              have Hbk := Lib.hid hbk
              clear hbk
              have Htq := Lib.hid htq
              clear htq
              go_wp2_with fail
              refine Hbk.out.mono ?_
              rintro e w6 ⟨d', C, rfl, hdl', hdlim', hde', hp6, hg6⟩
              clear Hbk
              have hds : ((splice p i d).drop i).take (n + 2 + 1) = d := by
                rw [splice_drop (by omega), List.take_append_of_le_length (by omega), List.take_of_length_le (by omega)]
              rw [hds] at hde'
              rw [splice_splice (by omega) (by omega)] at hp6
              have hvd := val_lt hdlim
              have hvd' := val_lt hdlim'
              rw [hdl] at hvd
              rw [hdl'] at hvd'
              rw [Nat.mul_one] at hde
              have hmuch := quo_much HX.out.2 hde hvd (by rw [pow_succ']; have := HV.out.2.1; omega) hde' hvd'
              have hx1 := hmuch.1
              have hst := long_step (N := n + 3) (by omega) hdl' HP.out.2.2.2 hmuch.2.1 hmuch.2.2 HI.out.2.1
              have HS := Lib.hid hst
              clear hst hmuch hde hde' hvd hvd' hds
              have hq6 := inp_grown hq5 hg6 (by simpa using hgG)
              have hs7 := cells_grown hs6 hg6 hAg
              have hgb := hp5.base_le
              have hbq6 := hbq5.grown hg6 hbq5.size (fun k ek => by cases ek; exact hgb)
              have hcq := hq6.cell Htq.out
              have hfq := hq6.free i
              clear hq5 hs6 hbq5 hp5 hg6
              go_wp2_with fail
              go_roundw
              case rel =>
                (repeat apply Exists.intro)
                refine ⟨?_, rfl⟩
                refine ⟨i, splice p i d', q.set i (x - 1), by omega, by go_num, ?_, ?_, cells_setCell hs7 hAG _ _, ⟨⟨splice_lim HI.out.1.1 hdlim', HI.out.1.2.set _ _ (by omega)⟩, ?_⟩, ?_⟩
                · exact inp_setCellV hp6 hgG _ i
                · have := hq6.set i (x - 1)
                  rw [show encU (x - 1) = .int .u32 ((x : Int) - 1) by go_num] at this
                  exact this
                · rw [show (q.set i (x - 1)).drop i = (x - 1) :: q.drop (i + 1) from drop_set_pred (k := i + 1) (by omega) (by omega), val_cons]
                  exact HS.out
                · exact hbq6.setCell (p := ⟨G, i, none⟩) hq6.base_le _
              case measure => simp [intOf]

/-- nat.Div, of two rows that are numbers, the second above 0. -/
theorem div_any (w : World) (va vb : Value) (la lb : List Nat) (a b : Nat) (ha : Num w va la a) (hb : Num w vb lb b) (hb0 : 0 < b) :
    Calls Tryz.prog 103 #[va, vb] w fun e w' => ∃ vq vr, e = .returned (.tuple #[vq, vr, .int .i64 0]) ∧ Gives 43 encU w w' vq (limbs (a / b)) ∧ Gives 43 encU w w' vr (limbs (a % b)) ∧ (Apart vq vr ∨ Apart vr vq) := by
  rcases Nat.lt_or_ge a b with h | h
  · refine (div_low w va vb la lb a b ha hb h).mono ?_
    rintro e w' ⟨vr, rfl, g⟩
    refine ⟨_, _, rfl, ?_, ?_, .inl (Apart.nil_ _ _ _)⟩
    · rw [Nat.div_eq_of_lt h, limbs_zero]; exact ⟨World.ownsRow_nil _ _ _ _, g.below⟩
    · rw [Nat.mod_eq_of_lt h]; exact g
  · obtain ⟨n, hn⟩ : ∃ n, n = (limbs b).length := ⟨_, rfl⟩
    rcases (show n = 0 ∨ n = 1 ∨ 2 ≤ n by omega) with h0 | h0 | h0
    · exfalso
      have := (limbs_length_le b 0).1 (by omega)
      simp at this
      omega
    · refine (div_one w va vb la lb a b ha hb h hb0 ?_).mono ?_
      · have := (limbs_length_le b 1).1 (by omega)
        simpa using this
      · rintro e w' ⟨vq, vr, rfl, g1, g2, g3⟩
        exact ⟨vq, vr, rfl, g1, g2, .inr g3⟩
    · refine (div_long w va vb la lb a b (n - 2) ha hb h (by omega)).mono ?_
      rintro e w' ⟨vq, vr, rfl, g1, g2, g3⟩
      exact ⟨vq, vr, rfl, g1, g2, .inl g3⟩
end Go.Proofs.YtbippecchpaleaaGreatDoor
/- nat.Gcd: what it returns. Conditions: rows of at most a hundred thousand limbs. -/
namespace Go.Proofs.YtbippecchpaleaaGreatDoor
open Go.RowKit Go.Num
attribute [local go_sem] Oper.semAt_some u64_mask

set_option maxHeartbeats 2000000 in
theorem gcd_any (w : World) (va vb : Value) (la lb : List Nat) (a b : Nat) (ha : Num w va la a) (hb : Num w vb lb b) :
    Calls Tryz.prog 102 #[va, vb] w fun e w' => ∃ v, e = .returned v ∧ Gives 43 encU w w' v (limbs (Nat.gcd a b)) := by
  go_enter Tryz.func102, Tryz.ntmps102
  go_wp2_with fail
  refine (trim_any _ _ _ ha.arg ha.lim (by have := ha.len; omega)).mono ?_
  rintro e w1 ⟨v1, rfl, g1⟩
  go_wp2_with fail
  refine (trim_any _ _ _ (hb.arg.below g1.below) hb.lim (by have := hb.len; omega)).mono ?_
  rintro e w2 ⟨v2, rfl, g2⟩
  rw [hb.val] at g2
  rw [ha.val] at g1
  have ga := g1.later g2.below
  have gb := g2.after g1.below
  have hsa := Nat.le_trans (sz_num ha) ha.len
  have hsb := Nat.le_trans (sz_num hb) hb.len
  clear g1 g2 ha hb
  go_wp2_with fail
  go_loopg [0, 1] b (fun k av bv wr => ∃ x, Gives 43 encU w wr av (limbs x) ∧ Gives 43 encU w wr bv (limbs k) ∧ sz x ≤ 100000 ∧ sz k ≤ 100000 ∧ Hid (Nat.gcd x k = Nat.gcd a b))
  case atStart => exact ⟨a, ga, gb, hsa, hsb, rfl⟩
  case round =>
    obtain ⟨x, gx, gy, hx, hk, HI⟩ := hrel
    have nx := gx.num hx
    have ny := gy.num hk
    obtain ⟨A, c, rfl, hc, hr⟩ := gy.arg.open_
    clear hr hc
    rcases Nat.eq_zero_or_pos gk with h0 | h0
    · have hl0 : (limbs gk).length = 0 := by rw [h0, limbs_zero]; rfl
      have H0 := Lib.hid h0
      clear h0 gy ny
      rw [hl0]
      go_wp2_with fail
      go_ret
      have e := HI.out
      rw [H0.out, Nat.gcd_zero_right] at e
      rw [e] at gx
      exact ⟨_, rfl, gx⟩
    · have hl0 : 0 < (limbs gk).length := by
        rcases Nat.eq_zero_or_pos (limbs gk).length with h | h
        · have := (limbs_length_le gk 0).1 (by omega); simp at this; omega
        · exact h
      go_wp2_with fail
      refine (div_any _ _ _ _ _ x gk nx ny h0).mono ?_
      rintro e w5 ⟨vq, vr, rfl, g1, g2, _⟩
      have gy5 := gy.later g2.below
      have gr5 := g2.after gx.below
      have hm := Nat.mod_lt x h0
      have hs := Nat.le_trans (sz_mod x gk) hx
      have HG := Lib.hid (show Nat.gcd gk (x % gk) = Nat.gcd a b by rw [← HI.out, Nat.gcd_comm x gk, Nat.gcd_rec gk x, Nat.gcd_comm])
      clear gx gy nx ny g1 g2
      go_wp2_with fail
      go_roundg (x % gk)
      case measure => exact hm
      case rel => exact ⟨gk, gy5, gr5, hk, hs, HG⟩
end Go.Proofs.YtbippecchpaleaaGreatDoor
/- litmusref01.Same. Conditions: rows of at most a million limbs. -/
namespace Go.Proofs.YtbippecchpaleaaGreatDoor
open Go.RowKit Go.Num
attribute [local go_sem] Oper.semAt_some u64_mask

set_option maxHeartbeats 2000000 in
theorem refSame_any (w : World) (va vb : Value) (la lb : List Nat) (ha : Arg encU w va la) (hb : Arg encU w vb lb) (hn : la.length ≤ 1000000) :
    Calls Tryz.prog 71 #[va, vb] w fun e w' => e = .returned (.bool (decide (la = lb))) ∧ Below w.heap.size w w' := by
  obtain ⟨A1, c1, rfl, hc1, hr⟩ := ha.open_
  obtain ⟨A2, c2, rfl, hc2, hs⟩ := hb.open_
  clear ha hb hc1 hc2
  by_cases hl : la.length = lb.length
  · have Hl := Lib.hid hl
    go_enter Tryz.func71, Tryz.ntmps71
    go_wp2_with fail
    go_loopw [5] (fun i wr => ∃ k n : Nat, k ≤ la.length ∧ i = .int .i64 k ∧ Hid (la.take k = lb.take k) ∧ wr = w.drewN n) (fun i _ => la.length - (intOf i).toNat)
    case atStart => exact ⟨0, 0, Nat.zero_le _, rfl, by show la.take 0 = lb.take 0; simp, rfl⟩
    case round =>
      obtain ⟨k, n, hk, rfl, HI, rfl⟩ := hrel
      by_cases hlt : k < la.length
      · obtain ⟨x, hx⟩ := get_some (l := la) hlt
        obtain ⟨y, hy⟩ := get_some (l := lb) (k := k) (by omega)
        obtain ⟨b1, o1, rfl, hcx⟩ := hr.at_ hx
        obtain ⟨b2, o2, rfl, hcy⟩ := hs.at_ hy
        have Hx := Lib.hid hx
        have Hy := Lib.hid hy
        have hk2 : (k : Int) < (la.length : Int) := by omega
        have hk3 : (k : Int) < (lb.length : Int) := by omega
        clear hx hy hl
        by_cases hxy : x = y
        · subst hxy
          go_wp2_with fail
          go_quiet (fail)
          go_wp2_with fail
          go_roundw
          case rel => exact ⟨k + 1, _, by omega, by go_num, by show la.take (k + 1) = lb.take (k + 1); rw [take_snoc Hx.out, take_snoc Hy.out, HI.out], rfl⟩
          case measure => simp [intOf]; omega
        · go_wp2_with fail
          go_quiet (fail)
          go_wp2_with fail
          go_ret
          have hne : la ≠ lb := fun e => by
            have h1 := Hx.out
            rw [e, Hy.out] at h1
            exact hxy (Option.some.inj h1).symm
          exact ⟨by rw [decide_eq_false hne]; rfl, below_drewN (below_drewN (Below.refl _ _) _) _⟩
      · go_wp2_with fail
        go_ret
        have he : la = lb := by
          have h1 := HI.out
          rwa [List.take_of_length_le (by omega), List.take_of_length_le (by have := Hl.out; omega)] at h1
        exact ⟨by rw [decide_eq_true he]; rfl, below_drewN (Below.refl _ _) _⟩
  · have hne : la ≠ lb := fun e => hl (by rw [e])
    have Hne := Lib.hid hne
    clear hne
    go_enter Tryz.func71, Tryz.ntmps71
    go_wp2_with fail
    go_ret
    exact ⟨by rw [decide_eq_false Hne.out]; rfl, Below.refl _ _⟩
end Go.Proofs.YtbippecchpaleaaGreatDoor

