import Derived.Test.YtmajcjdhhnhmmaaDoorGBox
/- nat.Sub: what it returns. Conditions: rows of at most a hundred thousand limbs. -/
namespace Go.Proofs.YtmajcjdhhnhmmaaDoor
open Go.RowKit Go.Num Go.Shelf
attribute [local go_sem] Oper.semAt_some u64_mask shr63

set_option maxHeartbeats 1000000 in
theorem sub_no (w : World) (va vb : Value) (la lb : List Nat) (a b : Nat) (ha : Num w va la a) (hb : Num w vb lb b) (h : a < b) :
    Calls Tryd.prog 74 #[va, vb] w fun e w' => e = .returned (.tuple #[.slice none 0 0, .bool false]) ∧ Below w.heap.size w w' := by
  have hc : cmpN a b = -1 := cmpN_lt h
  go_enter Tryd.func74, Tryd.ntmps74
  go_wp2_with fail
  refine (cmp_any _ _ _ _ _ _ _ ha hb).mono ?_
  rintro e w1 ⟨rfl, hb1⟩
  rw [hc]
  go_wp2
  go_ret2
  exact ⟨rfl, hb1⟩

/-- Where a loop over two numbers' limbs begins. -/
structure PairsAt (lo : Nat) (w1 W0 : World) (A1 A2 : Option Addr) (c1 c2 : Nat) (la lb : List Nat) : Prop where
  sz : W0.heap.size = lo + 5
  out : Boxed W0 lo 22 (.slice none 0 0)
  carry : Boxed W0 (lo + 1) 65 (.int .u64 ((0 : Nat) : Int))
  b0 : W0.cell? ⟨lo + 2, 0, none⟩ = some (.slice A1 la.length c1)
  b1 : W0.cell? ⟨lo + 2 + 1, 0, none⟩ = some (.slice A2 lb.length c2)
  b2 : W0.cell? ⟨lo + 2 + 2, 0, none⟩ = some (.func (.func 107) #[] #[])
  below : Below lo w1 W0
  cells1 : Cells encU W0 A1 la
  cells2 : Cells encU W0 A2 lb
  old1 : 0 < la.length → ∀ x, A1 = some x → x.block < lo
  old2 : 0 < lb.length → ∀ x, A2 = some x → x.block < lo
theorem pairsAt (w1 : World) (A1 A2 : Option Addr) (c1 c2 : Nat) (la lb : List Nat) (hr1 : Cells encU w1 A1 la) (hr2 : Cells encU w1 A2 lb) : PairsAt w1.heap.size w1 (((((w1.alloc (.cells #[.slice none 0 0] 22)).alloc (.cells #[.int .u64 0] 65)).alloc (.cells #[.slice A1 la.length c1] 22)).alloc (.cells #[.slice A2 lb.length c2] 22)).alloc (.cells #[.func (.func 107) #[] #[]] 119)) A1 A2 c1 c2 la lb := by
  obtain ⟨lo, hlo⟩ : ∃ lo, lo = w1.heap.size := ⟨_, rfl⟩
  obtain ⟨W0, hW0⟩ : ∃ W0, W0 = ((((w1.alloc (.cells #[.slice none 0 0] 22)).alloc (.cells #[.int .u64 0] 65)).alloc (.cells #[.slice A1 la.length c1] 22)).alloc (.cells #[.slice A2 lb.length c2] 22)).alloc (.cells #[.func (.func 107) #[] #[]] 119) := ⟨_, rfl⟩
  have hsz : W0.heap.size = lo + 5 := by rw [hW0, hlo]; simp
  have hbo : Boxed W0 lo 22 (.slice none 0 0) := by rw [hW0, hlo]; exact ((((Boxed.new w1 _ _).alloc _).alloc _).alloc _).alloc _
  have hbc : Boxed W0 (lo + 1) 65 (.int .u64 ((0 : Nat) : Int)) := by
    have := (((Boxed.new (w1.alloc (.cells #[.slice none 0 0] 22)) 65 (.int .u64 0)).alloc (.cells #[.slice A1 la.length c1] 22)).alloc (.cells #[.slice A2 lb.length c2] 22)).alloc (.cells #[.func (.func 107) #[] #[]] 119)
    rw [World.size_alloc] at this
    rw [hW0, hlo]; exact this
  have hx0 : Boxed W0 (lo + 2) 22 (.slice A1 la.length c1) := by
    have := ((Boxed.new ((w1.alloc (.cells #[.slice none 0 0] 22)).alloc (.cells #[.int .u64 0] 65)) 22 (.slice A1 la.length c1)).alloc (.cells #[.slice A2 lb.length c2] 22)).alloc (.cells #[.func (.func 107) #[] #[]] 119)
    simp only [World.size_alloc] at this
    rw [hW0, hlo]; exact this
  have hx1 : Boxed W0 (lo + 2 + 1) 22 (.slice A2 lb.length c2) := by
    have := (Boxed.new (((w1.alloc (.cells #[.slice none 0 0] 22)).alloc (.cells #[.int .u64 0] 65)).alloc (.cells #[.slice A1 la.length c1] 22)) 22 (.slice A2 lb.length c2)).alloc (.cells #[.func (.func 107) #[] #[]] 119)
    simp only [World.size_alloc] at this
    rw [hW0, hlo]; exact this
  have hx2 : Boxed W0 (lo + 2 + 2) 119 (.func (.func 107) #[] #[]) := by
    have := Boxed.new ((((w1.alloc (.cells #[.slice none 0 0] 22)).alloc (.cells #[.int .u64 0] 65)).alloc (.cells #[.slice A1 la.length c1] 22)).alloc (.cells #[.slice A2 lb.length c2] 22)) 119 (.func (.func 107) #[] #[])
    simp only [World.size_alloc] at this
    rw [hW0, hlo]; exact this
  have hB1 : Below lo w1 W0 := by rw [hW0, hlo]; exact ((((((Below.refl _ w1).alloc (Nat.le_refl _) _).alloc (by simp) _).alloc (by simp; omega) _).alloc (by simp; omega) _).alloc (by simp; omega) _)
  have hr1' : Cells encU W0 A1 la := hr1.below (by rw [← hlo]; exact hB1)
  have hr2' : Cells encU W0 A2 lb := hr2.below (by rw [← hlo]; exact hB1)
  have hA1 : 0 < la.length → ∀ x, A1 = some x → x.block < lo := fun h0 x e => by
    obtain ⟨b0, o0, e0, hx⟩ := hr1 h0
    obtain ⟨y, hy⟩ := get_some h0
    have := World.block_lt_of_cell? w1 _ (hx 0 y hy)
    rw [e] at e0; cases e0; rw [hlo]; exact this
  have hA2 : 0 < lb.length → ∀ x, A2 = some x → x.block < lo := fun h0 x e => by
    obtain ⟨b0, o0, e0, hx⟩ := hr2 h0
    obtain ⟨y, hy⟩ := get_some h0
    have := World.block_lt_of_cell? w1 _ (hx 0 y hy)
    rw [e] at e0; cases e0; rw [hlo]; exact this
  rw [← hW0, ← hlo]
  exact ⟨hsz, hbo, hbc, hx0.cell, hx1.cell, hx2.cell, hB1, hr1', hr2', hA1, hA2⟩

/-- What holds between two rounds of nat.Sub. -/
def SubInv (pre : List Lb) (r : List Nat) (c : Nat) : Prop := r.length = pre.length ∧ Lim r ∧ c ≤ 1 ∧ val (fsts pre) + 4294967296 ^ pre.length * c = val r + val (snds pre)
theorem SubInv.step {pre : List Lb} {r : List Nat} {c : Nat} (h : SubInv pre r c) (x : Lb) {D : Nat} (h1 : hi63 D ≤ 1) (hd : x.1.1 + 4294967296 * hi63 D = D % 4294967296 + x.1.2 + c) : SubInv (pre ++ [x]) (r ++ [D % 4294967296]) (hi63 D) := by
  obtain ⟨hl, hr, _, hv⟩ := h
  refine ⟨by simp [hl], hr.snoc (Nat.mod_lt _ (by decide)), h1, ?_⟩
  unfold fsts snds at *
  rw [List.map_append, List.map_append, List.map_singleton, List.map_singleton, val_snoc, val_snoc, val_snoc, List.length_append, List.length_singleton, pow_succ', List.length_map, List.length_map, hl]
  exact sub_step hv hd

set_option maxHeartbeats 4000000 in
set_option maxRecDepth 100000 in
theorem sub_yes (w : World) (va vb : Value) (la lb : List Nat) (a b : Nat) (ha : Num w va la a) (hb : Num w vb lb b) (h : b ≤ a) :
    Calls Tryd.prog 74 #[va, vb] w fun e w' => ∃ v', e = .returned (.tuple #[v', .bool true]) ∧ Gives 52 encU w w' v' (limbs (a - b)) := by
  obtain ⟨i0, hi, hz0, hz1, hz2⟩ := info_parts infoU
  have hc : (0 : Int) ≤ cmpN a b := by
    rcases Nat.lt_or_ge b a with h' | h'
    · rw [cmpN_gt h']; decide
    · rw [cmpN_eq (by omega)]; decide
  refine (callsIn_wide (n := 10)).1 ?_
  refine callsIn_of_wp_marks Tryd.func74 rfl trivial ?_ rfl
  simp only [Tryd.ntmps74, List.size_toArray, List.length_cons, List.length_nil, Nat.reduceAdd, Nat.reduceSub, Array.replicate_succ, Array.replicate_zero, List.push_toArray, List.append_toArray, List.nil_append, List.cons_append]
  gi_wp2_with fail
  refine ⟨trivial, callsIn_wide.2 ((cmp_any _ _ _ _ _ _ _ ha hb).mono ?_)⟩
  rintro e w1 ⟨rfl, hb1⟩
  have ha1 := ha.below hb1
  have hb2 := hb.below hb1
  obtain ⟨A1, c1, rfl, hc1, hr1⟩ := ha1.arg.open_
  obtain ⟨A2, c2, rfl, hc2, hr2⟩ := hb2.arg.open_
  generalize cmpN a b = cc at *
  gi_wp2_with fail
  refine ⟨trivial, callsIn_wide.2 ((pairs_any _ _ _ _ _ _ _).mono ?_)⟩
  rintro e w2 ⟨rfl, rfl⟩
  simp only [World.size_alloc]
  have hla := ha.len
  have hlb := hb.len
  have hP := pairsAt w1 A1 A2 c1 c2 la lb hr1 hr2
  obtain ⟨lo, hlo⟩ : ∃ lo, lo = w1.heap.size := ⟨_, rfl⟩
  obtain ⟨W0, hW0⟩ : ∃ W0, W0 = ((((w1.alloc (.cells #[.slice none 0 0] 22)).alloc (.cells #[.int .u64 0] 65)).alloc (.cells #[.slice A1 la.length c1] 22)).alloc (.cells #[.slice A2 lb.length c2] 22)).alloc (.cells #[.func (.func 107) #[] #[]] 119) := ⟨_, rfl⟩
  rw [← hW0, ← hlo] at hP
  rw [← hW0, ← hlo]
  clear hW0
  have HP := Lib.hid hP
  have Hsz := Lib.hid hP.sz
  have Hlo := Lib.hid hlo
  clear hP hlo ha1 hb2 hr1 hr2
  gi_wp2_with fail
  refine wpIn_rangeFunc_ownF rfl (by decide) (gf := 108) (lb := #[.pointer (some ⟨lo + 2, 0, none⟩), .pointer (some ⟨lo + 2 + 1, 0, none⟩), .pointer (some ⟨lo + 2 + 2, 0, none⟩)]) rfl trivial (enters_of Tryd.func108 (by kernel_rfl) rfl)
    (pairs_stops 9 lo (lo + 5) A1 A2 c1 c2 la lb ha.lim hb.lim (by omega) (by omega) W0 (lo + 2) (by omega) (by omega) (by rw [Hsz.out]; omega) HP.out.cells1 HP.out.cells2 HP.out.old1 HP.out.old2 HP.out.b0 HP.out.b1 HP.out.b2)
    (fun h k => h.trans k) (KeepP.putObj (by rw [Hsz.out]; omega)) (Below.refl _ _) (fun _ => rfl)
    (fun pre W => ∃ v r c, Boxed W lo 22 v ∧ Boxed W (lo + 1) 65 (.int .u64 (c : Nat)) ∧ W.ownsRow (lo + 5) 52 1 v r.length (r.map encU) ∧ KeepP lo (lo + 5) W0 W ∧ SubInv pre r c)
    (fun _ _ _ => False)
    (box_own _ _ W0 lo (lo + 5) _ _ _ (fun pre _ r c => SubInv pre r c) (by rw [Hsz.out]; omega) (Nat.le_refl _))
    (fun _ _ _ _ _ hs _ _ => hs)
    ⟨_, [], 0, HP.out.out, HP.out.carry, World.ownsRow_nil _ _ _ _, KeepP.refl _ _ _, rfl, Lim.nil, by omega, by simp [fsts, snds]⟩
    (fun x => { tmps := #[.slice A1 la.length c1, .slice A2 lb.length c2, undef, undef, .slice none 0 0, .bool false, .pointer (some ⟨lo, 0, none⟩), .pointer (some ⟨lo + 1, 0, none⟩), .int .u64 x.1.1, .int .u64 x.1.2, undef, .slice A1 la.length c1, .slice A2 lb.length c2, .int .i64 cc, .bool (decide (cc < 0)), .slice A1 la.length c1, .slice A2 lb.length c2, .func (.func 108) #[] #[.pointer (some ⟨lo + 2, 0, none⟩), .pointer (some ⟨lo + 2 + 1, 0, none⟩), .pointer (some ⟨lo + 2 + 2, 0, none⟩)], .int .u64 x.1.1, .int .u64 x.1.2, undef, undef, undef, undef, undef, undef, undef, undef, undef, undef, undef, undef, undef, undef, undef], defers := [] }) ?assign ?body ?done ?stop
  case assign =>
    intro l x W K hK
    gi_wp2
    exact hK
  case body =>
    rintro l pre x W ⟨v, r, c, hbo, hbc, hrow, hk, hinv⟩ hlen
    have hN : lo + 5 ≤ W.heap.size := by have := hk.size; have := Hsz.out; omega
    obtain ⟨D, hD, hD1, hD2, hD3⟩ := sub64 x.1.1 x.1.2 c x.2.1 x.2.2 hinv.2.2.1
    have Hst := Lib.hid (hinv.step x hD2 hD3)
    have hrl : r.length ≤ 100000 := by rw [hinv.1]; omega
    clear hD2 hD3 hinv hlen
    have hc1 := hbo.cell
    have hf1 := hbo.frozen
    have hc2 := hbc.cell
    have hf2 := hbc.frozen
    gi_wp2_with (gi_at_builtin; refine wpListIn_append_own _ rfl _ _ 22 rfl (lo + 5) 52 i0 (.int .u32 0) 1 4 Tryd.underlying22 hi hz0 hz1 hz2 rfl (by decide) _ _ _ rfl (hrow.alloc _) ⟨W.heap.size, 0, none⟩ 1 1 [.int .u32 ((D : Int) % 4294967296)] rfl rfl (cell_one_new _ _ _) (by simp [Value.oneCell']) (by unfold maxLen; omega) (by omega) (by simp; omega) ?_; intro v' w3 hown' hgrow _; obtain ⟨g', cap', rfl⟩ := ownsRow_succ hown'; obtain ⟨p1, p2, p3, p4⟩ := box_push (e := 52) hbo hbc (by decide) (by decide) hrow hN hgrow; have hd1 := p1.cell; have hd2 := p1.frozen; have hd3 := p2.cell; have hd4 := p2.frozen)
    obtain ⟨q1, q2, q3, q4, q5⟩ := box_store (u' := .int .u64 (hi63 D : Nat)) p1 p2 (by decide) (by decide) hown'
    exact ⟨p4.trans q5, p3.trans q4, _, r ++ [D % 4294967296], hi63 D, q1, q2, row_snoc q3 (by simp), hk.trans (p3.trans q4), Hst.out⟩
  case done =>
    rintro D ys W hD rfl ⟨v, r, c, hbo, hbc, hrow, hk, hinv⟩ hK
    have hval : val r = a - b ∧ Lim r ∧ r.length ≤ 1000000 := by
      obtain ⟨e1, e2, e3, e4⟩ := hinv
      rw [ups_length] at e1 e4
      rw [fsts_ups _ _ _ (Nat.le_max_left _ _), snds_ups _ _ _ (Nat.le_max_right _ _), ha.val, hb.val] at e4
      have hlt := val_lt e2
      rw [e1] at hlt
      refine ⟨?_, e2, by omega⟩
      rcases (show c = 0 ∨ c = 1 by omega) with rfl | rfl
      · omega
      · rw [Nat.mul_one] at e4; omega
    have HV := Lib.hid hval
    clear hval hinv
    have hc1 := hbo.cell
    have harg : Arg encU W v r := ownsRow_arg hrow
    gi_wp2_with fail
    refine ⟨trivial, callsIn_wide.2 ((trim_any _ _ r harg HV.out.2.1 HV.out.2.2).mono ?_)⟩
    rintro e w5 ⟨v5, rfl, hg⟩
    have hK5 : w5.heap[D]? = some (.deferred (some [])) := (hg.below.block D (Array.getElem?_eq_some_iff.1 hK).1).trans hK
    gi_wp2
    refine ⟨by simp, .inl ⟨_, _, rfl, run_takeDeferred hK5, ?_⟩⟩
    have hs1 := hb1.size
    have hlo := Hlo.out
    have hbW : Below w.heap.size w W := hk.under (by omega) (by omega) (hb1.trans (HP.out.below.mono (by omega)))
    have hsz := Hsz.out
    refine ⟨_, results_tmp2 rfl _ _ _, v5, rfl, ?_⟩
    rw [HV.out.1] at hg
    exact (hg.after hbW).putObj _ (by omega) hK5 rfl
  case stop =>
    rintro D c pre W _ _ h _
    exact h.elim
end Go.Proofs.YtmajcjdhhnhmmaaDoor
