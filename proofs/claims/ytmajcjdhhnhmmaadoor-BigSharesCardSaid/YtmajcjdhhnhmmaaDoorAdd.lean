import Derived.Test.YtmajcjdhhnhmmaaDoorSub
/- nat.sum of two, nat.Add: what each returns. Conditions: rows of at most a hundred thousand limbs. -/
namespace Go.Proofs.YtmajcjdhhnhmmaaDoor
open Go.RowKit Go.Num Go.Shelf
attribute [local go_sem] Oper.semAt_some u64_mask

section
variable {W w1 : World} {lo N : Nat} {t1 t2 e : TypeId} {size : Nat} {v u u' : Value} {k m : Nat} {xs : List Value}
theorem box_num (_hbo : Boxed W lo t1 v) (hbc : Boxed W (lo + 1) t2 u) (h2 : t2 ≠ e) (hrow : W.ownsRow N e size v k xs) : (W.setCell ⟨lo + 1, 0, none⟩ u').ownsRow N e size v k xs :=
  hrow.kept (grownBy_setCell' W (lo + 1) u') (.inr (hbc.not_row h2 hrow).symm)
theorem box_num1 (hbo : Boxed W lo t1 v) : Boxed (W.setCell ⟨lo + 1, 0, none⟩ u') lo t1 v :=
  hbo.kept (grownBy_setCell' W (lo + 1) u') (fun e => by have := Option.some.inj e; omega)
theorem box_num2 (hbc : Boxed W (lo + 1) t2 u) : Boxed (W.setCell ⟨lo + 1, 0, none⟩ u') (lo + 1) t2 u' := hbc.set u'
theorem box_num3 : KeepP lo N W (W.setCell ⟨lo + 1, 0, none⟩ u') := (KeepP.refl lo N W).set (p := ⟨lo + 1, 0, none⟩) (.inr rfl) u'
theorem box_num4 : KeepsOthers W (W.setCell ⟨lo + 1, 0, none⟩ u') := KeepsOthers.setCell _ _ _
end

/-- What holds between two rounds of nat.sum. -/
def AddInv (pre : List Lb) (r : List Nat) (c : Nat) : Prop := r.length = pre.length ∧ Lim r ∧ c ≤ 1 ∧ val r + 4294967296 ^ pre.length * c = val (fsts pre) + val (snds pre)
theorem AddInv.step {pre : List Lb} {r : List Nat} {c : Nat} (h : AddInv pre r c) (x : Lb) {S : Nat} (hS : S = c + (x.1.1 + x.1.2)) : AddInv (pre ++ [x]) (r ++ [S % 4294967296]) (S / 4294967296) := by
  obtain ⟨hl, hr, hc, hv⟩ := h
  have hx := x.2.1
  have hy := x.2.2
  refine ⟨by simp [hl], hr.snoc (Nat.mod_lt _ (by decide)), by omega, ?_⟩
  unfold fsts snds at *
  rw [List.map_append, List.map_append, List.map_singleton, List.map_singleton, val_snoc, val_snoc, val_snoc, List.length_append, List.length_singleton, pow_succ', List.length_map, List.length_map, hl]
  exact add_step hv (by omega)

set_option maxHeartbeats 4000000 in
set_option maxRecDepth 100000 in
theorem sum_any (w : World) (g : Nat) (va vb : Value) (la lb : List Nat) (a b : Nat) (ha : Num w va la a) (hb : Num w vb lb b) (hg0 : w.cell? ⟨g, 0, none⟩ = some va) (hg1 : w.cell? ⟨g, 1, none⟩ = some vb) :
    Calls Tryd.prog 97 #[.slice (some ⟨g, 0, none⟩) 2 2] w fun e w' => ∃ v', e = .returned v' ∧ Gives 52 encU w w' v' (limbs (a + b)) := by
  obtain ⟨i0, hi, hz0, hz1, hz2⟩ := info_parts infoU
  refine (callsIn_wide (n := 10)).1 ?_
  refine callsIn_of_wp_marks Tryd.func97 rfl trivial ?_ rfl
  simp only [Tryd.ntmps97, List.size_toArray, List.length_cons, List.length_nil, Nat.reduceAdd, Nat.reduceSub, Array.replicate_succ, Array.replicate_zero, List.push_toArray, List.append_toArray, List.nil_append, List.cons_append]
  obtain ⟨A1, c1, rfl, hc1, hr1⟩ := ha.arg.open_
  obtain ⟨A2, c2, rfl, hc2, hr2⟩ := hb.arg.open_
  have hla := ha.len
  have hlb := hb.len
  gi_wp2_with fail
  refine wpIn_loop_rounds 3 ?_
  rw [roundsIn_succ]
  gi_wp2_with fail
  refine ⟨trivial, callsIn_wide.2 ((pairs_any _ _ _ _ _ _ _).mono ?_)⟩
  rintro e wp1 ⟨rfl, rfl⟩
  simp only [World.size_alloc]
  have hP1 : PairsAt _ w (((((w.alloc (.cells #[.slice none 0 0] 22)).alloc (.cells #[.int .u64 0] 65)).alloc (.cells #[.slice none 0 0] 22)).alloc (.cells #[.slice A1 la.length c1] 22)).alloc (.cells #[.func (.func 107) #[] #[]] 119)) none A1 0 c1 ([] : List Nat) la := pairsAt w none A1 0 c1 ([] : List Nat) la (Cells.nil_ _ _ _) hr1
  obtain ⟨lo1, hlo1⟩ : ∃ lo, lo = w.heap.size := ⟨_, rfl⟩
  obtain ⟨W01, hW01⟩ : ∃ W0, W0 = ((((w.alloc (.cells #[.slice none 0 0] 22)).alloc (.cells #[.int .u64 0] 65)).alloc (.cells #[.slice none 0 0] 22)).alloc (.cells #[.slice A1 la.length c1] 22)).alloc (.cells #[.func (.func 107) #[] #[]] 119) := ⟨_, rfl⟩
  rw [← hW01, ← hlo1] at hP1
  rw [← hW01, ← hlo1]
  clear hW01
  have HP1 := Lib.hid hP1
  have Hsz1 := Lib.hid hP1.sz
  have Hlo1 := Lib.hid hlo1
  clear hP1 hlo1
  gi_wp2_with fail
  refine wpIn_rangeFunc_ownF rfl (by decide) (gf := 108) (lb := #[.pointer (some ⟨lo1 + 2, 0, none⟩), .pointer (some ⟨lo1 + 2 + 1, 0, none⟩), .pointer (some ⟨lo1 + 2 + 2, 0, none⟩)]) rfl trivial (enters_of Tryd.func108 (by kernel_rfl) rfl)
    (pairs_stops 9 lo1 (lo1 + 5) none A1 0 c1 ([] : List Nat) la Lim.nil ha.lim (by simp) (by omega) W01 (lo1 + 2) (by omega) (by omega) (by rw [Hsz1.out]; omega) HP1.out.cells1 HP1.out.cells2 HP1.out.old1 HP1.out.old2 HP1.out.b0 HP1.out.b1 HP1.out.b2)
    (fun h k => h.trans k) (KeepP.putObj (by rw [Hsz1.out]; omega)) (Below.refl _ _) (fun _ => rfl)
    (fun pre W => ∃ v r c, Boxed W lo1 22 v ∧ Boxed W (lo1 + 1) 65 (.int .u64 (c : Nat)) ∧ W.ownsRow (lo1 + 5) 52 1 v r.length (r.map encU) ∧ KeepP lo1 (lo1 + 5) W01 W ∧ AddInv pre r c)
    (fun _ _ _ => False)
    (box_own _ _ W01 lo1 (lo1 + 5) _ _ _ (fun pre _ r c => AddInv pre r c) (by rw [Hsz1.out]; omega) (Nat.le_refl _))
    (fun _ _ _ _ _ hs _ _ => hs)
    ⟨_, [], 0, HP1.out.out, HP1.out.carry, World.ownsRow_nil _ _ _ _, KeepP.refl _ _ _, rfl, Lim.nil, by omega, by simp [fsts, snds]⟩
    (fun x => { tmps := #[.slice (some ⟨g, 0, none⟩) 2 2, undef, .slice none 0 0, undef, .slice A1 la.length c1, .pointer (some ⟨lo1, 0, none⟩), .pointer (some ⟨lo1 + 1, 0, none⟩), .int .u64 x.1.1, .int .u64 x.1.2, .slice (some ⟨g, 0, none⟩) 2 2, .int .i64 2, .int .i64 0, .bool true, .pointer (some ⟨g, 0, none⟩), .slice A1 la.length c1, .slice none 0 0, .slice A1 la.length c1, .func (.func 108) #[] #[.pointer (some ⟨lo1 + 2, 0, none⟩), .pointer (some ⟨lo1 + 2 + 1, 0, none⟩), .pointer (some ⟨lo1 + 2 + 2, 0, none⟩)], .int .u64 x.1.1, .int .u64 x.1.2, undef, undef, undef, undef, undef, undef, undef, undef, undef, undef, undef, undef, undef, undef, undef, undef, undef, undef, undef, undef, undef], defers := [] }) ?assign1 ?body1 ?done1 ?stop1
  case assign1 =>
    intro l x W K hK
    gi_wp2
    exact hK
  case body1 =>
    rintro l pre x W ⟨v, r, c, hbo, hbc, hrow, hk, hinv⟩ hlen
    have hN : lo1 + 5 ≤ W.heap.size := by have := hk.size; have := Hsz1.out; omega
    obtain ⟨S, hS⟩ : ∃ S : Nat, S = c + (x.1.1 + x.1.2) := ⟨_, rfl⟩
    have hSi : (c : Int) + ((x.1.1 : Int) + (x.1.2 : Int)) = (S : Int) := by rw [hS]; simp
    have hSb : S / 4294967296 < 4294967296 := by have := x.2.1; have := x.2.2; have := hinv.2.2.1; omega
    have hxy : x.1.1 + x.1.2 ≤ S := by omega
    have Hst := Lib.hid (hinv.step x hS)
    have hrl : r.length ≤ 300000 := by have := @List.length_nil Nat; rw [hinv.1]; omega
    clear hS hinv hlen
    have hc1 := hbo.cell
    have hf1 := hbo.frozen
    have hc2 := hbc.cell
    have hf2 := hbc.frozen
    gi_wp2_with (gi_at_builtin; refine wpListIn_append_own _ rfl _ _ 22 rfl (lo1 + 5) 52 i0 (.int .u32 0) 1 4 Tryd.underlying22 hi hz0 hz1 hz2 rfl (by decide) _ _ _ rfl ((box_num hbo hbc (by decide) hrow).alloc _) ⟨W.heap.size, 0, none⟩ 1 1 [.int .u32 ((S : Int) % 4294967296)] rfl rfl (by simpa using cell_one_new (W.setCell ⟨lo1 + 1, 0, none⟩ (.int .u64 S)) _ _) (by simp [Value.oneCell']) (by unfold maxLen; omega) (by omega) (by simp; omega) ?_; intro v' w3 hown' hgrow _; obtain ⟨g', cap', rfl⟩ := ownsRow_succ hown'; obtain ⟨p1, p2, p3, p4⟩ := box_push (e := 52) (box_num1 hbo) (box_num2 hbc) (by decide) (by decide) (box_num hbo hbc (by decide) hrow) (by simp; omega) hgrow; have hd1 := p1.cell; have hd2 := p1.frozen; have hd3 := p2.cell; have hd4 := p2.frozen)
    obtain ⟨q1, q2, q3, q4, q5⟩ := box_store (u' := .int .u64 (S / 4294967296 : Nat)) p1 p2 (by decide) (by decide) hown'
    exact ⟨box_num4.trans (p4.trans q5), box_num3.trans (p3.trans q4), _, r ++ [S % 4294967296], S / 4294967296, q1, q2, row_snoc q3 (by simp), hk.trans (box_num3.trans (p3.trans q4)), Hst.out⟩
  case done1 =>
    rintro D1 ys W1 hD1 rfl ⟨v1, r1, q1, hbo, hbc, hrow, hk, hinv⟩ hK1
    have hc1 := hbo.cell
    have hc2 := hbc.cell
    have hN : lo1 + 5 ≤ W1.heap.size := by have := hk.size; have := Hsz1.out; omega
    have hcc := hinv.2.2.1
    have hrl : r1.length ≤ 100000 + 1 := by have := @List.length_nil Nat; have := hinv.1; rw [ups_length] at this; omega
    obtain ⟨l1, hl1⟩ : ∃ l, l = r1 ++ [q1] := ⟨_, rfl⟩
    have hll : l1.length ≤ 100001 + 1 := by rw [hl1, List.length_append, List.length_singleton]; omega
    have hlim : Lim l1 := by rw [hl1]; exact hinv.2.1.snoc (by omega)
    have hval : val l1 = a := by
      obtain ⟨e1, e2, e3, e4⟩ := hinv
      rw [ups_length] at e1 e4
      rw [fsts_ups _ _ _ (Nat.le_max_left _ _), snds_ups _ _ _ (Nat.le_max_right _ _)] at e4
      rw [hl1, val_snoc, e1, e4, ha.val, show val ([] : List Nat) = 0 from rfl, Nat.zero_add]
    have hbW : Below w.heap.size w W1 := by have := Hlo1.out; exact hk.under (by omega) (by omega) (HP1.out.below.mono (by omega))
    have HB := Lib.hid hbW
    have HV1 := Lib.hid (And.intro hll (And.intro hlim hval))
    have HL := Lib.hid hl1
    have Hrow := Lib.hid hrow
    clear hbW hll hlim hval hinv hl1
    gi_wp2_with (gi_at_builtin; refine wpListIn_append_own _ rfl _ _ 22 rfl (lo1 + 5) 52 i0 (.int .u32 0) 1 4 Tryd.underlying22 hi hz0 hz1 hz2 rfl (by decide) _ _ _ rfl (hrow.alloc _) ⟨W1.heap.size, 0, none⟩ 1 1 [.int .u32 (q1 : Int)] rfl rfl (cell_one_new _ _ _) (by simp [Value.oneCell']) (by unfold maxLen; omega) (by omega) (by simp; omega) ?_; intro v' w2 hown' hgrow _; have hown2 := row_snoc (u := .int .u32 (q1 : Int)) hown' rfl; rw [← HL.out] at hown2; obtain ⟨B1, b1, rfl, hb1', hR1⟩ := (ownsRow_arg hown2).open_)
    have hgrow' : (W1.alloc (.cells #[.int .u32 (q1 : Int)] 52)).grownBy w2 v1.ownBlock := hgrow
    have hB2 : Below w.heap.size w w2 := by
      have h1 := HB.out.size
      have h2 := Hlo1.out
      exact (HB.out.alloc h1 _).grown hgrow' (by simp; omega) (fun k ek => by have := (World.ownsRow.lt Hrow.out k ek).1; omega)
    have hKO1 : KeepsOthers W1 w2 := (box_push hbo hbc (by decide) (by decide) hrow hN hgrow').2.2.2
    have hKn1 := hKO1.same D1 _ hK1 rfl
    clear hgrow hgrow' hown' hown2 hbo hbc hrow hk HB HL Hrow hK1 hc1 hc2 hN hcc hrl
    have hg1' : w2.cell? ⟨g, 1, none⟩ = some (.slice A2 lb.length c2) := (hB2.cell (World.block_lt_of_cell? w _ hg1)).trans hg1
    have hr2b : Cells encU w2 A2 lb := hr2.below hB2
    rw [roundsIn_succ]
    gi_wp2_with fail
    refine ⟨trivial, callsIn_wide.2 ((pairs_any _ _ _ _ _ _ _).mono ?_)⟩
    rintro e wp2 ⟨rfl, rfl⟩
    simp only [World.size_alloc]
    have hP2 : PairsAt _ w2 (((((w2.alloc (.cells #[.slice none 0 0] 22)).alloc (.cells #[.int .u64 0] 65)).alloc (.cells #[.slice B1 l1.length b1] 22)).alloc (.cells #[.slice A2 lb.length c2] 22)).alloc (.cells #[.func (.func 107) #[] #[]] 119)) B1 A2 b1 c2 l1 lb := pairsAt w2 B1 A2 b1 c2 l1 lb hR1 hr2b
    obtain ⟨lo2, hlo2⟩ : ∃ lo, lo = w2.heap.size := ⟨_, rfl⟩
    obtain ⟨W02, hW02⟩ : ∃ W0, W0 = ((((w2.alloc (.cells #[.slice none 0 0] 22)).alloc (.cells #[.int .u64 0] 65)).alloc (.cells #[.slice B1 l1.length b1] 22)).alloc (.cells #[.slice A2 lb.length c2] 22)).alloc (.cells #[.func (.func 107) #[] #[]] 119) := ⟨_, rfl⟩
    rw [← hW02, ← hlo2] at hP2
    rw [← hW02, ← hlo2]
    clear hW02
    have HP2 := Lib.hid hP2
    have Hsz2 := Lib.hid hP2.sz
    have Hlo2 := Lib.hid hlo2
    clear hP2 hlo2
    gi_wp2_with fail
    refine wpIn_rangeFunc_ownF rfl (by decide) (gf := 108) (lb := #[.pointer (some ⟨lo2 + 2, 0, none⟩), .pointer (some ⟨lo2 + 2 + 1, 0, none⟩), .pointer (some ⟨lo2 + 2 + 2, 0, none⟩)]) rfl trivial (enters_of Tryd.func108 (by kernel_rfl) rfl)
      (pairs_stops 9 lo2 (lo2 + 5) B1 A2 b1 c2 l1 lb HV1.out.2.1 hb.lim (by have := HV1.out.1; omega) (by omega) W02 (lo2 + 2) (by omega) (by omega) (by rw [Hsz2.out]; omega) HP2.out.cells1 HP2.out.cells2 HP2.out.old1 HP2.out.old2 HP2.out.b0 HP2.out.b1 HP2.out.b2)
      (fun h k => h.trans k) (KeepP.putObj (by rw [Hsz2.out]; omega)) (Below.refl _ _) (fun _ => rfl)
      (fun pre W => ∃ v r c, Boxed W lo2 22 v ∧ Boxed W (lo2 + 1) 65 (.int .u64 (c : Nat)) ∧ W.ownsRow (lo2 + 5) 52 1 v r.length (r.map encU) ∧ KeepP lo2 (lo2 + 5) W02 W ∧ AddInv pre r c)
      (fun _ _ _ => False)
      (box_own _ _ W02 lo2 (lo2 + 5) _ _ _ (fun pre _ r c => AddInv pre r c) (by rw [Hsz2.out]; omega) (Nat.le_refl _))
      (fun _ _ _ _ _ hs _ _ => hs)
      ⟨_, [], 0, HP2.out.out, HP2.out.carry, World.ownsRow_nil _ _ _ _, KeepP.refl _ _ _, rfl, Lim.nil, by omega, by simp [fsts, snds]⟩
      (fun x => { tmps := #[.slice (some ⟨g, 0, none⟩) 2 2, undef, .slice B1 l1.length b1, undef, .slice A2 lb.length c2, .pointer (some ⟨lo2, 0, none⟩), .pointer (some ⟨lo2 + 1, 0, none⟩), .int .u64 x.1.1, .int .u64 x.1.2, .slice (some ⟨g, 0, none⟩) 2 2, .int .i64 2, .int .i64 1, .bool true, .pointer (some ⟨g, 1, none⟩), .slice A2 lb.length c2, .slice B1 l1.length b1, .slice A2 lb.length c2, .func (.func 108) #[] #[.pointer (some ⟨lo2 + 2, 0, none⟩), .pointer (some ⟨lo2 + 2 + 1, 0, none⟩), .pointer (some ⟨lo2 + 2 + 2, 0, none⟩)], .int .u64 x.1.1, .int .u64 x.1.2, undef, undef, undef, undef, undef, undef, undef, undef, undef, undef, undef, undef, undef, v1, .int .u64 (q1 : Nat), .int .u32 (q1 : Nat), .slice (some ⟨W1.heap.size, 0, none⟩) 1 1, .slice B1 l1.length b1, .int .i64 1, undef, undef], defers := [] }) ?assign2 ?body2 ?done2 ?stop2
    case assign2 =>
      intro l x W K hK
      gi_wp2
      exact hK
    case body2 =>
      rintro l pre x W ⟨v, r, c, hbo, hbc, hrow, hk, hinv⟩ hlen
      have hN : lo2 + 5 ≤ W.heap.size := by have := hk.size; have := Hsz2.out; omega
      obtain ⟨S, hS⟩ : ∃ S : Nat, S = c + (x.1.1 + x.1.2) := ⟨_, rfl⟩
      have hSi : (c : Int) + ((x.1.1 : Int) + (x.1.2 : Int)) = (S : Int) := by rw [hS]; simp
      have hSb : S / 4294967296 < 4294967296 := by have := x.2.1; have := x.2.2; have := hinv.2.2.1; omega
      have hxy : x.1.1 + x.1.2 ≤ S := by omega
      have Hst := Lib.hid (hinv.step x hS)
      have hrl : r.length ≤ 300000 := by have := @List.length_nil Nat; have := HV1.out.1; rw [hinv.1]; omega
      clear hS hinv hlen
      have hc1 := hbo.cell
      have hf1 := hbo.frozen
      have hc2 := hbc.cell
      have hf2 := hbc.frozen
      gi_wp2_with (gi_at_builtin; refine wpListIn_append_own _ rfl _ _ 22 rfl (lo2 + 5) 52 i0 (.int .u32 0) 1 4 Tryd.underlying22 hi hz0 hz1 hz2 rfl (by decide) _ _ _ rfl ((box_num hbo hbc (by decide) hrow).alloc _) ⟨W.heap.size, 0, none⟩ 1 1 [.int .u32 ((S : Int) % 4294967296)] rfl rfl (by simpa using cell_one_new (W.setCell ⟨lo2 + 1, 0, none⟩ (.int .u64 S)) _ _) (by simp [Value.oneCell']) (by unfold maxLen; omega) (by omega) (by simp; omega) ?_; intro v' w3 hown' hgrow _; obtain ⟨g', cap', rfl⟩ := ownsRow_succ hown'; obtain ⟨p1, p2, p3, p4⟩ := box_push (e := 52) (box_num1 hbo) (box_num2 hbc) (by decide) (by decide) (box_num hbo hbc (by decide) hrow) (by simp; omega) hgrow; have hd1 := p1.cell; have hd2 := p1.frozen; have hd3 := p2.cell; have hd4 := p2.frozen)
      obtain ⟨q1, q2, q3, q4, q5⟩ := box_store (u' := .int .u64 (S / 4294967296 : Nat)) p1 p2 (by decide) (by decide) hown'
      exact ⟨box_num4.trans (p4.trans q5), box_num3.trans (p3.trans q4), _, r ++ [S % 4294967296], S / 4294967296, q1, q2, row_snoc q3 (by simp), hk.trans (box_num3.trans (p3.trans q4)), Hst.out⟩
    case done2 =>
      rintro D2 ys W2 hD2 rfl ⟨v2, r2, q2, hbo, hbc, hrow, hk, hinv⟩ hK2
      have hc1 := hbo.cell
      have hc2 := hbc.cell
      have hN : lo2 + 5 ≤ W2.heap.size := by have := hk.size; have := Hsz2.out; omega
      have hcc := hinv.2.2.1
      have hrl : r2.length ≤ 100000 + 2 := by have := @List.length_nil Nat; have := HV1.out.1; have := hinv.1; rw [ups_length] at this; omega
      obtain ⟨l2, hl2⟩ : ∃ l, l = r2 ++ [q2] := ⟨_, rfl⟩
      have hll : l2.length ≤ 100001 + 2 := by rw [hl2, List.length_append, List.length_singleton]; omega
      have hlim : Lim l2 := by rw [hl2]; exact hinv.2.1.snoc (by omega)
      have hval : val l2 = a + b := by
        obtain ⟨e1, e2, e3, e4⟩ := hinv
        rw [ups_length] at e1 e4
        rw [fsts_ups _ _ _ (Nat.le_max_left _ _), snds_ups _ _ _ (Nat.le_max_right _ _)] at e4
        rw [hl2, val_snoc, e1, e4, HV1.out.2.2, hb.val]
      have hbW : Below w2.heap.size w2 W2 := by have := Hlo2.out; exact hk.under (by omega) (by omega) (HP2.out.below.mono (by omega))
      have HB := Lib.hid hbW
      have HV2 := Lib.hid (And.intro hll (And.intro hlim hval))
      have HL := Lib.hid hl2
      have Hrow := Lib.hid hrow
      clear hbW hll hlim hval hinv hl2
      gi_wp2_with (gi_at_builtin; refine wpListIn_append_own _ rfl _ _ 22 rfl (lo2 + 5) 52 i0 (.int .u32 0) 1 4 Tryd.underlying22 hi hz0 hz1 hz2 rfl (by decide) _ _ _ rfl (hrow.alloc _) ⟨W2.heap.size, 0, none⟩ 1 1 [.int .u32 (q2 : Int)] rfl rfl (cell_one_new _ _ _) (by simp [Value.oneCell']) (by unfold maxLen; omega) (by omega) (by simp; omega) ?_; intro v' w3 hown' hgrow _; have hown2 := row_snoc (u := .int .u32 (q2 : Int)) hown' rfl; rw [← HL.out] at hown2; obtain ⟨B2, b2, rfl, hb2', hR2⟩ := (ownsRow_arg hown2).open_)
      have hgrow' : (W2.alloc (.cells #[.int .u32 (q2 : Int)] 52)).grownBy w3 v2.ownBlock := hgrow
      have hB3 : Below w2.heap.size w2 w3 := by
        have h1 := HB.out.size
        have h2 := Hlo2.out
        exact (HB.out.alloc h1 _).grown hgrow' (by simp; omega) (fun k ek => by have := (World.ownsRow.lt Hrow.out k ek).1; omega)
      have hKO2 : KeepsOthers W2 w3 := (box_push hbo hbc (by decide) (by decide) hrow hN hgrow').2.2.2
      have hKn2 := hKO2.same D2 _ hK2 rfl
      have hD1w : D1 < w2.heap.size := (Array.getElem?_eq_some_iff.1 hKn1).1
      have hlo2e := Hlo2.out
      have hsz2 := Hsz2.out
      have hKm : w3.heap[D1]? = some (.deferred (some [])) := hKO2.same D1 _ ((hk.block D1 (by omega) (by omega) (by omega)).trans ((HP2.out.below.block D1 (by omega)).trans hKn1)) rfl
      clear hgrow hgrow' hown' hown2 hbo hbc hrow hk HB HL Hrow hK2 hc1 hc2 hN hcc hrl
      rw [roundsIn_succ]
      gi_wp2_with fail
      have hKn := (KeepsOthers.refl w3).same D2 _ hKn2 rfl
      have harg : Arg encU w3 (.slice B2 l2.length b2) l2 := ⟨_, _, rfl, hb2', hR2⟩
      refine ⟨trivial, callsIn_wide.2 ((trim_any _ _ l2 harg HV2.out.2.1 (by have := HV2.out.1; omega)).mono ?_)⟩
      rintro e w5 ⟨v5, rfl, hg⟩
      have hK5 : w5.heap[D2]? = some (.deferred (some [])) := (hg.below.block D2 (Array.getElem?_eq_some_iff.1 hKn2).1).trans hKn2
      have hK6 : w5.heap[D1]? = some (.deferred (some [])) := (hg.below.block D1 (Array.getElem?_eq_some_iff.1 hKm).1).trans hKm
      have hne : D1 ≠ D2 := by omega
      have hK7 : (w5.putObj D2 (.deferred none)).heap[D1]? = some (.deferred (some [])) := ((grownBy_putObj' w5 D2 (.deferred none)).block D1 (Array.getElem?_eq_some_iff.1 hK6).1 (fun e => hne (Option.some.inj e))).trans hK6
      rw [HV2.out.2.2] at hg
      have hz1 := HP1.out.below.size
      have hz2 := Hlo1.out
      have hgg := ((hg.after (hB2.trans (hB3.mono hB2.size))).putObj (.deferred none) (by omega) hK5 rfl).putObj (.deferred none) (by omega) hK7 rfl
      gi_wp2
      refine ⟨by simp, .inl ⟨_, _, rfl, run_takeDeferred hK5, ?_⟩⟩
      refine ⟨by simp, .inl ⟨_, _, rfl, run_takeDeferred hK7, ?_⟩⟩
      exact ⟨_, results_tmp rfl _ _ _, v5, rfl, hgg⟩
    case stop2 =>
      rintro D c pre W _ _ h _
      exact h.elim

  case stop1 =>
    rintro D c pre W _ _ h _
    exact h.elim

theorem add_any (w : World) (va vb : Value) (la lb : List Nat) (a b : Nat) (ha : Num w va la a) (hb : Num w vb lb b) :
    Calls Tryd.prog 75 #[va, vb] w fun e w' => ∃ v', e = .returned v' ∧ Gives 52 encU w w' v' (limbs (a + b)) := by
  obtain ⟨A1, c1, rfl, hc1, hr1⟩ := ha.arg.open_
  obtain ⟨A2, c2, rfl, hc2, hr2⟩ := hb.arg.open_
  go_enter Tryd.func75, Tryd.ntmps75
  go_wp2_with fail
  have hB := (Below.refl w.heap.size w).alloc (Nat.le_refl _) (.cells #[.slice A1 la.length c1, .slice A2 lb.length c2] 22)
  refine (sum_any _ _ _ _ _ _ _ _ (ha.below hB) (hb.below hB) (by rw [cell_of_row _ _ _ _ _ _ (heap_alloc_new w _)]; rfl) (by rw [cell_of_row _ _ _ _ _ _ (heap_alloc_new w _)]; rfl)).mono ?_
  rintro e w1 ⟨v1, rfl, hg⟩
  go_wp2
  go_ret
  exact ⟨_, rfl, hg.after hB⟩
end Go.Proofs.YtmajcjdhhnhmmaaDoor
