import Derived.Test.YtdmghakmhfhpiaaDoorRefText
import Derived.Test.YtdmghakmhfhpiaaDoorRefMul
import Derived.Test.YtdmghakmhfhpiaaDoorRefLess
import Derived.Test.YtdmghakmhfhpiaaDoorRefAdd
/- litmusref01's Trim, Cmp, Add, Sub, Mul, Div: what each returns. -/
namespace Go.Proofs.YtdmghakmhfhpiaaDoor
open Go.RowKit Go.Num
attribute [local go_sem] Oper.semAt_some
theorem bits_small {w : World} {v : Value} {l : List Nat} {n : Nat} (h : Num w v l n) (hl : l.length ≤ 1000) : (Num.bits n).length ≤ 32000 := bits_num (Nat.le_trans (sz_num h) hl)

theorem bits_mul_len {a b k : Nat} (ha : (Num.bits a).length ≤ k) (hb : (Num.bits b).length ≤ k) : (Num.bits (a * b)).length ≤ k + k := by
  have h1 := (bits_length_le a k).1 ha
  have h2 := (bits_length_le b k).1 hb
  refine (bits_length_le _ _).2 ?_
  rw [Nat.pow_add]
  exact Nat.mul_lt_mul'' h1 h2

set_option maxHeartbeats 1000000 in
theorem rTrim_any (w : World) (va : Value) (la : List Nat) (a : Nat) (ha : Num w va la a) (hl : la.length ≤ 1000) :
    Calls Tryd.prog 33 #[va] w fun e w' => ∃ v', e = .returned v' ∧ Arg encU w' v' (limbs a) ∧ Below w.heap.size w w' := by
  have hs := Lib.hid (bits_small ha hl)
  go_enter Tryd.func33, Tryd.ntmps33
  go_wp2_with fail
  refine (bits_of _ _ _ a ha).mono ?_
  rintro e w1 ⟨v1, rfl, g1, b1⟩
  go_wp2_with fail
  refine (rlimbs_of _ _ a g1 (Nat.le_trans hs.out (by decide))).mono ?_
  rintro e w2 ⟨v2, rfl, g2, b2⟩
  go_wp2_with fail
  go_ret
  exact ⟨_, rfl, g2, b1.trans (b2.mono b1.size)⟩

set_option maxHeartbeats 2000000 in
theorem rAdd_any (w : World) (va vb : Value) (la lb : List Nat) (a b : Nat) (ha : Num w va la a) (hb : Num w vb lb b) (hla : la.length ≤ 1000) (hlb : lb.length ≤ 1000) :
    Calls Tryd.prog 35 #[va, vb] w fun e w' => ∃ v', e = .returned v' ∧ Arg encU w' v' (limbs (a + b)) ∧ Below w.heap.size w w' := by
  have hsa := Lib.hid (bits_small ha hla)
  have hsb := Lib.hid (bits_small hb hlb)
  go_enter Tryd.func35, Tryd.ntmps35
  go_wp2_with fail
  refine (bits_of _ _ _ a ha).mono ?_
  rintro e w1 ⟨v1, rfl, g1, b1⟩
  go_wp2_with fail
  refine (bits_of _ _ _ b (hb.below b1)).mono ?_
  rintro e w2 ⟨v2, rfl, g2, b2⟩
  replace g1 := g1.below b2
  replace b1 := b1.trans (b2.mono b1.size)
  clear b2 ha hb
  go_wp2_with fail
  refine (radd_any _ _ _ (Num.bits a) (Num.bits b) g1 g2 (Nat.le_trans hsa.out (by decide)) (Nat.le_trans hsb.out (by decide))).mono ?_
  rintro e w3 ⟨v3, r3, rfl, g3, b3, e3, l3⟩
  rw [bval_bits, bval_bits] at e3
  have H3 := Lib.hid (And.intro e3 (show r3.length ≤ 30000000 by have := hsa.out; have := hsb.out; omega))
  clear e3 l3
  go_wp2_with fail
  refine (rlimbs_any _ _ r3 g3 H3.out.2).mono ?_
  rintro e w4 ⟨v4, rfl, g4, b4⟩
  rw [H3.out.1] at g4
  go_wp2_with fail
  go_ret
  exact ⟨_, rfl, g4, (b1.trans (b3.mono b1.size)).trans (b4.mono (Nat.le_trans b1.size b3.size))⟩

set_option maxHeartbeats 2000000 in
theorem rMul_any (w : World) (va vb : Value) (la lb : List Nat) (a b : Nat) (ha : Num w va la a) (hb : Num w vb lb b) (hla : la.length ≤ 1000) (hlb : lb.length ≤ 1000) :
    Calls Tryd.prog 36 #[va, vb] w fun e w' => ∃ v', e = .returned v' ∧ Arg encU w' v' (limbs (a * b)) ∧ Below w.heap.size w w' := by
  have hsa := Lib.hid (bits_small ha hla)
  have hsb := Lib.hid (bits_small hb hlb)
  go_enter Tryd.func36, Tryd.ntmps36
  go_wp2_with fail
  refine (bits_of _ _ _ a ha).mono ?_
  rintro e w1 ⟨v1, rfl, g1, b1⟩
  go_wp2_with fail
  refine (bits_of _ _ _ b (hb.below b1)).mono ?_
  rintro e w2 ⟨v2, rfl, g2, b2⟩
  replace g1 := g1.below b2
  replace b1 := b1.trans (b2.mono b1.size)
  clear b2 ha hb
  go_wp2_with fail
  refine (rmul_any _ _ _ (Num.bits a) (Num.bits b) g1 g2 (Nat.le_trans hsa.out (by decide)) (Nat.le_trans hsb.out (by decide))).mono ?_
  rintro e w3 ⟨v3, rfl, g3, b3⟩
  rw [bval_bits, bval_bits] at g3
  have hm := bits_mul_len hsa.out hsb.out
  have HM := Lib.hid hm
  clear hm
  go_wp2_with fail
  refine (rlimbs_of _ _ (a * b) g3 (Nat.le_trans HM.out (by decide))).mono ?_
  rintro e w4 ⟨v4, rfl, g4, b4⟩
  go_wp2_with fail
  go_ret
  exact ⟨_, rfl, g4, (b1.trans (b3.mono b1.size)).trans (b4.mono (Nat.le_trans b1.size b3.size))⟩

set_option maxHeartbeats 4000000 in
theorem rSub_no (w : World) (va vb : Value) (la lb : List Nat) (a b : Nat) (ha : Num w va la a) (hb : Num w vb lb b) (hla : la.length ≤ 1000) (hlb : lb.length ≤ 1000) (h : a < b) :
    Calls Tryd.prog 31 #[va, vb] w fun e w' => e = .returned (.tuple #[.slice none 0 0, .bool false]) ∧ Below w.heap.size w w' := by
  have hsa := Lib.hid (bits_small ha hla)
  have hsb := Lib.hid (bits_small hb hlb)
  have hd := Lib.hid (show decide (bval (Num.bits a) < bval (Num.bits b)) = true by rw [bval_bits, bval_bits]; exact decide_eq_true h)
  clear h
  go_enter Tryd.func31, Tryd.ntmps31
  go_wp2_with fail
  refine (bits_of _ _ _ a ha).mono ?_
  rintro e w1 ⟨v1, rfl, g1, b1⟩
  go_wp2_with fail
  refine (bits_of _ _ _ b (hb.below b1)).mono ?_
  rintro e w2 ⟨v2, rfl, g2, b2⟩
  go_wp2_with fail
  refine (rless_is _ _ _ _ _ true (g1.below b2) g2 (Nat.le_trans hsa.out (by decide)) (Nat.le_trans hsb.out (by decide)) hd.out).mono ?_
  rintro e w3 ⟨rfl, b3⟩
  go_wp2_with fail
  go_ret2
  exact ⟨rfl, (b1.trans (b2.mono b1.size)).trans (b3.mono (Nat.le_trans b1.size b2.size))⟩

set_option maxHeartbeats 4000000 in
theorem rSub_yes (w : World) (va vb : Value) (la lb : List Nat) (a b : Nat) (ha : Num w va la a) (hb : Num w vb lb b) (hla : la.length ≤ 1000) (hlb : lb.length ≤ 1000) (h : b ≤ a) :
    Calls Tryd.prog 31 #[va, vb] w fun e w' => ∃ v', e = .returned (.tuple #[v', .bool true]) ∧ Arg encU w' v' (limbs (a - b)) ∧ Below w.heap.size w w' := by
  have hsa := Lib.hid (bits_small ha hla)
  have hsb := Lib.hid (bits_small hb hlb)
  have hd := Lib.hid (show decide (bval (Num.bits a) < bval (Num.bits b)) = false by rw [bval_bits, bval_bits]; exact decide_eq_false (by omega))
  have hh := Lib.hid h
  clear h
  go_enter Tryd.func31, Tryd.ntmps31
  go_wp2_with fail
  refine (bits_of _ _ _ a ha).mono ?_
  rintro e w1 ⟨v1, rfl, g1, b1⟩
  replace ha := ha.below b1
  replace hb := hb.below b1
  go_wp2_with fail
  refine (bits_of _ _ _ b hb).mono ?_
  rintro e w2 ⟨v2, rfl, g2, b2⟩
  replace ha := ha.below b2
  replace hb := hb.below b2
  replace g1 := g1.below b2
  replace b1 := b1.trans (b2.mono b1.size)
  clear b2
  go_wp2_with fail
  refine (rless_is _ _ _ _ _ false g1 g2 (Nat.le_trans hsa.out (by decide)) (Nat.le_trans hsb.out (by decide)) hd.out).mono ?_
  rintro e w3 ⟨rfl, b3⟩
  replace ha := ha.below b3
  replace hb := hb.below b3
  replace b1 := b1.trans (b3.mono b1.size)
  clear b3 g1 g2
  go_wp2_with fail
  refine (bits_of _ _ _ a ha).mono ?_
  rintro e w4 ⟨v4, rfl, g4, b4⟩
  replace hb := hb.below b4
  replace b1 := b1.trans (b4.mono b1.size)
  clear b4
  go_wp2_with fail
  refine (bits_of _ _ _ b hb).mono ?_
  rintro e w5 ⟨v5, rfl, g5, b5⟩
  replace g4 := g4.below b5
  replace b1 := b1.trans (b5.mono b1.size)
  clear b5
  go_wp2_with fail
  refine (rsub_any _ _ _ (Num.bits a) (Num.bits b) g4 g5 (Nat.le_trans hsa.out (by decide)) (Nat.le_trans hsb.out (by decide)) (by rw [bval_bits, bval_bits]; exact hh.out)).mono ?_
  rintro e w6 ⟨v6, rfl, g6, b6, _⟩
  rw [bval_bits, bval_bits] at g6
  have hm : (Num.bits (a - b)).length ≤ 32000 := (bits_length_le _ _).2 (Nat.lt_of_le_of_lt (Nat.sub_le a b) ((bits_length_le a 32000).1 hsa.out))
  have HM := Lib.hid hm
  clear hm
  go_wp2_with fail
  refine (rlimbs_of _ _ (a - b) g6 (Nat.le_trans HM.out (by decide))).mono ?_
  rintro e w7 ⟨v7, rfl, g7, b7⟩
  go_wp2_with fail
  go_ret2
  exact ⟨_, rfl, g7, (b1.trans (b6.mono b1.size)).trans (b7.mono (Nat.le_trans b1.size b6.size))⟩

set_option maxHeartbeats 4000000 in
theorem rDiv_zero (w : World) (va vb : Value) (lb : List Nat) (hb : Num w vb lb 0) :
    Calls Tryd.prog 32 #[va, vb] w fun e w' => e = .returned (.tuple #[.slice none 0 0, .slice none 0 0, .int .i64 3]) ∧ Below w.heap.size w w' := by
  go_enter Tryd.func32, Tryd.ntmps32
  go_wp2_with fail
  refine (bits_of _ _ _ 0 hb).mono ?_
  rintro e w1 ⟨v1, rfl, g1, b1⟩
  rw [bits_zero] at g1
  obtain ⟨A, c, rfl, _, _⟩ := g1.open_
  clear g1
  go_wp2_with fail
  go_ret3
  exact ⟨rfl, b1⟩

set_option maxHeartbeats 4000000 in
theorem rDiv_any (w : World) (va vb : Value) (la lb : List Nat) (a b : Nat) (ha : Num w va la a) (hb : Num w vb lb b) (hla : la.length ≤ 1000) (hlb : lb.length ≤ 1000) (h : 0 < b) :
    Calls Tryd.prog 32 #[va, vb] w fun e w' => ∃ vq vr, e = .returned (.tuple #[vq, vr, .int .i64 0]) ∧ Arg encU w' vq (limbs (a / b)) ∧ Arg encU w' vr (limbs (a % b)) ∧ Below w.heap.size w w' := by
  have hsa := Lib.hid (bits_small ha hla)
  have hsb := Lib.hid (bits_small hb hlb)
  have hh := Lib.hid h
  have hl0 : 0 < (Num.bits b).length := by
    rcases Nat.eq_zero_or_pos (Num.bits b).length with h1 | h1
    · have := (bits_length_le b 0).1 (by omega); simp at this; omega
    · exact h1
  obtain ⟨m, hm⟩ : ∃ m, (Num.bits b).length = m + 1 := ⟨_, (Nat.succ_pred_eq_of_pos hl0).symm⟩
  clear h hl0
  go_enter Tryd.func32, Tryd.ntmps32
  go_wp2_with fail
  refine (bits_of _ _ _ b hb).mono ?_
  rintro e w1 ⟨v1, rfl, g1, b1⟩
  replace ha := ha.below b1
  replace hb := hb.below b1
  obtain ⟨A, c, rfl, _, _⟩ := g1.open_
  rw [hm]
  clear g1 hm
  go_wp2_with fail
  refine (bits_of _ _ _ a ha).mono ?_
  rintro e w2 ⟨v2, rfl, g2, b2⟩
  replace hb := hb.below b2
  replace b1 := b1.trans (b2.mono b1.size)
  clear b2 ha
  go_wp2_with fail
  refine (bits_of _ _ _ b hb).mono ?_
  rintro e w3 ⟨v3, rfl, g3, b3⟩
  replace g2 := g2.below b3
  replace b1 := b1.trans (b3.mono b1.size)
  clear b3 hb
  go_wp2_with fail
  refine (rdiv_any _ _ _ (Num.bits a) (Num.bits b) g2 g3 (Nat.le_trans hsa.out (by decide)) (Nat.le_trans hsb.out (by decide)) (by rw [bval_bits]; exact hh.out)).mono ?_
  rintro e w4 ⟨vq, vr, rfl, g4, g5, b4⟩
  rw [bval_bits, bval_bits] at g4 g5
  replace b1 := b1.trans (b4.mono b1.size)
  have hq : (Num.bits (a / b)).length ≤ 32000 := (bits_length_le _ _).2 (Nat.lt_of_le_of_lt (Nat.div_le_self a b) ((bits_length_le a 32000).1 hsa.out))
  have hr : (Num.bits (a % b)).length ≤ 32000 := (bits_length_le _ _).2 (Nat.lt_of_le_of_lt (Nat.mod_le a b) ((bits_length_le a 32000).1 hsa.out))
  have HQ := Lib.hid (And.intro hq hr)
  clear b4 g2 g3 hq hr
  go_wp2_with fail
  refine (rlimbs_of _ _ (a / b) g4 (Nat.le_trans HQ.out.1 (by decide))).mono ?_
  rintro e w5 ⟨v5, rfl, g6, b5⟩
  replace g5 := g5.below b5
  replace b1 := b1.trans (b5.mono b1.size)
  clear b5 g4
  go_wp2_with fail
  refine (rlimbs_of _ _ (a % b) g5 (Nat.le_trans HQ.out.2 (by decide))).mono ?_
  rintro e w6 ⟨v6, rfl, g7, b6⟩
  replace g6 := g6.below b6
  go_wp2_with fail
  go_ret3
  exact ⟨_, _, rfl, g6, g7, b1.trans (b6.mono b1.size)⟩

set_option maxHeartbeats 4000000 in
theorem rCmp_any (w : World) (va vb : Value) (la lb : List Nat) (a b : Nat) (ha : Num w va la a) (hb : Num w vb lb b) (hla : la.length ≤ 1000) (hlb : lb.length ≤ 1000) :
    Calls Tryd.prog 34 #[va, vb] w fun e w' => e = .returned (.int .i64 (cmpN a b)) ∧ Below w.heap.size w w' := by
  have hsa := Lib.hid (bits_small ha hla)
  have hsb := Lib.hid (bits_small hb hlb)
  have hd : decide (bval (Num.bits a) < bval (Num.bits b)) = decide (a < b) := by rw [bval_bits, bval_bits]
  have hd2 : decide (bval (Num.bits b) < bval (Num.bits a)) = decide (b < a) := by rw [bval_bits, bval_bits]
  have HD := Lib.hid (And.intro hd hd2)
  clear hd hd2
  rcases Nat.lt_trichotomy a b with h0 | h0 | h0
  · have hlt := Lib.hid (show decide (bval (Num.bits a) < bval (Num.bits b)) = true from HD.out.1.trans (decide_eq_true h0))
    have hgt := Lib.hid (show decide (bval (Num.bits b) < bval (Num.bits a)) = false from HD.out.2.trans (decide_eq_false (by omega)))
    have hc := Lib.hid (show cmpN a b = -1 from cmpN_lt h0)
    clear h0
    go_enter Tryd.func34, Tryd.ntmps34
    go_wp2_with fail
    refine (bits_of _ _ _ a ha).mono ?_
    rintro e w1 ⟨v1, rfl, g1, b1⟩
    replace ha := ha.below b1
    replace hb := hb.below b1
    go_wp2_with fail
    refine (bits_of _ _ _ b hb).mono ?_
    rintro e w2 ⟨v2, rfl, g2, b2⟩
    replace ha := ha.below b2
    replace hb := hb.below b2
    replace g1 := g1.below b2
    replace b1 := b1.trans (b2.mono b1.size)
    clear b2
    go_wp2_with fail
    refine (rless_is _ _ _ _ _ true g1 g2 (Nat.le_trans hsa.out (by decide)) (Nat.le_trans hsb.out (by decide)) hlt.out).mono ?_
    rintro e w3 ⟨rfl, b3⟩
    replace ha := ha.below b3
    replace hb := hb.below b3
    replace b1 := b1.trans (b3.mono b1.size)
    clear b3 g1 g2
    go_wp2_with fail
    go_ret
    exact ⟨by rw [hc.out]; rfl, b1⟩
  · have hlt := Lib.hid (show decide (bval (Num.bits a) < bval (Num.bits b)) = false from HD.out.1.trans (decide_eq_false (by omega)))
    have hgt := Lib.hid (show decide (bval (Num.bits b) < bval (Num.bits a)) = false from HD.out.2.trans (decide_eq_false (by omega)))
    have hc := Lib.hid (show cmpN a b = 0 from cmpN_eq h0)
    clear h0
    go_enter Tryd.func34, Tryd.ntmps34
    go_wp2_with fail
    refine (bits_of _ _ _ a ha).mono ?_
    rintro e w1 ⟨v1, rfl, g1, b1⟩
    replace ha := ha.below b1
    replace hb := hb.below b1
    go_wp2_with fail
    refine (bits_of _ _ _ b hb).mono ?_
    rintro e w2 ⟨v2, rfl, g2, b2⟩
    replace ha := ha.below b2
    replace hb := hb.below b2
    replace g1 := g1.below b2
    replace b1 := b1.trans (b2.mono b1.size)
    clear b2
    go_wp2_with fail
    refine (rless_is _ _ _ _ _ false g1 g2 (Nat.le_trans hsa.out (by decide)) (Nat.le_trans hsb.out (by decide)) hlt.out).mono ?_
    rintro e w3 ⟨rfl, b3⟩
    replace ha := ha.below b3
    replace hb := hb.below b3
    replace b1 := b1.trans (b3.mono b1.size)
    clear b3 g1 g2
    go_wp2_with fail
    refine (bits_of _ _ _ b hb).mono ?_
    rintro e w4 ⟨v4, rfl, g4, b4⟩
    replace ha := ha.below b4
    replace b1 := b1.trans (b4.mono b1.size)
    clear b4
    go_wp2_with fail
    refine (bits_of _ _ _ a ha).mono ?_
    rintro e w5 ⟨v5, rfl, g5, b5⟩
    replace g4 := g4.below b5
    replace b1 := b1.trans (b5.mono b1.size)
    clear b5
    go_wp2_with fail
    refine (rless_is _ _ _ _ _ false g4 g5 (Nat.le_trans hsb.out (by decide)) (Nat.le_trans hsa.out (by decide)) hgt.out).mono ?_
    rintro e w6 ⟨rfl, b6⟩
    replace b1 := b1.trans (b6.mono b1.size)
    clear b6
    go_wp2_with fail
    go_ret
    exact ⟨by rw [hc.out]; rfl, b1⟩
  · have hlt := Lib.hid (show decide (bval (Num.bits a) < bval (Num.bits b)) = false from HD.out.1.trans (decide_eq_false (by omega)))
    have hgt := Lib.hid (show decide (bval (Num.bits b) < bval (Num.bits a)) = true from HD.out.2.trans (decide_eq_true h0))
    have hc := Lib.hid (show cmpN a b = 1 from cmpN_gt h0)
    clear h0
    go_enter Tryd.func34, Tryd.ntmps34
    go_wp2_with fail
    refine (bits_of _ _ _ a ha).mono ?_
    rintro e w1 ⟨v1, rfl, g1, b1⟩
    replace ha := ha.below b1
    replace hb := hb.below b1
    go_wp2_with fail
    refine (bits_of _ _ _ b hb).mono ?_
    rintro e w2 ⟨v2, rfl, g2, b2⟩
    replace ha := ha.below b2
    replace hb := hb.below b2
    replace g1 := g1.below b2
    replace b1 := b1.trans (b2.mono b1.size)
    clear b2
    go_wp2_with fail
    refine (rless_is _ _ _ _ _ false g1 g2 (Nat.le_trans hsa.out (by decide)) (Nat.le_trans hsb.out (by decide)) hlt.out).mono ?_
    rintro e w3 ⟨rfl, b3⟩
    replace ha := ha.below b3
    replace hb := hb.below b3
    replace b1 := b1.trans (b3.mono b1.size)
    clear b3 g1 g2
    go_wp2_with fail
    refine (bits_of _ _ _ b hb).mono ?_
    rintro e w4 ⟨v4, rfl, g4, b4⟩
    replace ha := ha.below b4
    replace b1 := b1.trans (b4.mono b1.size)
    clear b4
    go_wp2_with fail
    refine (bits_of _ _ _ a ha).mono ?_
    rintro e w5 ⟨v5, rfl, g5, b5⟩
    replace g4 := g4.below b5
    replace b1 := b1.trans (b5.mono b1.size)
    clear b5
    go_wp2_with fail
    refine (rless_is _ _ _ _ _ true g4 g5 (Nat.le_trans hsb.out (by decide)) (Nat.le_trans hsa.out (by decide)) hgt.out).mono ?_
    rintro e w6 ⟨rfl, b6⟩
    replace b1 := b1.trans (b6.mono b1.size)
    clear b6
    go_wp2_with fail
    go_ret
    exact ⟨by rw [hc.out]; rfl, b1⟩
end Go.Proofs.YtdmghakmhfhpiaaDoor
