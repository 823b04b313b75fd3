import Derived.Test.YtdmghakmhfhpiaaDoorRefDiv
import Derived.Test.YtdmghakmhfhpiaaDoorRefConv
import Derived.Deep.LoopGhost
/- litmusref01.Gcd: what it returns. -/
namespace Go.Proofs.YtdmghakmhfhpiaaDoor
open Go.RowKit Go.Num
attribute [local go_sem] Oper.semAt_some

theorem bits_num {n k : Nat} (h : sz n ≤ k) : (Num.bits n).length ≤ 32 * k := by
  refine (bits_length_le n (32 * k)).2 ?_
  rw [Nat.pow_mul]
  exact Nat.lt_of_lt_of_le (lt_sz n) (Nat.pow_le_pow_right (by decide) h)
theorem bits_of (w : World) (v : Value) (l : List Nat) (n : Nat) (h : Num w v l n) :
    Calls Tryd.prog 39 #[v] w fun e w' => ∃ v', e = .returned v' ∧ Arg encB w' v' (Num.bits n) ∧ Below w.heap.size w w' := by
  have := bits_any w v l h.arg h.lim (Nat.le_trans h.len (by decide))
  rwa [h.val] at this
theorem rlimbs_of (w : World) (v : Value) (n : Nat) (h : Arg encB w v (Num.bits n)) (hb : (Num.bits n).length ≤ 30000000) :
    Calls Tryd.prog 41 #[v] w fun e w' => ∃ v', e = .returned v' ∧ Arg encU w' v' (limbs n) ∧ Below w.heap.size w w' := by
  have := rlimbs_any w v _ h hb
  rwa [bval_bits] at this
theorem num_of {w : World} {v : Value} {n : Nat} (h : Arg encU w v (limbs n)) (hn : sz n ≤ 100000) : Num w v (limbs n) n := ⟨h, limbs_lim n, hn, val_limbs n⟩

set_option maxHeartbeats 2000000 in
theorem rgcd_any (w : World) (va vb : Value) (la lb : List Nat) (a b : Nat) (ha : Num w va la a) (hb : Num w vb lb b) :
    Calls Tryd.prog 17 #[va, vb] w fun e w' => ∃ v, e = .returned v ∧ Arg encU w' v (limbs (Nat.gcd a b)) ∧ Below w.heap.size w w' := by
  have hsa := bits_num (Nat.le_trans (sz_num ha) ha.len)
  have hsb := bits_num (Nat.le_trans (sz_num hb) hb.len)
  go_enter Tryd.func17, Tryd.ntmps17
  go_wp2_with fail
  refine (bits_of _ _ _ a ha).mono ?_
  rintro e w1 ⟨v1, rfl, g1, b1⟩
  go_wp2_with fail
  refine (bits_of _ _ _ b (hb.below b1)).mono ?_
  rintro e w2 ⟨v2, rfl, g2, b2⟩
  replace g1 := g1.below b2
  have b3 := b1.trans (b2.mono b1.size)
  clear b1 b2 ha hb
  go_wp2_with fail
  go_loopg [5, 6] b (fun k av bv wr => ∃ x, Arg encB wr av (Num.bits x) ∧ Arg encB wr bv (Num.bits k) ∧ (Num.bits x).length ≤ 3200000 ∧ (Num.bits k).length ≤ 3200000 ∧ Hid (Nat.gcd x k = Nat.gcd a b) ∧ Below w.heap.size w wr)
  case atStart => exact ⟨a, g1, g2, hsa, hsb, rfl, b3⟩
  case round =>
    obtain ⟨x, gx, gy, hx, hk, HI, hbel⟩ := hrel
    obtain ⟨A, c, rfl, hc, hr⟩ := gy.open_
    have Hxk := Lib.hid (And.intro hx hk)
    clear hr hc hx
    rcases Nat.eq_zero_or_pos gk with h0 | h0
    · have hl0 : (Num.bits gk).length = 0 := by rw [h0, bits_zero]; rfl
      have H0 := Lib.hid h0
      clear h0 gy hk
      rw [hl0]
      clear hl0
      have e := HI.out
      rw [H0.out, Nat.gcd_zero_right] at e
      have HE := Lib.hid e
      clear e
      go_wp2_with fail
      refine (rlimbs_of _ _ x gx (Nat.le_trans Hxk.out.1 (by decide))).mono ?_
      rintro e w5 ⟨v5, rfl, g5, b5⟩
      go_wp2_with fail
      go_ret
      refine ⟨_, rfl, ?_, hbel.trans (b5.mono hbel.size)⟩
      rw [← HE.out]
      exact g5
    · have hl0 : 0 < (Num.bits gk).length := by
        rcases Nat.eq_zero_or_pos (Num.bits gk).length with h | h
        · have := (bits_length_le gk 0).1 (by omega); simp at this; omega
        · exact h
      obtain ⟨m, hm⟩ : ∃ m, (Num.bits gk).length = m + 1 := ⟨_, (Nat.succ_pred_eq_of_pos hl0).symm⟩
      rw [hm] at gy hk ⊢
      clear hl0 hm
      go_wp2_with fail
      refine (rdiv_any _ _ _ (Num.bits x) (Num.bits gk) gx gy (Nat.le_trans Hxk.out.1 (by decide)) (Nat.le_trans Hxk.out.2 (by decide)) (by rw [bval_bits]; exact h0)).mono ?_
      rintro e w5 ⟨vq, vr, rfl, g3, g4, b5⟩
      rw [bval_bits, bval_bits] at g4
      have gy5 := gy.below b5
      have hbel5 := hbel.trans (b5.mono hbel.size)
      have hm := Nat.mod_lt x h0
      have hs : (Num.bits (x % gk)).length ≤ 3200000 := Nat.le_trans ((bits_length_le _ _).2 (Nat.lt_of_lt_of_le hm (Nat.le_of_lt ((bits_length_le gk _).1 (Nat.le_refl _))))) Hxk.out.2
      have HG := Lib.hid (show Nat.gcd gk (x % gk) = Nat.gcd a b by rw [← HI.out, Nat.gcd_comm x gk, Nat.gcd_rec gk x, Nat.gcd_comm])
      have HS := Lib.hid hs
      clear gx gy g3 hbel b5 hs
      go_wp2_with fail
      go_roundg (x % gk)
      case measure => exact hm
      case rel => exact ⟨gk, gy5, g4, Hxk.out.2, HS.out, HG, hbel5⟩
end Go.Proofs.YtdmghakmhfhpiaaDoor
