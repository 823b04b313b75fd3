import Derived.Test.YtdmghakmhfhpiaaDoorLong
import Derived.Deep.LoopGhost
/- nat.Gcd: what it returns. Conditions: rows of at most a hundred thousand limbs. -/
namespace Go.Proofs.YtdmghakmhfhpiaaDoor
open Go.RowKit Go.Num
attribute [local go_sem] Oper.semAt_some u64_mask

set_option maxHeartbeats 2000000 in
theorem gcd_any (w : World) (va vb : Value) (la lb : List Nat) (a b : Nat) (ha : Num w va la a) (hb : Num w vb lb b) :
    Calls Tryd.prog 16 #[va, vb] w fun e w' => ∃ v, e = .returned v ∧ Gives 39 encU w w' v (limbs (Nat.gcd a b)) := by
  go_enter Tryd.func16, Tryd.ntmps16
  go_wp2_with fail
  refine (trim_any _ _ _ ha.arg ha.lim (by have := ha.len; omega)).mono ?_
  rintro e w1 ⟨v1, rfl, g1⟩
  go_wp2_with fail
  refine (trim_any _ _ _ (hb.arg.below g1.below) hb.lim (by have := hb.len; omega)).mono ?_
  rintro e w2 ⟨v2, rfl, g2⟩
  rw [hb.val] at g2
  rw [ha.val] at g1
  have ga := g1.later g2.below
  have gb := g2.after g1.below
  have hsa := Nat.le_trans (sz_num ha) ha.len
  have hsb := Nat.le_trans (sz_num hb) hb.len
  clear g1 g2 ha hb
  go_wp2_with fail
  go_loopg [0, 1] b (fun k av bv wr => ∃ x, Gives 39 encU w wr av (limbs x) ∧ Gives 39 encU w wr bv (limbs k) ∧ sz x ≤ 100000 ∧ sz k ≤ 100000 ∧ Hid (Nat.gcd x k = Nat.gcd a b))
  case atStart => exact ⟨a, ga, gb, hsa, hsb, rfl⟩
  case round =>
    obtain ⟨x, gx, gy, hx, hk, HI⟩ := hrel
    have nx := gx.num hx
    have ny := gy.num hk
    obtain ⟨A, c, rfl, hc, hr⟩ := gy.arg.open_
    clear hr hc
    rcases Nat.eq_zero_or_pos gk with h0 | h0
    · have hl0 : (limbs gk).length = 0 := by rw [h0, limbs_zero]; rfl
      have H0 := Lib.hid h0
      clear h0 gy ny
      rw [hl0]
      go_wp2_with fail
      go_ret
      have e := HI.out
      rw [H0.out, Nat.gcd_zero_right] at e
      rw [e] at gx
      exact ⟨_, rfl, gx⟩
    · have hl0 : 0 < (limbs gk).length := by
        rcases Nat.eq_zero_or_pos (limbs gk).length with h | h
        · have := (limbs_length_le gk 0).1 (by omega); simp at this; omega
        · exact h
      go_wp2_with fail
      refine (div_any _ _ _ _ _ x gk nx ny h0).mono ?_
      rintro e w5 ⟨vq, vr, rfl, g1, g2, _⟩
      have gy5 := gy.later g2.below
      have gr5 := g2.after gx.below
      have hm := Nat.mod_lt x h0
      have hs := Nat.le_trans (sz_mod x gk) hx
      have HG := Lib.hid (show Nat.gcd gk (x % gk) = Nat.gcd a b by rw [← HI.out, Nat.gcd_comm x gk, Nat.gcd_rec gk x, Nat.gcd_comm])
      clear gx gy nx ny g1 g2
      go_wp2_with fail
      go_roundg (x % gk)
      case measure => exact hm
      case rel => exact ⟨gk, gy5, gr5, hk, hs, HG⟩
end Go.Proofs.YtdmghakmhfhpiaaDoor
