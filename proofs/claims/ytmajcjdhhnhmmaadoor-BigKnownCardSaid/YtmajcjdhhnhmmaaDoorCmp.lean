import Derived.Test.YtmajcjdhhnhmmaaDoorSmall
/- nat.Cmp: what it returns. Conditions: rows of at most a hundred thousand limbs. -/
namespace Go.Proofs.YtmajcjdhhnhmmaaDoor
open Go.RowKit Go.Num

theorem cmpN_lt {a b : Nat} (h : a < b) : cmpN a b = -1 := by simp [cmpN, h]
theorem cmpN_gt {a b : Nat} (h : b < a) : cmpN a b = 1 := by unfold cmpN; rw [if_neg (by omega), if_pos h]
theorem cmpN_eq {a b : Nat} (h : a = b) : cmpN a b = 0 := by subst h; simp [cmpN]

set_option maxHeartbeats 2000000 in
theorem cmp_any (w : World) (va vb : Value) (la lb : List Nat) (a b : Nat) (ha : Num w va la a) (hb : Num w vb lb b) :
    Calls Tryd.prog 64 #[va, vb] w fun e w' => e = .returned (.int .i64 (cmpN a b)) ∧ Below w.heap.size w w' := by
  go_enter Tryd.func64, Tryd.ntmps64
  go_wp2_with fail
  refine (trim_any _ _ _ ha.arg ha.lim (by have := ha.len; omega)).mono ?_
  rintro e w1 ⟨v1, rfl, g1⟩
  have hb1 := hb.below g1.below
  go_wp2_with fail
  refine (trim_any _ _ _ hb1.arg hb1.lim (by have := hb1.len; omega)).mono ?_
  rintro e w2 ⟨v2, rfl, g2⟩
  have hr1 := g1.arg.below g2.below
  have hr2 := g2.arg
  have hbel : Below w.heap.size w w2 := g1.below.trans (g2.below.mono g1.below.size)
  have hl1 : (limbs (val la)).length ≤ 100000 := Nat.le_trans (limbs_val_length_le ha.lim) ha.len
  have hl2 : (limbs (val lb)).length ≤ 100000 := Nat.le_trans (limbs_val_length_le hb.lim) hb.len
  have hv1 : val (limbs (val la)) = a := by rw [val_limbs]; exact ha.val
  have hv2 : val (limbs (val lb)) = b := by rw [val_limbs]; exact hb.val
  have he1 : limbs (val la) = limbs a := by rw [ha.val]
  have he2 : limbs (val lb) = limbs b := by rw [hb.val]
  rw [he1] at hr1 hl1 hv1
  rw [he2] at hr2 hl2 hv2
  have hlim1 := limbs_lim a
  have hlim2 := limbs_lim b
  have hlt12 := @lt_of_length a b
  have hlt21 := @lt_of_length b a
  clear g1 g2 ha hb hb1 he1 he2
  generalize limbs a = r at *
  generalize limbs b = s at *
  obtain ⟨A1, c1, rfl, hc1, hr⟩ := hr1.open_
  obtain ⟨A2, c2, rfl, hc2, hs⟩ := hr2.open_
  have H := Lib.hid (And.intro hv1 (And.intro hv2 (And.intro hlim1 (And.intro hlim2 (And.intro hlt12 hlt21)))))
  clear hv1 hv2 hlim1 hlim2 hlt12 hlt21 hr1 hr2 hc1 hc2
  rcases Nat.lt_trichotomy r.length s.length with h | h | h
  · go_wp2
    go_ret
    exact ⟨by rw [cmpN_lt (H.out.2.2.2.2.1 h)]; rfl, hbel⟩
  · have Hlen := Lib.hid h
    have hn1 : ¬ r.length < s.length := by omega
    have hn2 : ¬ s.length < r.length := by omega
    clear h
    go_wp2
    go_loopw [5] (fun i wr => ∃ k n : Nat, k ≤ r.length ∧ i = .int .i64 ((k : Int) - 1) ∧ Hid (r.drop k = s.drop k) ∧ wr = w2.drewN n) (fun i _ => (intOf i + 1).toNat)
    case atStart => exact ⟨r.length, 0, Nat.le_refl _, rfl, by show r.drop r.length = s.drop r.length; rw [List.drop_length, Hlen.out, List.drop_length], rfl⟩
    case round =>
      obtain ⟨k, n, hk, rfl, Hd, rfl⟩ := hrel
      rcases Nat.eq_zero_or_pos k with h0 | h0
      · subst h0
        go_wp2_with fail
        go_ret
        have e : a = b := by rw [← H.out.1, ← H.out.2.1]; have := Hd.out; simp at this; rw [this]
        exact ⟨by rw [cmpN_eq e]; rfl, below_drewN hbel _⟩
      · obtain ⟨x, hx⟩ := get_some (l := r) (k := k - 1) (by omega)
        obtain ⟨y, hy⟩ := get_some (l := s) (k := k - 1) (by have := Hlen.out; omega)
        obtain ⟨b1, o1, rfl, hcx⟩ := hr.at_ hx
        obtain ⟨b2, o2, rfl, hcy⟩ := hs.at_ hy
        have Hx := Lib.hid hx
        have Hy := Lib.hid hy
        clear hx hy
        have hk1 : (0 : Int) ≤ (k : Int) - 1 := by omega
        have hk2 : (k : Int) - 1 < (r.length : Int) := by omega
        have hk3 : (k : Int) - 1 < (s.length : Int) := by have := Hlen.out; omega
        have Hdk : k - 1 + 1 = k := by omega
        rcases Nat.lt_trichotomy x y with hxy | hxy | hxy
        · go_wp2_with fail
          go_quiet (fail)
          go_wp2_with fail
          go_ret
          have e : a < b := by
            rw [← H.out.1, ← H.out.2.1]
            exact lt_of_top H.out.2.2.1 Hx.out Hy.out (by rw [Hdk]; exact Hd.out) hxy
          exact ⟨by rw [cmpN_lt e]; rfl, below_drewN (below_drewN hbel _) _⟩
        · subst hxy
          go_wp2_with fail
          go_quiet (fail)
          go_wp2_with fail
          go_quiet (fail)
          go_wp2_with fail
          go_roundw
          case rel =>
            refine ⟨k - 1, _, by omega, by go_num, ?_, rfl⟩
            have hkr : k - 1 < r.length := len_of_get Hx.out
            have hks : k - 1 < s.length := len_of_get Hy.out
            show r.drop (k - 1) = s.drop (k - 1)
            rw [List.drop_eq_getElem_cons hkr, List.drop_eq_getElem_cons hks, Hdk, Hd.out]
            have e1 := Hx.out
            have e2 := Hy.out
            rw [List.getElem?_eq_getElem hkr] at e1
            rw [List.getElem?_eq_getElem hks] at e2
            rw [Option.some.inj e1, Option.some.inj e2]
          case measure => simp [intOf]; omega
        · go_wp2_with fail
          go_quiet (fail)
          go_wp2_with fail
          go_quiet (fail)
          go_wp2_with fail
          go_ret
          have e : b < a := by
            rw [← H.out.1, ← H.out.2.1]
            exact lt_of_top H.out.2.2.2.1 Hy.out Hx.out (by rw [Hdk]; exact Hd.out.symm) hxy
          exact ⟨by rw [cmpN_gt e]; rfl, below_drewN (below_drewN (below_drewN hbel _) _) _⟩
  · go_wp2
    go_ret
    exact ⟨by rw [cmpN_gt (H.out.2.2.2.2.2 h)]; rfl, hbel⟩
end Go.Proofs.YtmajcjdhhnhmmaaDoor
