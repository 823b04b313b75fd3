import Derived.Test.YtmajcjdhhnhmmaaDoorAdd
/- litmusref01.Same. Conditions: rows of at most a million limbs. -/
namespace Go.Proofs.YtmajcjdhhnhmmaaDoor
open Go.RowKit Go.Num
attribute [local go_sem] Oper.semAt_some u64_mask

set_option maxHeartbeats 2000000 in
theorem refSame_any (w : World) (va vb : Value) (la lb : List Nat) (ha : Arg encU w va la) (hb : Arg encU w vb lb) (hn : la.length ≤ 1000000) :
    Calls Tryd.prog 53 #[va, vb] w fun e w' => e = .returned (.bool (decide (la = lb))) ∧ Below w.heap.size w w' := by
  obtain ⟨A1, c1, rfl, hc1, hr⟩ := ha.open_
  obtain ⟨A2, c2, rfl, hc2, hs⟩ := hb.open_
  clear ha hb hc1 hc2
  by_cases hl : la.length = lb.length
  · have Hl := Lib.hid hl
    go_enter Tryd.func53, Tryd.ntmps53
    go_wp2_with fail
    go_loopw [5] (fun i wr => ∃ k n : Nat, k ≤ la.length ∧ i = .int .i64 k ∧ Hid (la.take k = lb.take k) ∧ wr = w.drewN n) (fun i _ => la.length - (intOf i).toNat)
    case atStart => exact ⟨0, 0, Nat.zero_le _, rfl, by show la.take 0 = lb.take 0; simp, rfl⟩
    case round =>
      obtain ⟨k, n, hk, rfl, HI, rfl⟩ := hrel
      by_cases hlt : k < la.length
      · obtain ⟨x, hx⟩ := get_some (l := la) hlt
        obtain ⟨y, hy⟩ := get_some (l := lb) (k := k) (by omega)
        obtain ⟨b1, o1, rfl, hcx⟩ := hr.at_ hx
        obtain ⟨b2, o2, rfl, hcy⟩ := hs.at_ hy
        have Hx := Lib.hid hx
        have Hy := Lib.hid hy
        have hk2 : (k : Int) < (la.length : Int) := by omega
        have hk3 : (k : Int) < (lb.length : Int) := by omega
        clear hx hy hl
        by_cases hxy : x = y
        · subst hxy
          go_wp2_with fail
          go_quiet (fail)
          go_wp2_with fail
          go_roundw
          case rel => exact ⟨k + 1, _, by omega, by go_num, by show la.take (k + 1) = lb.take (k + 1); rw [take_snoc Hx.out, take_snoc Hy.out, HI.out], rfl⟩
          case measure => simp [intOf]; omega
        · go_wp2_with fail
          go_quiet (fail)
          go_wp2_with fail
          go_ret
          have hne : la ≠ lb := fun e => by
            have h1 := Hx.out
            rw [e, Hy.out] at h1
            exact hxy (Option.some.inj h1).symm
          exact ⟨by rw [decide_eq_false hne]; rfl, below_drewN (below_drewN (Below.refl _ _) _) _⟩
      · go_wp2_with fail
        go_ret
        have he : la = lb := by
          have h1 := HI.out
          rwa [List.take_of_length_le (by omega), List.take_of_length_le (by have := Hl.out; omega)] at h1
        exact ⟨by rw [decide_eq_true he]; rfl, below_drewN (Below.refl _ _) _⟩
  · have hne : la ≠ lb := fun e => hl (by rw [e])
    have Hne := Lib.hid hne
    clear hne
    go_enter Tryd.func53, Tryd.ntmps53
    go_wp2_with fail
    go_ret
    exact ⟨by rw [decide_eq_false Hne.out]; rfl, Below.refl _ _⟩
end Go.Proofs.YtmajcjdhhnhmmaaDoor
