import Derived.Test.YtdmghakmhfhpiaaDoorRefLimbs
import Derived.BigQuiet
/- litmusref01.less: what it returns. -/
namespace Go.Proofs.YtdmghakmhfhpiaaDoor
open Go.RowKit Go.Num
attribute [local go_sem] Oper.semAt_some

theorem bdrop_pred {l : List Bool} {k : Nat} {y : Bool} (h0 : 0 < k) (hy : l[k - 1]? = some y) : l.drop (k - 1) = y :: l.drop k := by
  have hk := len_of_get hy
  rw [List.drop_eq_getElem_cons hk, show k - 1 + 1 = k by omega]
  rw [List.getElem?_eq_getElem hk] at hy
  rw [Option.some.inj hy]

set_option maxHeartbeats 2000000 in
set_option maxRecDepth 100000 in
theorem rless_any (w : World) (va vb : Value) (la lb : List Bool) (hA : Arg encB w va la) (hB : Arg encB w vb lb) (hla : la.length ≤ 20000000) (hlb : lb.length ≤ 20000000) :
    Calls Tryd.prog 56 #[va, vb] w fun e w' => e = .returned (.bool (decide (bval la < bval lb))) ∧ Below w.heap.size w w' := by
  obtain ⟨m, hm⟩ : ∃ m, m = btz la := ⟨_, rfl⟩
  obtain ⟨n, hn⟩ : ∃ n, n = btz lb := ⟨_, rfl⟩
  have hml : m.length ≤ 20000000 := by rw [hm]; exact Nat.le_trans (btz_length_le la) hla
  have hnl : n.length ≤ 20000000 := by rw [hn]; exact Nat.le_trans (btz_length_le lb) hlb
  have e1 : bval la = bval m := by rw [hm, bval_btz]
  have e2 : bval lb = bval n := by rw [hn, bval_btz]
  have b1 : Num.bits (bval m) = m := by rw [bits_bval, hm, btz_btz]
  have b2 : Num.bits (bval n) = n := by rw [bits_bval, hn, btz_btz]
  rw [e1, e2]
  go_enter Tryd.func56, Tryd.ntmps56
  go_wp2_with fail
  refine (rtrim_any _ _ _ hA (by omega)).mono ?_
  rintro e w1 ⟨v1, rfl, hw1, h1⟩
  subst w1
  go_wp2_with fail
  refine (rtrim_any _ _ _ hB (by omega)).mono ?_
  rintro e w1 ⟨v2, rfl, hw1, h2⟩
  subst w1
  rw [← hm] at h1
  rw [← hn] at h2
  clear hA hB hla hlb e1 e2 hm hn
  have HBB := Lib.hid (And.intro b1 b2)
  clear b1 b2
  obtain ⟨A1, c1, rfl, hc1, hr1⟩ := h1.open_
  obtain ⟨A2, c2, rfl, hc2, hr2⟩ := h2.open_
  clear h1 h2
  by_cases hne : m.length = n.length
  · have hr1' := hr1
    obtain ⟨N, hN1, hN2⟩ : ∃ N, m.length = N ∧ n.length = N := ⟨_, rfl, hne.symm⟩
    have HN := Lib.hid (And.intro hN1 hN2)
    rw [hN1] at hml hc1
    rw [hN2] at hnl hc2
    rw [hN1, hN2]
    clear hne hN1 hN2 hr1'
    go_wp2_with fail
    go_loopw [5] (fun i wr => ∃ k : Nat, k ≤ N ∧ i = .int .i64 ((k : Int) - 1) ∧ Hid (m.drop k = n.drop k) ∧ Below w.heap.size w wr) (fun i _ => (intOf i + 1).toNat)
    case atStart => exact ⟨N, Nat.le_refl _, rfl, by show m.drop N = n.drop N; rw [List.drop_of_length_le (by have := HN.out; omega), List.drop_of_length_le (by have := HN.out; omega)], Below.refl _ _⟩
    case round =>
      obtain ⟨k, hk, rfl, HE, hbel⟩ := hrel
      rcases Nat.eq_zero_or_pos k with h0 | h0
      · subst h0
        have e : m = n := by have := HE.out; simpa using this
        have HEQ := Lib.hid e
        clear e HE
        go_wp2_with fail
        go_ret
        exact ⟨by rw [HEQ.out]; simp, hbel⟩
      · obtain ⟨x, hx⟩ := get_some (l := m) (k := k - 1) (by have := HN.out.1; omega)
        obtain ⟨y, hy⟩ := get_some (l := n) (k := k - 1) (by have := HN.out.2; omega)
        obtain ⟨b1, o1, rfl, hd1⟩ := hr1.at_ hx
        obtain ⟨b2, o2, rfl, hd2⟩ := hr2.at_ hy
        have hd1 := (hbel.cell (World.block_lt_of_cell? w _ hd1)).trans hd1
        have hd2 := (hbel.cell (World.block_lt_of_cell? w _ hd2)).trans hd2
        have HX := Lib.hid (And.intro hx hy)
        clear hx hy
        rcases x with _ | _ <;> rcases y with _ | _
        · go_wp2_with fail
          go_quiet (fail)
          go_wp2_with fail
          go_roundw
          case rel =>
            refine ⟨k - 1, by omega, by go_num, ?_, below_drewN hbel _⟩
            show m.drop (k - 1) = n.drop (k - 1)
            rw [bdrop_pred h0 HX.out.1, bdrop_pred h0 HX.out.2, HE.out]
          case measure => simp [intOf]; omega
        · go_wp2_with fail
          go_quiet (fail)
          go_wp2_with fail
          go_ret
          have e : m.drop (k - 1 + 1) = n.drop (k - 1 + 1) := by rw [show k - 1 + 1 = k by omega]; exact HE.out
          exact ⟨by rw [decide_eq_true (blt_of_top HX.out.1 HX.out.2 e)]; rfl, below_drewN hbel _⟩
        · go_wp2_with fail
          go_quiet (fail)
          go_wp2_with fail
          go_ret
          have e : m.drop (k - 1 + 1) = n.drop (k - 1 + 1) := by rw [show k - 1 + 1 = k by omega]; exact HE.out
          exact ⟨by rw [decide_eq_false (Nat.lt_asymm (blt_of_top HX.out.2 HX.out.1 e.symm))]; rfl, below_drewN hbel _⟩
        · go_wp2_with fail
          go_quiet (fail)
          go_wp2_with fail
          go_roundw
          case rel =>
            refine ⟨k - 1, by omega, by go_num, ?_, below_drewN hbel _⟩
            show m.drop (k - 1) = n.drop (k - 1)
            rw [bdrop_pred h0 HX.out.1, bdrop_pred h0 HX.out.2, HE.out]
          case measure => simp [intOf]; omega
  · have hlt : decide (bval m < bval n) = decide (m.length < n.length) := by
      by_cases h : m.length < n.length
      · rw [decide_eq_true h, decide_eq_true (blt_of_length (by rw [HBB.out.1, HBB.out.2]; exact h))]
      · rw [decide_eq_false h, decide_eq_false (Nat.lt_asymm (blt_of_length (by rw [HBB.out.1, HBB.out.2]; omega)))]
    have HLT := Lib.hid hlt
    clear hlt
    go_wp2_with fail
    go_ret
    exact ⟨by rw [HLT.out]; simp, Below.refl _ _⟩
end Go.Proofs.YtdmghakmhfhpiaaDoor
