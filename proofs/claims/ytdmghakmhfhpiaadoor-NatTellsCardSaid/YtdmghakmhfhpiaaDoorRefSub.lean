import Derived.Test.YtdmghakmhfhpiaaDoorRefAdd
import Derived.Deep.QuietTactic
/- litmusref01.sub: what it returns. -/
namespace Go.Proofs.YtdmghakmhfhpiaaDoor
open Go.RowKit Go.Num
attribute [local go_sem] Oper.semAt_some

theorem OwnB.drewN {e : TypeId} {base : Nat} {w : World} {v : Value} {l : List Bool} (h : OwnB e base w v l) (n : Nat) : OwnB e base (w.drewN n) v l := h
theorem btake_full {l : List Bool} {k : Nat} (h : bval l < 2 ^ k) : bval (l.take k) = bval l := by
  by_cases hk : l.length ≤ k
  · rw [take_all l hk]
  · have h1 := bval_append (l.take k) (l.drop k)
    rw [List.take_append_drop, List.length_take, Nat.min_eq_left (by omega)] at h1
    rcases Nat.eq_zero_or_pos (bval (l.drop k)) with h0 | h0
    · rw [h0] at h1; omega
    · have : 2 ^ k * 1 ≤ 2 ^ k * bval (l.drop k) := Nat.mul_le_mul_left _ h0
      omega
theorem sub_done {la lb r : List Bool} {k : Nat} {c : Bool} (hle : bval lb ≤ bval la) (hk : la.length ≤ k) (hr : r.length = k) (e : bval la + 2 ^ k * c.toNat = bval r + bval (lb.take k)) : bval r = bval la - bval lb := by
  have h1 := bval_lt r
  rw [hr] at h1
  have h2 : bval la < 2 ^ k := Nat.lt_of_lt_of_le (bval_lt la) (Nat.pow_le_pow_right (by decide) hk)
  rw [btake_full (by omega)] at e
  cases c with
  | false => simp at e; omega
  | true => simp at e; omega

set_option maxHeartbeats 8000000 in
set_option maxRecDepth 100000 in
theorem rsub_any (w : World) (va vb : Value) (la lb : List Bool) (hA : Arg encB w va la) (hB : Arg encB w vb lb) (hla : la.length ≤ 20000000) (hlb : lb.length ≤ 20000000) (hle : bval lb ≤ bval la) :
    Calls Tryd.prog 57 #[va, vb] w fun e w' => ∃ v', e = .returned v' ∧ Arg encB w' v' (Num.bits (bval la - bval lb)) ∧ Below w.heap.size w w' ∧ Far w.heap.size v' := by
  obtain ⟨i0, hi, hz0, hz1, hz2⟩ := info_parts infoB
  obtain ⟨A1, c1, rfl, hcl, hr⟩ := hA.open_
  obtain ⟨A2, c2, rfl, _, _⟩ := hB.open_
  have HLE := Lib.hid hle
  clear hle hA
  go_enter Tryd.func57, Tryd.ntmps57
  go_wp2
  go_loopw [5, 6, 7] (fun out cv i wr => ∃ (k : Nat) (c : Bool) (r : List Bool), cv = .bool c ∧ i = .int .i64 k ∧ k ≤ la.length ∧ r.length = k ∧
      Hid (bval (la.take k) + 2 ^ k * c.toNat = bval r + bval (lb.take k)) ∧ OwnB 4 w.heap.size wr out r ∧ Below w.heap.size w wr) (fun _ _ i _ => la.length - (intOf i).toNat)
  case atStart => exact ⟨0, false, [], rfl, rfl, Nat.zero_le _, rfl, rfl, OwnB.nil_ _ _ _, Below.refl _ _⟩
  case round =>
    obtain ⟨k, c, r, rfl, rfl, hk, hlen, HI, hown, hbel⟩ := hrel
    have Hlen := Lib.hid hlen
    clear hlen
    have hk9 : k ≤ 20000001 := by omega
    by_cases h1 : k < la.length
    · obtain ⟨x, hx⟩ := get_some h1
      cases c with
      | false =>
        obtain ⟨b, o, rfl, hc0⟩ := hr.at_ hx
        have hc1 := (hbel.cell (World.block_lt_of_cell? w _ hc0)).trans hc0
        obtain ⟨y, hy⟩ : ∃ y, y = lb[k]?.getD false := ⟨_, rfl⟩
        have HX := Lib.hid hx
        have HY := Lib.hid hy
        clear hx hy hc0
        rcases x with _ | _ <;> rcases y with _ | _
        · go_wp2_with fail
          go_quiet ((go_at_call 70; exact Calls.quiet_of_same (at_is _ _ lb k false (hB.below (below_drewN hbel _)) (by omega) HY.out)))
          have hown := hown.drewN nq
          have hbel := below_drewN hbel nq
          clear hc1
          generalize wr.drewN nq = wq at hown hbel ⊢
          go_wp2_with (at_builtin; refine wpList_append_own _ rfl _ _ 48 rfl w.heap.size 4 i0 (.bool false) 1 1 Tryd.underlying48 hi hz0 hz1 hz2 rfl (by decide) _ _ _ rfl (World.ownsRow.alloc hown.row _) ⟨wq.heap.size, 0, none⟩ 1 1 [.bool false] rfl rfl (cell_one_new _ _ _) (by simp [Value.oneCell']) ?c3 ?c4 ?c5 ?_)
          case c3 => have := Hlen.out; have := hk9; unfold maxLen; omega
          case c4 => have := Hlen.out; have := hk9; omega
          case c5 => have := hbel.size; simp; omega
          intro v' w1 h1 hg1 _
          obtain ⟨hown1, hb1⟩ := hown.pushed hbel h1 hg1 (d := false) rfl
          clear h1 hg1 hown hbel
          go_wp2_with fail
          go_roundw
          case rel =>
            refine ⟨k + 1, false, r ++ [false], rfl, by go_num, by omega, by simp [Hlen.out], ?_, hown1, hb1⟩
            have e := bsub_step (d := 0) (b' := 0) (x := 0) (y := 0) HI.out (by decide)
            show bval (la.take (k + 1)) + 2 ^ (k + 1) * (false : Bool).toNat = bval (r ++ [false]) + bval (lb.take (k + 1))
            rw [take_snoc HX.out, bval_snoc, List.length_take, Nat.min_eq_left (by omega), btake_next HY.out, bval_snoc, Hlen.out, Nat.pow_succ]
            exact e
          case measure => simp [intOf]; omega
        · go_wp2_with fail
          go_quiet ((go_at_call 70; exact Calls.quiet_of_same (at_is _ _ lb k true (hB.below (below_drewN hbel _)) (by omega) HY.out)))
          have hown := hown.drewN nq
          have hbel := below_drewN hbel nq
          clear hc1
          generalize wr.drewN nq = wq at hown hbel ⊢
          go_wp2_with (at_builtin; refine wpList_append_own _ rfl _ _ 48 rfl w.heap.size 4 i0 (.bool false) 1 1 Tryd.underlying48 hi hz0 hz1 hz2 rfl (by decide) _ _ _ rfl (World.ownsRow.alloc hown.row _) ⟨wq.heap.size, 0, none⟩ 1 1 [.bool true] rfl rfl (cell_one_new _ _ _) (by simp [Value.oneCell']) ?c3 ?c4 ?c5 ?_)
          case c3 => have := Hlen.out; have := hk9; unfold maxLen; omega
          case c4 => have := Hlen.out; have := hk9; omega
          case c5 => have := hbel.size; simp; omega
          intro v' w1 h1 hg1 _
          obtain ⟨hown1, hb1⟩ := hown.pushed hbel h1 hg1 (d := true) rfl
          clear h1 hg1 hown hbel
          go_wp2_with fail
          go_roundw
          case rel =>
            refine ⟨k + 1, true, r ++ [true], rfl, by go_num, by omega, by simp [Hlen.out], ?_, hown1, hb1⟩
            have e := bsub_step (d := 1) (b' := 1) (x := 0) (y := 1) HI.out (by decide)
            show bval (la.take (k + 1)) + 2 ^ (k + 1) * (true : Bool).toNat = bval (r ++ [true]) + bval (lb.take (k + 1))
            rw [take_snoc HX.out, bval_snoc, List.length_take, Nat.min_eq_left (by omega), btake_next HY.out, bval_snoc, Hlen.out, Nat.pow_succ]
            exact e
          case measure => simp [intOf]; omega
        · go_wp2_with fail
          go_quiet ((go_at_call 70; exact Calls.quiet_of_same (at_is _ _ lb k false (hB.below (below_drewN hbel _)) (by omega) HY.out)))
          have hown := hown.drewN nq
          have hbel := below_drewN hbel nq
          clear hc1
          generalize wr.drewN nq = wq at hown hbel ⊢
          go_wp2_with (at_builtin; refine wpList_append_own _ rfl _ _ 48 rfl w.heap.size 4 i0 (.bool false) 1 1 Tryd.underlying48 hi hz0 hz1 hz2 rfl (by decide) _ _ _ rfl (World.ownsRow.alloc hown.row _) ⟨wq.heap.size, 0, none⟩ 1 1 [.bool true] rfl rfl (cell_one_new _ _ _) (by simp [Value.oneCell']) ?c3 ?c4 ?c5 ?_)
          case c3 => have := Hlen.out; have := hk9; unfold maxLen; omega
          case c4 => have := Hlen.out; have := hk9; omega
          case c5 => have := hbel.size; simp; omega
          intro v' w1 h1 hg1 _
          obtain ⟨hown1, hb1⟩ := hown.pushed hbel h1 hg1 (d := true) rfl
          clear h1 hg1 hown hbel
          go_wp2_with fail
          go_roundw
          case rel =>
            refine ⟨k + 1, false, r ++ [true], rfl, by go_num, by omega, by simp [Hlen.out], ?_, hown1, hb1⟩
            have e := bsub_step (d := 1) (b' := 0) (x := 1) (y := 0) HI.out (by decide)
            show bval (la.take (k + 1)) + 2 ^ (k + 1) * (false : Bool).toNat = bval (r ++ [true]) + bval (lb.take (k + 1))
            rw [take_snoc HX.out, bval_snoc, List.length_take, Nat.min_eq_left (by omega), btake_next HY.out, bval_snoc, Hlen.out, Nat.pow_succ]
            exact e
          case measure => simp [intOf]; omega
        · go_wp2_with fail
          go_quiet ((go_at_call 70; exact Calls.quiet_of_same (at_is _ _ lb k true (hB.below (below_drewN hbel _)) (by omega) HY.out)))
          have hown := hown.drewN nq
          have hbel := below_drewN hbel nq
          clear hc1
          generalize wr.drewN nq = wq at hown hbel ⊢
          go_wp2_with (at_builtin; refine wpList_append_own _ rfl _ _ 48 rfl w.heap.size 4 i0 (.bool false) 1 1 Tryd.underlying48 hi hz0 hz1 hz2 rfl (by decide) _ _ _ rfl (World.ownsRow.alloc hown.row _) ⟨wq.heap.size, 0, none⟩ 1 1 [.bool false] rfl rfl (cell_one_new _ _ _) (by simp [Value.oneCell']) ?c3 ?c4 ?c5 ?_)
          case c3 => have := Hlen.out; have := hk9; unfold maxLen; omega
          case c4 => have := Hlen.out; have := hk9; omega
          case c5 => have := hbel.size; simp; omega
          intro v' w1 h1 hg1 _
          obtain ⟨hown1, hb1⟩ := hown.pushed hbel h1 hg1 (d := false) rfl
          clear h1 hg1 hown hbel
          go_wp2_with fail
          go_roundw
          case rel =>
            refine ⟨k + 1, false, r ++ [false], rfl, by go_num, by omega, by simp [Hlen.out], ?_, hown1, hb1⟩
            have e := bsub_step (d := 0) (b' := 0) (x := 1) (y := 1) HI.out (by decide)
            show bval (la.take (k + 1)) + 2 ^ (k + 1) * (false : Bool).toNat = bval (r ++ [false]) + bval (lb.take (k + 1))
            rw [take_snoc HX.out, bval_snoc, List.length_take, Nat.min_eq_left (by omega), btake_next HY.out, bval_snoc, Hlen.out, Nat.pow_succ]
            exact e
          case measure => simp [intOf]; omega
      | true =>
        obtain ⟨b, o, rfl, hc0⟩ := hr.at_ hx
        have hc1 := (hbel.cell (World.block_lt_of_cell? w _ hc0)).trans hc0
        obtain ⟨y, hy⟩ : ∃ y, y = lb[k]?.getD false := ⟨_, rfl⟩
        have HX := Lib.hid hx
        have HY := Lib.hid hy
        clear hx hy hc0
        rcases x with _ | _ <;> rcases y with _ | _
        · go_wp2_with fail
          go_quiet ((go_at_call 70; exact Calls.quiet_of_same (at_is _ _ lb k false (hB.below (below_drewN hbel _)) (by omega) HY.out)))
          have hown := hown.drewN nq
          have hbel := below_drewN hbel nq
          clear hc1
          generalize wr.drewN nq = wq at hown hbel ⊢
          go_wp2_with (at_builtin; refine wpList_append_own _ rfl _ _ 48 rfl w.heap.size 4 i0 (.bool false) 1 1 Tryd.underlying48 hi hz0 hz1 hz2 rfl (by decide) _ _ _ rfl (World.ownsRow.alloc hown.row _) ⟨wq.heap.size, 0, none⟩ 1 1 [.bool true] rfl rfl (cell_one_new _ _ _) (by simp [Value.oneCell']) ?c3 ?c4 ?c5 ?_)
          case c3 => have := Hlen.out; have := hk9; unfold maxLen; omega
          case c4 => have := Hlen.out; have := hk9; omega
          case c5 => have := hbel.size; simp; omega
          intro v' w1 h1 hg1 _
          obtain ⟨hown1, hb1⟩ := hown.pushed hbel h1 hg1 (d := true) rfl
          clear h1 hg1 hown hbel
          go_wp2_with fail
          go_roundw
          case rel =>
            refine ⟨k + 1, true, r ++ [true], rfl, by go_num, by omega, by simp [Hlen.out], ?_, hown1, hb1⟩
            have e := bsub_step (d := 1) (b' := 1) (x := 0) (y := 0) HI.out (by decide)
            show bval (la.take (k + 1)) + 2 ^ (k + 1) * (true : Bool).toNat = bval (r ++ [true]) + bval (lb.take (k + 1))
            rw [take_snoc HX.out, bval_snoc, List.length_take, Nat.min_eq_left (by omega), btake_next HY.out, bval_snoc, Hlen.out, Nat.pow_succ]
            exact e
          case measure => simp [intOf]; omega
        · go_wp2_with fail
          go_quiet ((go_at_call 70; exact Calls.quiet_of_same (at_is _ _ lb k true (hB.below (below_drewN hbel _)) (by omega) HY.out)))
          have hown := hown.drewN nq
          have hbel := below_drewN hbel nq
          clear hc1
          generalize wr.drewN nq = wq at hown hbel ⊢
          go_wp2_with (at_builtin; refine wpList_append_own _ rfl _ _ 48 rfl w.heap.size 4 i0 (.bool false) 1 1 Tryd.underlying48 hi hz0 hz1 hz2 rfl (by decide) _ _ _ rfl (World.ownsRow.alloc hown.row _) ⟨wq.heap.size, 0, none⟩ 1 1 [.bool false] rfl rfl (cell_one_new _ _ _) (by simp [Value.oneCell']) ?c3 ?c4 ?c5 ?_)
          case c3 => have := Hlen.out; have := hk9; unfold maxLen; omega
          case c4 => have := Hlen.out; have := hk9; omega
          case c5 => have := hbel.size; simp; omega
          intro v' w1 h1 hg1 _
          obtain ⟨hown1, hb1⟩ := hown.pushed hbel h1 hg1 (d := false) rfl
          clear h1 hg1 hown hbel
          go_wp2_with fail
          go_roundw
          case rel =>
            refine ⟨k + 1, true, r ++ [false], rfl, by go_num, by omega, by simp [Hlen.out], ?_, hown1, hb1⟩
            have e := bsub_step (d := 0) (b' := 1) (x := 0) (y := 1) HI.out (by decide)
            show bval (la.take (k + 1)) + 2 ^ (k + 1) * (true : Bool).toNat = bval (r ++ [false]) + bval (lb.take (k + 1))
            rw [take_snoc HX.out, bval_snoc, List.length_take, Nat.min_eq_left (by omega), btake_next HY.out, bval_snoc, Hlen.out, Nat.pow_succ]
            exact e
          case measure => simp [intOf]; omega
        · go_wp2_with fail
          go_quiet ((go_at_call 70; exact Calls.quiet_of_same (at_is _ _ lb k false (hB.below (below_drewN hbel _)) (by omega) HY.out)))
          have hown := hown.drewN nq
          have hbel := below_drewN hbel nq
          clear hc1
          generalize wr.drewN nq = wq at hown hbel ⊢
          go_wp2_with (at_builtin; refine wpList_append_own _ rfl _ _ 48 rfl w.heap.size 4 i0 (.bool false) 1 1 Tryd.underlying48 hi hz0 hz1 hz2 rfl (by decide) _ _ _ rfl (World.ownsRow.alloc hown.row _) ⟨wq.heap.size, 0, none⟩ 1 1 [.bool false] rfl rfl (cell_one_new _ _ _) (by simp [Value.oneCell']) ?c3 ?c4 ?c5 ?_)
          case c3 => have := Hlen.out; have := hk9; unfold maxLen; omega
          case c4 => have := Hlen.out; have := hk9; omega
          case c5 => have := hbel.size; simp; omega
          intro v' w1 h1 hg1 _
          obtain ⟨hown1, hb1⟩ := hown.pushed hbel h1 hg1 (d := false) rfl
          clear h1 hg1 hown hbel
          go_wp2_with fail
          go_roundw
          case rel =>
            refine ⟨k + 1, false, r ++ [false], rfl, by go_num, by omega, by simp [Hlen.out], ?_, hown1, hb1⟩
            have e := bsub_step (d := 0) (b' := 0) (x := 1) (y := 0) HI.out (by decide)
            show bval (la.take (k + 1)) + 2 ^ (k + 1) * (false : Bool).toNat = bval (r ++ [false]) + bval (lb.take (k + 1))
            rw [take_snoc HX.out, bval_snoc, List.length_take, Nat.min_eq_left (by omega), btake_next HY.out, bval_snoc, Hlen.out, Nat.pow_succ]
            exact e
          case measure => simp [intOf]; omega
        · go_wp2_with fail
          go_quiet ((go_at_call 70; exact Calls.quiet_of_same (at_is _ _ lb k true (hB.below (below_drewN hbel _)) (by omega) HY.out)))
          have hown := hown.drewN nq
          have hbel := below_drewN hbel nq
          clear hc1
          generalize wr.drewN nq = wq at hown hbel ⊢
          go_wp2_with (at_builtin; refine wpList_append_own _ rfl _ _ 48 rfl w.heap.size 4 i0 (.bool false) 1 1 Tryd.underlying48 hi hz0 hz1 hz2 rfl (by decide) _ _ _ rfl (World.ownsRow.alloc hown.row _) ⟨wq.heap.size, 0, none⟩ 1 1 [.bool true] rfl rfl (cell_one_new _ _ _) (by simp [Value.oneCell']) ?c3 ?c4 ?c5 ?_)
          case c3 => have := Hlen.out; have := hk9; unfold maxLen; omega
          case c4 => have := Hlen.out; have := hk9; omega
          case c5 => have := hbel.size; simp; omega
          intro v' w1 h1 hg1 _
          obtain ⟨hown1, hb1⟩ := hown.pushed hbel h1 hg1 (d := true) rfl
          clear h1 hg1 hown hbel
          go_wp2_with fail
          go_roundw
          case rel =>
            refine ⟨k + 1, true, r ++ [true], rfl, by go_num, by omega, by simp [Hlen.out], ?_, hown1, hb1⟩
            have e := bsub_step (d := 1) (b' := 1) (x := 1) (y := 1) HI.out (by decide)
            show bval (la.take (k + 1)) + 2 ^ (k + 1) * (true : Bool).toNat = bval (r ++ [true]) + bval (lb.take (k + 1))
            rw [take_snoc HX.out, bval_snoc, List.length_take, Nat.min_eq_left (by omega), btake_next HY.out, bval_snoc, Hlen.out, Nat.pow_succ]
            exact e
          case measure => simp [intOf]; omega
    · have e := HI.out
      rw [take_all la (by omega)] at e
      have HE := Lib.hid e
      clear e HI
      have hbr : Hid (bval r = bval la - bval lb) := sub_done HLE.out (by omega) Hlen.out HE.out
      have hra := hown.arg
      have hfar := hown.far
      have hrl : r.length ≤ 100000000 := by rw [Hlen.out]; omega
      have HRL : Hid (r.length ≤ la.length) := by show r.length ≤ la.length; rw [Hlen.out]; omega
      go_wp2_with fail
      refine (rtrim_far _ _ _ hra hrl).mono ?_
      rintro e w2 ⟨v2, rfl, hw2, h5, h6⟩
      subst w2
      go_wp2_with fail
      go_ret
      refine ⟨_, rfl, ?_, hbel, h6 _ hfar⟩
      rw [← hbr.out, bits_bval]
      exact h5
end Go.Proofs.YtdmghakmhfhpiaaDoor
