import Derived.Test.YtbippecchpaleaaGreatDoorGLimbs
import Derived.Deep.QuietTactic
import Derived.BigQuiet
import Derived.RegionTactic
import Derived.Deep.LoopGhost
/- litmusref01.sub: what it returns. -/
namespace Go.Proofs.YtbippecchpaleaaGreatDoor
open Go.RowKit Go.Num
attribute [local go_sem] Oper.semAt_some

theorem OwnB.drewN {e : TypeId} {base : Nat} {w : World} {v : Value} {l : List Bool} (h : OwnB e base w v l) (n : Nat) : OwnB e base (w.drewN n) v l := h
theorem btake_full {l : List Bool} {k : Nat} (h : bval l < 2 ^ k) : bval (l.take k) = bval l := by
  by_cases hk : l.length ≤ k
  · rw [take_all l hk]
  · have h1 := bval_append (l.take k) (l.drop k)
    rw [List.take_append_drop, List.length_take, Nat.min_eq_left (by omega)] at h1
    rcases Nat.eq_zero_or_pos (bval (l.drop k)) with h0 | h0
    · rw [h0] at h1; omega
    · have : 2 ^ k * 1 ≤ 2 ^ k * bval (l.drop k) := Nat.mul_le_mul_left _ h0
      omega
theorem sub_done {la lb r : List Bool} {k : Nat} {c : Bool} (hle : bval lb ≤ bval la) (hk : la.length ≤ k) (hr : r.length = k) (e : bval la + 2 ^ k * c.toNat = bval r + bval (lb.take k)) : bval r = bval la - bval lb := by
  have h1 := bval_lt r
  rw [hr] at h1
  have h2 : bval la < 2 ^ k := Nat.lt_of_lt_of_le (bval_lt la) (Nat.pow_le_pow_right (by decide) hk)
  rw [btake_full (by omega)] at e
  cases c with
  | false => simp at e; omega
  | true => simp at e; omega

set_option maxHeartbeats 8000000 in
set_option maxRecDepth 100000 in
theorem rsub_any (w : World) (va vb : Value) (la lb : List Bool) (hA : Arg encB w va la) (hB : Arg encB w vb lb) (hla : la.length ≤ 20000000) (hlb : lb.length ≤ 20000000) (hle : bval lb ≤ bval la) :
    Calls Tryz.prog 126 #[va, vb] w fun e w' => ∃ v', e = .returned v' ∧ Arg encB w' v' (Num.bits (bval la - bval lb)) ∧ Below w.heap.size w w' ∧ Far w.heap.size v' := by
  obtain ⟨i0, hi, hz0, hz1, hz2⟩ := info_parts infoB
  obtain ⟨A1, c1, rfl, hcl, hr⟩ := hA.open_
  obtain ⟨A2, c2, rfl, _, _⟩ := hB.open_
  have HLE := Lib.hid hle
  clear hle hA
  go_enter Tryz.func126, Tryz.ntmps126
  go_wp2
  go_loopw [5, 6, 7] (fun out cv i wr => ∃ (k : Nat) (c : Bool) (r : List Bool), cv = .bool c ∧ i = .int .i64 k ∧ k ≤ la.length ∧ r.length = k ∧
      Hid (bval (la.take k) + 2 ^ k * c.toNat = bval r + bval (lb.take k)) ∧ OwnB 4 w.heap.size wr out r ∧ Below w.heap.size w wr) (fun _ _ i _ => la.length - (intOf i).toNat)
  case atStart => exact ⟨0, false, [], rfl, rfl, Nat.zero_le _, rfl, rfl, OwnB.nil_ _ _ _, Below.refl _ _⟩
  case round =>
    obtain ⟨k, c, r, rfl, rfl, hk, hlen, HI, hown, hbel⟩ := hrel
    have Hlen := Lib.hid hlen
    clear hlen
    have hk9 : k ≤ 20000001 := by omega
    by_cases h1 : k < la.length
    · obtain ⟨x, hx⟩ := get_some h1
      cases c with
      | false =>
        obtain ⟨b, o, rfl, hc0⟩ := hr.at_ hx
        have hc1 := (hbel.cell (World.block_lt_of_cell? w _ hc0)).trans hc0
        obtain ⟨y, hy⟩ : ∃ y, y = lb[k]?.getD false := ⟨_, rfl⟩
        have HX := Lib.hid hx
        have HY := Lib.hid hy
        clear hx hy hc0
        rcases x with _ | _ <;> rcases y with _ | _
        · go_wp2_with fail
          go_quiet ((go_at_call 134; exact Calls.quiet_of_same (at_is _ _ lb k false (hB.below (below_drewN hbel _)) (by omega) HY.out)))
          have hown := hown.drewN nq
          have hbel := below_drewN hbel nq
          clear hc1
          generalize wr.drewN nq = wq at hown hbel ⊢
          go_wp2_with (at_builtin; refine wpList_append_own _ rfl _ _ 93 rfl w.heap.size 4 i0 (.bool false) 1 1 Tryz.underlying93 hi hz0 hz1 hz2 rfl (by decide) _ _ _ rfl (World.ownsRow.alloc hown.row _) ⟨wq.heap.size, 0, none⟩ 1 1 [.bool false] rfl rfl (cell_one_new _ _ _) (by simp [Value.oneCell']) ?c3 ?c4 ?c5 ?_)
          case c3 => have := Hlen.out; have := hk9; unfold maxLen; omega
          case c4 => have := Hlen.out; have := hk9; omega
          case c5 => have := hbel.size; simp; omega
          intro v' w1 h1 hg1 _
          obtain ⟨hown1, hb1⟩ := hown.pushed hbel h1 hg1 (d := false) rfl
          clear h1 hg1 hown hbel
          go_wp2_with fail
          go_roundw
          case rel =>
            refine ⟨k + 1, false, r ++ [false], rfl, by go_num, by omega, by simp [Hlen.out], ?_, hown1, hb1⟩
            have e := bsub_step (d := 0) (b' := 0) (x := 0) (y := 0) HI.out (by decide)
            show bval (la.take (k + 1)) + 2 ^ (k + 1) * (false : Bool).toNat = bval (r ++ [false]) + bval (lb.take (k + 1))
            rw [take_snoc HX.out, bval_snoc, List.length_take, Nat.min_eq_left (by omega), btake_next HY.out, bval_snoc, Hlen.out, Nat.pow_succ]
            exact e
          case measure => simp [intOf]; omega
        · go_wp2_with fail
          go_quiet ((go_at_call 134; exact Calls.quiet_of_same (at_is _ _ lb k true (hB.below (below_drewN hbel _)) (by omega) HY.out)))
          have hown := hown.drewN nq
          have hbel := below_drewN hbel nq
          clear hc1
          generalize wr.drewN nq = wq at hown hbel ⊢
          go_wp2_with (at_builtin; refine wpList_append_own _ rfl _ _ 93 rfl w.heap.size 4 i0 (.bool false) 1 1 Tryz.underlying93 hi hz0 hz1 hz2 rfl (by decide) _ _ _ rfl (World.ownsRow.alloc hown.row _) ⟨wq.heap.size, 0, none⟩ 1 1 [.bool true] rfl rfl (cell_one_new _ _ _) (by simp [Value.oneCell']) ?c3 ?c4 ?c5 ?_)
          case c3 => have := Hlen.out; have := hk9; unfold maxLen; omega
          case c4 => have := Hlen.out; have := hk9; omega
          case c5 => have := hbel.size; simp; omega
          intro v' w1 h1 hg1 _
          obtain ⟨hown1, hb1⟩ := hown.pushed hbel h1 hg1 (d := true) rfl
          clear h1 hg1 hown hbel
          go_wp2_with fail
          go_roundw
          case rel =>
            refine ⟨k + 1, true, r ++ [true], rfl, by go_num, by omega, by simp [Hlen.out], ?_, hown1, hb1⟩
            have e := bsub_step (d := 1) (b' := 1) (x := 0) (y := 1) HI.out (by decide)
            show bval (la.take (k + 1)) + 2 ^ (k + 1) * (true : Bool).toNat = bval (r ++ [true]) + bval (lb.take (k + 1))
            rw [take_snoc HX.out, bval_snoc, List.length_take, Nat.min_eq_left (by omega), btake_next HY.out, bval_snoc, Hlen.out, Nat.pow_succ]
            exact e
          case measure => simp [intOf]; omega
        · go_wp2_with fail
          go_quiet ((go_at_call 134; exact Calls.quiet_of_same (at_is _ _ lb k false (hB.below (below_drewN hbel _)) (by omega) HY.out)))
          have hown := hown.drewN nq
          have hbel := below_drewN hbel nq
          clear hc1
          generalize wr.drewN nq = wq at hown hbel ⊢
          go_wp2_with (at_builtin; refine wpList_append_own _ rfl _ _ 93 rfl w.heap.size 4 i0 (.bool false) 1 1 Tryz.underlying93 hi hz0 hz1 hz2 rfl (by decide) _ _ _ rfl (World.ownsRow.alloc hown.row _) ⟨wq.heap.size, 0, none⟩ 1 1 [.bool true] rfl rfl (cell_one_new _ _ _) (by simp [Value.oneCell']) ?c3 ?c4 ?c5 ?_)
          case c3 => have := Hlen.out; have := hk9; unfold maxLen; omega
          case c4 => have := Hlen.out; have := hk9; omega
          case c5 => have := hbel.size; simp; omega
          intro v' w1 h1 hg1 _
          obtain ⟨hown1, hb1⟩ := hown.pushed hbel h1 hg1 (d := true) rfl
          clear h1 hg1 hown hbel
          go_wp2_with fail
          go_roundw
          case rel =>
            refine ⟨k + 1, false, r ++ [true], rfl, by go_num, by omega, by simp [Hlen.out], ?_, hown1, hb1⟩
            have e := bsub_step (d := 1) (b' := 0) (x := 1) (y := 0) HI.out (by decide)
            show bval (la.take (k + 1)) + 2 ^ (k + 1) * (false : Bool).toNat = bval (r ++ [true]) + bval (lb.take (k + 1))
            rw [take_snoc HX.out, bval_snoc, List.length_take, Nat.min_eq_left (by omega), btake_next HY.out, bval_snoc, Hlen.out, Nat.pow_succ]
            exact e
          case measure => simp [intOf]; omega
        · go_wp2_with fail
          go_quiet ((go_at_call 134; exact Calls.quiet_of_same (at_is _ _ lb k true (hB.below (below_drewN hbel _)) (by omega) HY.out)))
          have hown := hown.drewN nq
          have hbel := below_drewN hbel nq
          clear hc1
          generalize wr.drewN nq = wq at hown hbel ⊢
          go_wp2_with (at_builtin; refine wpList_append_own _ rfl _ _ 93 rfl w.heap.size 4 i0 (.bool false) 1 1 Tryz.underlying93 hi hz0 hz1 hz2 rfl (by decide) _ _ _ rfl (World.ownsRow.alloc hown.row _) ⟨wq.heap.size, 0, none⟩ 1 1 [.bool false] rfl rfl (cell_one_new _ _ _) (by simp [Value.oneCell']) ?c3 ?c4 ?c5 ?_)
          case c3 => have := Hlen.out; have := hk9; unfold maxLen; omega
          case c4 => have := Hlen.out; have := hk9; omega
          case c5 => have := hbel.size; simp; omega
          intro v' w1 h1 hg1 _
          obtain ⟨hown1, hb1⟩ := hown.pushed hbel h1 hg1 (d := false) rfl
          clear h1 hg1 hown hbel
          go_wp2_with fail
          go_roundw
          case rel =>
            refine ⟨k + 1, false, r ++ [false], rfl, by go_num, by omega, by simp [Hlen.out], ?_, hown1, hb1⟩
            have e := bsub_step (d := 0) (b' := 0) (x := 1) (y := 1) HI.out (by decide)
            show bval (la.take (k + 1)) + 2 ^ (k + 1) * (false : Bool).toNat = bval (r ++ [false]) + bval (lb.take (k + 1))
            rw [take_snoc HX.out, bval_snoc, List.length_take, Nat.min_eq_left (by omega), btake_next HY.out, bval_snoc, Hlen.out, Nat.pow_succ]
            exact e
          case measure => simp [intOf]; omega
      | true =>
        obtain ⟨b, o, rfl, hc0⟩ := hr.at_ hx
        have hc1 := (hbel.cell (World.block_lt_of_cell? w _ hc0)).trans hc0
        obtain ⟨y, hy⟩ : ∃ y, y = lb[k]?.getD false := ⟨_, rfl⟩
        have HX := Lib.hid hx
        have HY := Lib.hid hy
        clear hx hy hc0
        rcases x with _ | _ <;> rcases y with _ | _
        · go_wp2_with fail
          go_quiet ((go_at_call 134; exact Calls.quiet_of_same (at_is _ _ lb k false (hB.below (below_drewN hbel _)) (by omega) HY.out)))
          have hown := hown.drewN nq
          have hbel := below_drewN hbel nq
          clear hc1
          generalize wr.drewN nq = wq at hown hbel ⊢
          go_wp2_with (at_builtin; refine wpList_append_own _ rfl _ _ 93 rfl w.heap.size 4 i0 (.bool false) 1 1 Tryz.underlying93 hi hz0 hz1 hz2 rfl (by decide) _ _ _ rfl (World.ownsRow.alloc hown.row _) ⟨wq.heap.size, 0, none⟩ 1 1 [.bool true] rfl rfl (cell_one_new _ _ _) (by simp [Value.oneCell']) ?c3 ?c4 ?c5 ?_)
          case c3 => have := Hlen.out; have := hk9; unfold maxLen; omega
          case c4 => have := Hlen.out; have := hk9; omega
          case c5 => have := hbel.size; simp; omega
          intro v' w1 h1 hg1 _
          obtain ⟨hown1, hb1⟩ := hown.pushed hbel h1 hg1 (d := true) rfl
          clear h1 hg1 hown hbel
          go_wp2_with fail
          go_roundw
          case rel =>
            refine ⟨k + 1, true, r ++ [true], rfl, by go_num, by omega, by simp [Hlen.out], ?_, hown1, hb1⟩
            have e := bsub_step (d := 1) (b' := 1) (x := 0) (y := 0) HI.out (by decide)
            show bval (la.take (k + 1)) + 2 ^ (k + 1) * (true : Bool).toNat = bval (r ++ [true]) + bval (lb.take (k + 1))
            rw [take_snoc HX.out, bval_snoc, List.length_take, Nat.min_eq_left (by omega), btake_next HY.out, bval_snoc, Hlen.out, Nat.pow_succ]
            exact e
          case measure => simp [intOf]; omega
        · go_wp2_with fail
          go_quiet ((go_at_call 134; exact Calls.quiet_of_same (at_is _ _ lb k true (hB.below (below_drewN hbel _)) (by omega) HY.out)))
          have hown := hown.drewN nq
          have hbel := below_drewN hbel nq
          clear hc1
          generalize wr.drewN nq = wq at hown hbel ⊢
          go_wp2_with (at_builtin; refine wpList_append_own _ rfl _ _ 93 rfl w.heap.size 4 i0 (.bool false) 1 1 Tryz.underlying93 hi hz0 hz1 hz2 rfl (by decide) _ _ _ rfl (World.ownsRow.alloc hown.row _) ⟨wq.heap.size, 0, none⟩ 1 1 [.bool false] rfl rfl (cell_one_new _ _ _) (by simp [Value.oneCell']) ?c3 ?c4 ?c5 ?_)
          case c3 => have := Hlen.out; have := hk9; unfold maxLen; omega
          case c4 => have := Hlen.out; have := hk9; omega
          case c5 => have := hbel.size; simp; omega
          intro v' w1 h1 hg1 _
          obtain ⟨hown1, hb1⟩ := hown.pushed hbel h1 hg1 (d := false) rfl
          clear h1 hg1 hown hbel
          go_wp2_with fail
          go_roundw
          case rel =>
            refine ⟨k + 1, true, r ++ [false], rfl, by go_num, by omega, by simp [Hlen.out], ?_, hown1, hb1⟩
            have e := bsub_step (d := 0) (b' := 1) (x := 0) (y := 1) HI.out (by decide)
            show bval (la.take (k + 1)) + 2 ^ (k + 1) * (true : Bool).toNat = bval (r ++ [false]) + bval (lb.take (k + 1))
            rw [take_snoc HX.out, bval_snoc, List.length_take, Nat.min_eq_left (by omega), btake_next HY.out, bval_snoc, Hlen.out, Nat.pow_succ]
            exact e
          case measure => simp [intOf]; omega
        · go_wp2_with fail
          go_quiet ((go_at_call 134; exact Calls.quiet_of_same (at_is _ _ lb k false (hB.below (below_drewN hbel _)) (by omega) HY.out)))
          have hown := hown.drewN nq
          have hbel := below_drewN hbel nq
          clear hc1
          generalize wr.drewN nq = wq at hown hbel ⊢
          go_wp2_with (at_builtin; refine wpList_append_own _ rfl _ _ 93 rfl w.heap.size 4 i0 (.bool false) 1 1 Tryz.underlying93 hi hz0 hz1 hz2 rfl (by decide) _ _ _ rfl (World.ownsRow.alloc hown.row _) ⟨wq.heap.size, 0, none⟩ 1 1 [.bool false] rfl rfl (cell_one_new _ _ _) (by simp [Value.oneCell']) ?c3 ?c4 ?c5 ?_)
          case c3 => have := Hlen.out; have := hk9; unfold maxLen; omega
          case c4 => have := Hlen.out; have := hk9; omega
          case c5 => have := hbel.size; simp; omega
          intro v' w1 h1 hg1 _
          obtain ⟨hown1, hb1⟩ := hown.pushed hbel h1 hg1 (d := false) rfl
          clear h1 hg1 hown hbel
          go_wp2_with fail
          go_roundw
          case rel =>
            refine ⟨k + 1, false, r ++ [false], rfl, by go_num, by omega, by simp [Hlen.out], ?_, hown1, hb1⟩
            have e := bsub_step (d := 0) (b' := 0) (x := 1) (y := 0) HI.out (by decide)
            show bval (la.take (k + 1)) + 2 ^ (k + 1) * (false : Bool).toNat = bval (r ++ [false]) + bval (lb.take (k + 1))
            rw [take_snoc HX.out, bval_snoc, List.length_take, Nat.min_eq_left (by omega), btake_next HY.out, bval_snoc, Hlen.out, Nat.pow_succ]
            exact e
          case measure => simp [intOf]; omega
        · go_wp2_with fail
          go_quiet ((go_at_call 134; exact Calls.quiet_of_same (at_is _ _ lb k true (hB.below (below_drewN hbel _)) (by omega) HY.out)))
          have hown := hown.drewN nq
          have hbel := below_drewN hbel nq
          clear hc1
          generalize wr.drewN nq = wq at hown hbel ⊢
          go_wp2_with (at_builtin; refine wpList_append_own _ rfl _ _ 93 rfl w.heap.size 4 i0 (.bool false) 1 1 Tryz.underlying93 hi hz0 hz1 hz2 rfl (by decide) _ _ _ rfl (World.ownsRow.alloc hown.row _) ⟨wq.heap.size, 0, none⟩ 1 1 [.bool true] rfl rfl (cell_one_new _ _ _) (by simp [Value.oneCell']) ?c3 ?c4 ?c5 ?_)
          case c3 => have := Hlen.out; have := hk9; unfold maxLen; omega
          case c4 => have := Hlen.out; have := hk9; omega
          case c5 => have := hbel.size; simp; omega
          intro v' w1 h1 hg1 _
          obtain ⟨hown1, hb1⟩ := hown.pushed hbel h1 hg1 (d := true) rfl
          clear h1 hg1 hown hbel
          go_wp2_with fail
          go_roundw
          case rel =>
            refine ⟨k + 1, true, r ++ [true], rfl, by go_num, by omega, by simp [Hlen.out], ?_, hown1, hb1⟩
            have e := bsub_step (d := 1) (b' := 1) (x := 1) (y := 1) HI.out (by decide)
            show bval (la.take (k + 1)) + 2 ^ (k + 1) * (true : Bool).toNat = bval (r ++ [true]) + bval (lb.take (k + 1))
            rw [take_snoc HX.out, bval_snoc, List.length_take, Nat.min_eq_left (by omega), btake_next HY.out, bval_snoc, Hlen.out, Nat.pow_succ]
            exact e
          case measure => simp [intOf]; omega
    · have e := HI.out
      rw [take_all la (by omega)] at e
      have HE := Lib.hid e
      clear e HI
      have hbr : Hid (bval r = bval la - bval lb) := sub_done HLE.out (by omega) Hlen.out HE.out
      have hra := hown.arg
      have hfar := hown.far
      have hrl : r.length ≤ 100000000 := by rw [Hlen.out]; omega
      have HRL : Hid (r.length ≤ la.length) := by show r.length ≤ la.length; rw [Hlen.out]; omega
      go_wp2_with fail
      refine (rtrim_far _ _ _ hra hrl).mono ?_
      rintro e w2 ⟨v2, rfl, hw2, h5, h6⟩
      subst w2
      go_wp2_with fail
      go_ret
      refine ⟨_, rfl, ?_, hbel, h6 _ hfar⟩
      rw [← hbr.out, bits_bval]
      exact h5
end Go.Proofs.YtbippecchpaleaaGreatDoor
/- litmusref01.less: what it returns. -/
namespace Go.Proofs.YtbippecchpaleaaGreatDoor
open Go.RowKit Go.Num
attribute [local go_sem] Oper.semAt_some

theorem bdrop_pred {l : List Bool} {k : Nat} {y : Bool} (h0 : 0 < k) (hy : l[k - 1]? = some y) : l.drop (k - 1) = y :: l.drop k := by
  have hk := len_of_get hy
  rw [List.drop_eq_getElem_cons hk, show k - 1 + 1 = k by omega]
  rw [List.getElem?_eq_getElem hk] at hy
  rw [Option.some.inj hy]

set_option maxHeartbeats 2000000 in
set_option maxRecDepth 100000 in
theorem rless_any (w : World) (va vb : Value) (la lb : List Bool) (hA : Arg encB w va la) (hB : Arg encB w vb lb) (hla : la.length ≤ 20000000) (hlb : lb.length ≤ 20000000) :
    Calls Tryz.prog 125 #[va, vb] w fun e w' => e = .returned (.bool (decide (bval la < bval lb))) ∧ Below w.heap.size w w' := by
  obtain ⟨m, hm⟩ : ∃ m, m = btz la := ⟨_, rfl⟩
  obtain ⟨n, hn⟩ : ∃ n, n = btz lb := ⟨_, rfl⟩
  have hml : m.length ≤ 20000000 := by rw [hm]; exact Nat.le_trans (btz_length_le la) hla
  have hnl : n.length ≤ 20000000 := by rw [hn]; exact Nat.le_trans (btz_length_le lb) hlb
  have e1 : bval la = bval m := by rw [hm, bval_btz]
  have e2 : bval lb = bval n := by rw [hn, bval_btz]
  have b1 : Num.bits (bval m) = m := by rw [bits_bval, hm, btz_btz]
  have b2 : Num.bits (bval n) = n := by rw [bits_bval, hn, btz_btz]
  rw [e1, e2]
  go_enter Tryz.func125, Tryz.ntmps125
  go_wp2_with fail
  refine (rtrim_any _ _ _ hA (by omega)).mono ?_
  rintro e w1 ⟨v1, rfl, hw1, h1⟩
  subst w1
  go_wp2_with fail
  refine (rtrim_any _ _ _ hB (by omega)).mono ?_
  rintro e w1 ⟨v2, rfl, hw1, h2⟩
  subst w1
  rw [← hm] at h1
  rw [← hn] at h2
  clear hA hB hla hlb e1 e2 hm hn
  have HBB := Lib.hid (And.intro b1 b2)
  clear b1 b2
  obtain ⟨A1, c1, rfl, hc1, hr1⟩ := h1.open_
  obtain ⟨A2, c2, rfl, hc2, hr2⟩ := h2.open_
  clear h1 h2
  by_cases hne : m.length = n.length
  · have hr1' := hr1
    obtain ⟨N, hN1, hN2⟩ : ∃ N, m.length = N ∧ n.length = N := ⟨_, rfl, hne.symm⟩
    have HN := Lib.hid (And.intro hN1 hN2)
    rw [hN1] at hml hc1
    rw [hN2] at hnl hc2
    rw [hN1, hN2]
    clear hne hN1 hN2 hr1'
    go_wp2_with fail
    go_loopw [5] (fun i wr => ∃ k : Nat, k ≤ N ∧ i = .int .i64 ((k : Int) - 1) ∧ Hid (m.drop k = n.drop k) ∧ Below w.heap.size w wr) (fun i _ => (intOf i + 1).toNat)
    case atStart => exact ⟨N, Nat.le_refl _, rfl, by show m.drop N = n.drop N; rw [List.drop_of_length_le (by have := HN.out; omega), List.drop_of_length_le (by have := HN.out; omega)], Below.refl _ _⟩
    case round =>
      obtain ⟨k, hk, rfl, HE, hbel⟩ := hrel
      rcases Nat.eq_zero_or_pos k with h0 | h0
      · subst h0
        have e : m = n := by have := HE.out; simpa using this
        have HEQ := Lib.hid e
        clear e HE
        go_wp2_with fail
        go_ret
        exact ⟨by rw [HEQ.out]; simp, hbel⟩
      · obtain ⟨x, hx⟩ := get_some (l := m) (k := k - 1) (by have := HN.out.1; omega)
        obtain ⟨y, hy⟩ := get_some (l := n) (k := k - 1) (by have := HN.out.2; omega)
        obtain ⟨b1, o1, rfl, hd1⟩ := hr1.at_ hx
        obtain ⟨b2, o2, rfl, hd2⟩ := hr2.at_ hy
        have hd1 := (hbel.cell (World.block_lt_of_cell? w _ hd1)).trans hd1
        have hd2 := (hbel.cell (World.block_lt_of_cell? w _ hd2)).trans hd2
        have HX := Lib.hid (And.intro hx hy)
        clear hx hy
        rcases x with _ | _ <;> rcases y with _ | _
        · go_wp2_with fail
          go_quiet (fail)
          go_wp2_with fail
          go_roundw
          case rel =>
            refine ⟨k - 1, by omega, by go_num, ?_, below_drewN hbel _⟩
            show m.drop (k - 1) = n.drop (k - 1)
            rw [bdrop_pred h0 HX.out.1, bdrop_pred h0 HX.out.2, HE.out]
          case measure => simp [intOf]; omega
        · go_wp2_with fail
          go_quiet (fail)
          go_wp2_with fail
          go_ret
          have e : m.drop (k - 1 + 1) = n.drop (k - 1 + 1) := by rw [show k - 1 + 1 = k by omega]; exact HE.out
          exact ⟨by rw [decide_eq_true (blt_of_top HX.out.1 HX.out.2 e)]; rfl, below_drewN hbel _⟩
        · go_wp2_with fail
          go_quiet (fail)
          go_wp2_with fail
          go_ret
          have e : m.drop (k - 1 + 1) = n.drop (k - 1 + 1) := by rw [show k - 1 + 1 = k by omega]; exact HE.out
          exact ⟨by rw [decide_eq_false (Nat.lt_asymm (blt_of_top HX.out.2 HX.out.1 e.symm))]; rfl, below_drewN hbel _⟩
        · go_wp2_with fail
          go_quiet (fail)
          go_wp2_with fail
          go_roundw
          case rel =>
            refine ⟨k - 1, by omega, by go_num, ?_, below_drewN hbel _⟩
            show m.drop (k - 1) = n.drop (k - 1)
            rw [bdrop_pred h0 HX.out.1, bdrop_pred h0 HX.out.2, HE.out]
          case measure => simp [intOf]; omega
  · have hlt : decide (bval m < bval n) = decide (m.length < n.length) := by
      by_cases h : m.length < n.length
      · rw [decide_eq_true h, decide_eq_true (blt_of_length (by rw [HBB.out.1, HBB.out.2]; exact h))]
      · rw [decide_eq_false h, decide_eq_false (Nat.lt_asymm (blt_of_length (by rw [HBB.out.1, HBB.out.2]; omega)))]
    have HLT := Lib.hid hlt
    clear hlt
    go_wp2_with fail
    go_ret
    exact ⟨by rw [HLT.out]; simp, Below.refl _ _⟩
end Go.Proofs.YtbippecchpaleaaGreatDoor
/- litmusref01.div: what it returns. -/
namespace Go.Proofs.YtbippecchpaleaaGreatDoor
open Go.RowKit Go.Num
attribute [local go_sem] Oper.semAt_some

theorem rless_is (w : World) (va vb : Value) (la lb : List Bool) (t : Bool) (hA : Arg encB w va la) (hB : Arg encB w vb lb) (hla : la.length ≤ 20000000) (hlb : lb.length ≤ 20000000) (ht : decide (bval la < bval lb) = t) :
    Calls Tryz.prog 125 #[va, vb] w fun e w' => e = .returned (.bool t) ∧ Below w.heap.size w w' := by
  subst ht
  exact rless_any w va vb la lb hA hB hla hlb
theorem div_low_step {X B x R : Nat} (hR : R = X % B) (h : x + 2 * R < B) : (x + 2 * X) / B = 2 * (X / B) ∧ (x + 2 * X) % B = x + 2 * R := by
  have e := Nat.div_add_mod X B
  rw [← hR] at e
  have e2 : x + 2 * X = B * (2 * (X / B)) + (x + 2 * R) := by rw [← Nat.mul_assoc, Nat.mul_comm B 2, Nat.mul_assoc]; omega
  rw [e2, Nat.mul_add_div (by omega), Nat.mul_add_mod, Nat.div_eq_of_lt h, Nat.mod_eq_of_lt h]
  exact ⟨rfl, rfl⟩
theorem div_high_step {X B x R : Nat} (hR : R = X % B) (hB : 0 < B) (hx : x ≤ 1) (h : B ≤ x + 2 * R) : (x + 2 * X) / B = 1 + 2 * (X / B) ∧ (x + 2 * X) % B = x + 2 * R - B := by
  have e := Nat.div_add_mod X B
  have hlt := Nat.mod_lt X hB
  rw [← hR] at e hlt
  obtain ⟨q, hq⟩ : ∃ q, q = X / B := ⟨_, rfl⟩
  rw [← hq] at e ⊢
  obtain ⟨r, hr⟩ : ∃ r, r = x + 2 * R - B := ⟨_, rfl⟩
  have hr2 : r < B := by omega
  have e2 : x + 2 * X = B * (1 + 2 * q) + r := by
    have : B * (1 + 2 * q) = B + 2 * (B * q) := by rw [Nat.mul_add, Nat.mul_one, ← Nat.mul_assoc, Nat.mul_comm B 2, Nat.mul_assoc]
    rw [this]; omega
  rw [← hr, e2, Nat.mul_add_div hB, Nat.mul_add_mod, Nat.div_eq_of_lt hr2, Nat.mod_eq_of_lt hr2]
  exact ⟨rfl, rfl⟩
theorem bits_len {R : Nat} {lb : List Bool} (h : R < bval lb) : (Num.bits R).length ≤ lb.length := (bits_length_le R lb.length).2 (Nat.lt_trans h (bval_lt lb))
theorem bits_shift (x : Bool) (R : Nat) : btz (x :: Num.bits R) = Num.bits (x.toNat + 2 * R) := by rw [← bits_bval, bval_cons, bval_bits]

set_option maxHeartbeats 8000000 in
set_option maxRecDepth 100000 in
theorem rdiv_any (w : World) (va vb : Value) (la lb : List Bool) (hA : Arg encB w va la) (hB : Arg encB w vb lb) (hla : la.length ≤ 10000000) (hlb : lb.length ≤ 10000000) (hpos : 0 < bval lb) :
    Calls Tryz.prog 109 #[va, vb] w fun e w' => ∃ vq vr, e = .returned (.tuple #[vq, vr]) ∧ Arg encB w' vq (Num.bits (bval la / bval lb)) ∧ Arg encB w' vr (Num.bits (bval la % bval lb)) ∧ Below w.heap.size w w' := by
  obtain ⟨i0, hi, hz0, hz1, hz2⟩ := info_parts infoB
  obtain ⟨A1, c1, rfl, hcl, hr⟩ := hA.open_
  obtain ⟨N, hN⟩ : ∃ N, la.length = N := ⟨_, rfl⟩
  rw [hN] at hcl hla ⊢
  have hmk := run_make_row' (P := Tryz.prog) 93 4 (.bool false) 1 Tryz.underlying93 infoB rfl .i64 .i64 N (by omega) (by omega)
  have hstart : Inp 4 encB w.heap.size (w.alloc (.cells (madeCells #[.bool false] N) 4)) w.heap.size N N (List.replicate N false) := Inp.made w false (by omega) rfl
  have HN := Lib.hid hN
  have HP := Lib.hid hpos
  clear hN hpos hA
  go_enter Tryz.func109, Tryz.ntmps109
  go_wp2_with fail
  go_loopw [7, 8] (fun rv i wr => ∃ (k R : Nat) (Q : List Bool), k ≤ N ∧ i = .int .i64 ((k : Int) - 1) ∧ Arg encB wr rv (Num.bits R) ∧
      Hid (R = bval (la.drop k) % bval lb ∧ bval (Q.drop k) = bval (la.drop k) / bval lb ∧ ∀ j, j < k → Q[j]? = some false) ∧ Inp 4 encB w.heap.size wr w.heap.size N N Q ∧ Below w.heap.size w wr) (fun _ i _ => (intOf i + 1).toNat)
  case atStart =>
    refine ⟨N, 0, List.replicate N false, Nat.le_refl _, rfl, ?_, ?_, hstart, (Below.refl _ w).alloc (Nat.le_refl _) _⟩
    · rw [bits_zero]; exact Arg.nil_ _ _ _ _
    · show _ ∧ _ ∧ _
      have hN := HN.out
      rw [List.drop_of_length_le (by omega), List.drop_of_length_le (by simp)]
      exact ⟨by simp, by simp, fun j hj => by rw [List.getElem?_replicate]; simp [hj]⟩
  case round =>
    obtain ⟨k, R, Q, hk, rfl, hR, HI, hin, hbel⟩ := hrel
    have HL : Hid ((Num.bits R).length ≤ lb.length) := bits_len (by rw [HI.out.1]; exact Nat.mod_lt _ HP.out)
    rcases Nat.eq_zero_or_pos k with h0 | h0
    · subst h0
      clear hmk hstart
      obtain ⟨e1, e2, _⟩ := HI.out
      simp only [List.drop_zero] at e1 e2
      have HE := Lib.hid (And.intro e1 e2)
      clear e1 e2
      have hq := hin.arg
      have hql := hin.len
      have HQL := Lib.hid hql
      clear hql
      go_wp2_with fail
      refine (rtrim_any _ _ _ hq (by rw [HQL.out]; omega)).mono ?_
      rintro e w3 ⟨v3, rfl, hw3, h3⟩
      subst w3
      go_wp2_with fail
      go_ret2
      refine ⟨_, _, rfl, ?_, ?_, hbel⟩
      · rw [← HE.out.2, bits_bval]; exact h3
      · rw [← HE.out.1]; exact hR
    · obtain ⟨x, hx⟩ := get_some (l := la) (k := k - 1) (by have := HN.out; omega)
      obtain ⟨b, o, rfl, hc0⟩ := hr.at_ hx
      have hc1 := (hbel.cell (World.block_lt_of_cell? w _ hc0)).trans hc0
      have HX := Lib.hid hx
      obtain ⟨A3, c3, rfl, hcr, hrr⟩ := hR.open_
      clear hmk hstart hx hc0
      cases A3 with
      | none =>
        have hb0 : Num.bits R = [] := by
          rcases Nat.eq_zero_or_pos (Num.bits R).length with h9 | h9
          · exact List.length_eq_zero_iff.1 h9
          · obtain ⟨_, _, e9, _⟩ := hrr h9; cases e9
        have hl0 : (Num.bits R).length = 0 := by rw [hb0]; rfl
        have HB0 := Lib.hid hb0
        rw [hl0]
        clear hb0 hl0 hcr hrr hR
        have hR : True := trivial
        have hrow : Arg encB (wr.alloc (.cells #[.bool x] 4)) (.slice (some ⟨wr.heap.size, 0, none⟩) 1 1) (x :: Num.bits R) := by rw [HB0.out]; exact arg_lit wr _ _ 1 _ rfl rfl
        have hb2 : Below wr.heap.size wr (wr.alloc (.cells #[.bool x] 4)) := (Below.refl _ wr).alloc (Nat.le_refl _) _
        go_wp2_with fail
        refine (rtrim_any _ _ _ hrow (by have := HL.out; simp; omega)).mono ?_
        rintro e w3 ⟨v3, rfl, hw3, h3⟩
        subst w3
        rw [bits_shift] at h3
        have hin2 := hin.below hb2
        have hbel2 := hbel.trans (hb2.mono hbel.size)
        have hB2 := hB.below hbel2
        obtain ⟨R2, hR2⟩ : ∃ R2, R2 = x.toNat + 2 * R := ⟨_, rfl⟩
        rw [← hR2] at h3
        have HR2 := Lib.hid hR2
        have HL2 : Hid ((Num.bits R2).length ≤ lb.length + 1) := by
          show (Num.bits R2).length ≤ lb.length + 1
          rw [hR2, ← bits_shift]
          refine Nat.le_trans (btz_length_le _) ?_
          have := HL.out
          simp; omega
        clear hin hbel hrow hb2 hR2 hR
        by_cases hlt : R2 < bval lb
        · have hd : decide (bval (Num.bits R2) < bval lb) = true := by rw [bval_bits]; exact decide_eq_true hlt
          have HD := Lib.hid (And.intro hd hlt)
          clear hd hlt
          go_wp2_with fail
          refine (rless_is _ _ _ _ _ true h3 hB2 (by have := HL2.out; omega) (by omega) HD.out.1).mono ?_
          rintro e w4 ⟨rfl, hb4⟩
          have hin4 := hin2.below hb4
          have hbel4 := hbel2.trans (hb4.mono hbel2.size)
          have h34 := h3.below hb4
          clear hin2 hbel2 h3 hB2 hb4 hc1
          go_wp2_with fail
          go_roundw
          case rel =>
            refine ⟨k - 1, R2, Q, by omega, by go_num, h34, ?_, hin4, hbel4⟩
            show R2 = bval (la.drop (k - 1)) % bval lb ∧ bval (Q.drop (k - 1)) = bval (la.drop (k - 1)) / bval lb ∧ _
            obtain ⟨e1, e2, e3⟩ := HI.out
            have s1 := div_low_step e1 (by rw [← HR2.out]; exact HD.out.2)
            rw [bdrop_pred h0 HX.out, bval_cons, bdrop_pred h0 (e3 (k - 1) (by omega)), bval_cons, s1.1, s1.2, e2, HR2.out]
            exact ⟨rfl, by simp, fun j hj => e3 j (by omega)⟩
          case measure => simp [intOf]; omega
        · have hd : decide (bval (Num.bits R2) < bval lb) = false := by rw [bval_bits]; exact decide_eq_false hlt
          have HD := Lib.hid (And.intro hd (Nat.le_of_not_lt hlt))
          clear hd hlt
          go_wp2_with fail
          refine (rless_is _ _ _ _ _ false h3 hB2 (by have := HL2.out; omega) (by omega) HD.out.1).mono ?_
          rintro e w4 ⟨rfl, hb4⟩
          have hin4 := hin2.below hb4
          have hbel4 := hbel2.trans (hb4.mono hbel2.size)
          have h34 := h3.below hb4
          have hB4 := hB2.below hb4
          clear hin2 hbel2 h3 hB2 hb4 hc1
          go_wp2_with fail
          refine (rsub_any _ _ _ _ lb h34 hB4 (by have := HL2.out; omega) (by omega) (by rw [bval_bits]; exact HD.out.2)).mono ?_
          rintro e w5 ⟨v5, rfl, h5, hb5, hfar⟩
          rw [bval_bits] at h5
          have hin5 := hin4.below hb5
          have hbel5 := hbel4.trans (hb5.mono hbel4.size)
          have hgs := hin4.lt
          have hfz := hin5.free (k - 1)
          have hct := hin5.cell (HI.out.2.2 (k - 1) (by omega))
          clear hin4 hbel4 h34 hB4 hb5
          go_wp2_with fail
          go_roundw
          case rel =>
            refine ⟨k - 1, R2 - bval lb, Q.set (k - 1) true, by omega, by go_num, Arg.setFar h5 hfar hgs, ?_, hin5.set (k - 1) true, hbel5.setCell (p := ⟨w.heap.size, k - 1, none⟩) (Nat.le_refl _) _⟩
            show R2 - bval lb = bval (la.drop (k - 1)) % bval lb ∧ bval ((Q.set (k - 1) true).drop (k - 1)) = bval (la.drop (k - 1)) / bval lb ∧ _
            obtain ⟨e1, e2, e3⟩ := HI.out
            have s1 := div_high_step (x := x.toNat) e1 HP.out (toNat_le x) (by rw [← HR2.out]; exact HD.out.2)
            have hQ : k - 1 < Q.length := len_of_get (e3 (k - 1) (by omega))
            rw [bdrop_pred h0 HX.out, bval_cons, bdrop_pred (l := Q.set (k - 1) true) h0 (y := true) (by rw [List.getElem?_set]; simp; exact hQ), bval_cons, s1.1, s1.2, HR2.out, List.drop_set, if_pos (by omega), e2]
            exact ⟨rfl, by simp, fun j hj => by rw [List.getElem?_set_ne (by omega)]; exact e3 j (by omega)⟩
          case measure => simp [intOf]; omega
      | some a3 =>
        have hnews : ∀ (j : Nat) (u : Value), ((Num.bits R).map encB)[j]? = some u → (wr.alloc (.cells #[.bool x] 4)).cell? (a3.add j) = some u := by
          intro j u hj
          rw [List.getElem?_map] at hj
          cases hxx : (Num.bits R)[j]? with
          | none => rw [hxx] at hj; cases hj
          | some y =>
            rw [hxx] at hj
            cases hj
            obtain ⟨b9, o9, e9, hx9⟩ := hrr (by have := len_of_get hxx; omega)
            cases e9
            rw [Addr.add_lit]
            have h8 := hx9 j y hxx
            exact (World.cell?_alloc_lt wr _ _ (World.block_lt_of_cell? wr _ h8)).trans h8
        have HNW := Lib.hid hnews
        clear hnews hrr
        go_wp2_with (at_builtin; refine wpList_append_own _ rfl _ _ 93 rfl wr.heap.size 4 i0 (.bool false) 1 1 Tryz.underlying93 hi hz0 hz1 hz2 rfl (by decide) _ _ _ rfl (World.ownsRow_lit wr #[.bool x] 1 (Nat.le_refl _) (by decide) (by simp)) a3 (Num.bits R).length c3 ((Num.bits R).map encB) rfl ?c1 ?c2 ?c3 ?c4 ?c5 ?c6 ?_)
        case c1 => simp
        case c2 => exact HNW.out
        case c3 => intro u hu; simp at hu; rcases hu with ⟨_, rfl⟩ | ⟨_, rfl⟩ <;> rfl
        case c4 => have := HL.out; unfold maxLen; omega
        case c5 => have := HL.out; omega
        case c6 => simp
        intro v' w2 hown hgrow _
        have hrow : Arg encB w2 v' (x :: Num.bits R) := ownsRow_arg (enc := encB) (l := x :: Num.bits R) (by simpa [Nat.add_comm] using hown)
        have hb2 : Below wr.heap.size wr w2 := ((Below.refl _ wr).alloc (Nat.le_refl _) _).grown hgrow (by simp) (by intro j hj; simp [Value.ownBlock] at hj; omega)
        clear hown hgrow
        go_wp2_with fail
        refine (rtrim_any _ _ _ hrow (by have := HL.out; simp; omega)).mono ?_
        rintro e w3 ⟨v3, rfl, hw3, h3⟩
        subst w3
        rw [bits_shift] at h3
        have hin2 := hin.below hb2
        have hbel2 := hbel.trans (hb2.mono hbel.size)
        have hB2 := hB.below hbel2
        obtain ⟨R2, hR2⟩ : ∃ R2, R2 = x.toNat + 2 * R := ⟨_, rfl⟩
        rw [← hR2] at h3
        have HR2 := Lib.hid hR2
        have HL2 : Hid ((Num.bits R2).length ≤ lb.length + 1) := by
          show (Num.bits R2).length ≤ lb.length + 1
          rw [hR2, ← bits_shift]
          refine Nat.le_trans (btz_length_le _) ?_
          have := HL.out
          simp; omega
        clear hin hbel hrow hb2 hR2 hR
        by_cases hlt : R2 < bval lb
        · have hd : decide (bval (Num.bits R2) < bval lb) = true := by rw [bval_bits]; exact decide_eq_true hlt
          have HD := Lib.hid (And.intro hd hlt)
          clear hd hlt
          go_wp2_with fail
          refine (rless_is _ _ _ _ _ true h3 hB2 (by have := HL2.out; omega) (by omega) HD.out.1).mono ?_
          rintro e w4 ⟨rfl, hb4⟩
          have hin4 := hin2.below hb4
          have hbel4 := hbel2.trans (hb4.mono hbel2.size)
          have h34 := h3.below hb4
          clear hin2 hbel2 h3 hB2 hb4 hc1
          go_wp2_with fail
          go_roundw
          case rel =>
            refine ⟨k - 1, R2, Q, by omega, by go_num, h34, ?_, hin4, hbel4⟩
            show R2 = bval (la.drop (k - 1)) % bval lb ∧ bval (Q.drop (k - 1)) = bval (la.drop (k - 1)) / bval lb ∧ _
            obtain ⟨e1, e2, e3⟩ := HI.out
            have s1 := div_low_step e1 (by rw [← HR2.out]; exact HD.out.2)
            rw [bdrop_pred h0 HX.out, bval_cons, bdrop_pred h0 (e3 (k - 1) (by omega)), bval_cons, s1.1, s1.2, e2, HR2.out]
            exact ⟨rfl, by simp, fun j hj => e3 j (by omega)⟩
          case measure => simp [intOf]; omega
        · have hd : decide (bval (Num.bits R2) < bval lb) = false := by rw [bval_bits]; exact decide_eq_false hlt
          have HD := Lib.hid (And.intro hd (Nat.le_of_not_lt hlt))
          clear hd hlt
          go_wp2_with fail
          refine (rless_is _ _ _ _ _ false h3 hB2 (by have := HL2.out; omega) (by omega) HD.out.1).mono ?_
          rintro e w4 ⟨rfl, hb4⟩
          have hin4 := hin2.below hb4
          have hbel4 := hbel2.trans (hb4.mono hbel2.size)
          have h34 := h3.below hb4
          have hB4 := hB2.below hb4
          clear hin2 hbel2 h3 hB2 hb4 hc1
          go_wp2_with fail
          refine (rsub_any _ _ _ _ lb h34 hB4 (by have := HL2.out; omega) (by omega) (by rw [bval_bits]; exact HD.out.2)).mono ?_
          rintro e w5 ⟨v5, rfl, h5, hb5, hfar⟩
          rw [bval_bits] at h5
          have hin5 := hin4.below hb5
          have hbel5 := hbel4.trans (hb5.mono hbel4.size)
          have hgs := hin4.lt
          have hfz := hin5.free (k - 1)
          have hct := hin5.cell (HI.out.2.2 (k - 1) (by omega))
          clear hin4 hbel4 h34 hB4 hb5
          go_wp2_with fail
          go_roundw
          case rel =>
            refine ⟨k - 1, R2 - bval lb, Q.set (k - 1) true, by omega, by go_num, Arg.setFar h5 hfar hgs, ?_, hin5.set (k - 1) true, hbel5.setCell (p := ⟨w.heap.size, k - 1, none⟩) (Nat.le_refl _) _⟩
            show R2 - bval lb = bval (la.drop (k - 1)) % bval lb ∧ bval ((Q.set (k - 1) true).drop (k - 1)) = bval (la.drop (k - 1)) / bval lb ∧ _
            obtain ⟨e1, e2, e3⟩ := HI.out
            have s1 := div_high_step (x := x.toNat) e1 HP.out (toNat_le x) (by rw [← HR2.out]; exact HD.out.2)
            have hQ : k - 1 < Q.length := len_of_get (e3 (k - 1) (by omega))
            rw [bdrop_pred h0 HX.out, bval_cons, bdrop_pred (l := Q.set (k - 1) true) h0 (y := true) (by rw [List.getElem?_set]; simp; exact hQ), bval_cons, s1.1, s1.2, HR2.out, List.drop_set, if_pos (by omega), e2]
            exact ⟨rfl, by simp, fun j hj => by rw [List.getElem?_set_ne (by omega)]; exact e3 j (by omega)⟩
          case measure => simp [intOf]; omega
end Go.Proofs.YtbippecchpaleaaGreatDoor
/- litmusref01.Gcd: what it returns. -/
namespace Go.Proofs.YtbippecchpaleaaGreatDoor
open Go.RowKit Go.Num
attribute [local go_sem] Oper.semAt_some

theorem bits_num {n k : Nat} (h : sz n ≤ k) : (Num.bits n).length ≤ 32 * k := by
  refine (bits_length_le n (32 * k)).2 ?_
  rw [Nat.pow_mul]
  exact Nat.lt_of_lt_of_le (lt_sz n) (Nat.pow_le_pow_right (by decide) h)
theorem bits_of (w : World) (v : Value) (l : List Nat) (n : Nat) (h : Num w v l n) :
    Calls Tryz.prog 96 #[v] w fun e w' => ∃ v', e = .returned v' ∧ Arg encB w' v' (Num.bits n) ∧ Below w.heap.size w w' := by
  have := bits_any w v l h.arg h.lim (Nat.le_trans h.len (by decide))
  rwa [h.val] at this
theorem rlimbs_of (w : World) (v : Value) (n : Nat) (h : Arg encB w v (Num.bits n)) (hb : (Num.bits n).length ≤ 30000000) :
    Calls Tryz.prog 95 #[v] w fun e w' => ∃ v', e = .returned v' ∧ Arg encU w' v' (limbs n) ∧ Below w.heap.size w w' := by
  have := rlimbs_any w v _ h hb
  rwa [bval_bits] at this
set_option maxHeartbeats 2000000 in
theorem rgcd_any (w : World) (va vb : Value) (la lb : List Nat) (a b : Nat) (ha : Num w va la a) (hb : Num w vb lb b) :
    Calls Tryz.prog 91 #[va, vb] w fun e w' => ∃ v, e = .returned v ∧ Arg encU w' v (limbs (Nat.gcd a b)) ∧ Below w.heap.size w w' := by
  have hsa := bits_num (Nat.le_trans (sz_num ha) ha.len)
  have hsb := bits_num (Nat.le_trans (sz_num hb) hb.len)
  go_enter Tryz.func91, Tryz.ntmps91
  go_wp2_with fail
  refine (bits_of _ _ _ a ha).mono ?_
  rintro e w1 ⟨v1, rfl, g1, b1⟩
  go_wp2_with fail
  refine (bits_of _ _ _ b (hb.below b1)).mono ?_
  rintro e w2 ⟨v2, rfl, g2, b2⟩
  replace g1 := g1.below b2
  have b3 := b1.trans (b2.mono b1.size)
  clear b1 b2 ha hb
  go_wp2_with fail
  go_loopg [5, 6] b (fun k av bv wr => ∃ x, Arg encB wr av (Num.bits x) ∧ Arg encB wr bv (Num.bits k) ∧ (Num.bits x).length ≤ 3200000 ∧ (Num.bits k).length ≤ 3200000 ∧ Hid (Nat.gcd x k = Nat.gcd a b) ∧ Below w.heap.size w wr)
  case atStart => exact ⟨a, g1, g2, hsa, hsb, rfl, b3⟩
  case round =>
    obtain ⟨x, gx, gy, hx, hk, HI, hbel⟩ := hrel
    obtain ⟨A, c, rfl, hc, hr⟩ := gy.open_
    have Hxk := Lib.hid (And.intro hx hk)
    clear hr hc hx
    rcases Nat.eq_zero_or_pos gk with h0 | h0
    · have hl0 : (Num.bits gk).length = 0 := by rw [h0, bits_zero]; rfl
      have H0 := Lib.hid h0
      clear h0 gy hk
      rw [hl0]
      clear hl0
      have e := HI.out
      rw [H0.out, Nat.gcd_zero_right] at e
      have HE := Lib.hid e
      clear e
      go_wp2_with fail
      refine (rlimbs_of _ _ x gx (Nat.le_trans Hxk.out.1 (by decide))).mono ?_
      rintro e w5 ⟨v5, rfl, g5, b5⟩
      go_wp2_with fail
      go_ret
      refine ⟨_, rfl, ?_, hbel.trans (b5.mono hbel.size)⟩
      rw [← HE.out]
      exact g5
    · have hl0 : 0 < (Num.bits gk).length := by
        rcases Nat.eq_zero_or_pos (Num.bits gk).length with h | h
        · have := (bits_length_le gk 0).1 (by omega); simp at this; omega
        · exact h
      obtain ⟨m, hm⟩ : ∃ m, (Num.bits gk).length = m + 1 := ⟨_, (Nat.succ_pred_eq_of_pos hl0).symm⟩
      rw [hm] at gy hk ⊢
      clear hl0 hm
      go_wp2_with fail
      refine (rdiv_any _ _ _ (Num.bits x) (Num.bits gk) gx gy (Nat.le_trans Hxk.out.1 (by decide)) (Nat.le_trans Hxk.out.2 (by decide)) (by rw [bval_bits]; exact h0)).mono ?_
      rintro e w5 ⟨vq, vr, rfl, g3, g4, b5⟩
      rw [bval_bits, bval_bits] at g4
      have gy5 := gy.below b5
      have hbel5 := hbel.trans (b5.mono hbel.size)
      have hm := Nat.mod_lt x h0
      have hs : (Num.bits (x % gk)).length ≤ 3200000 := Nat.le_trans ((bits_length_le _ _).2 (Nat.lt_of_lt_of_le hm (Nat.le_of_lt ((bits_length_le gk _).1 (Nat.le_refl _))))) Hxk.out.2
      have HG := Lib.hid (show Nat.gcd gk (x % gk) = Nat.gcd a b by rw [← HI.out, Nat.gcd_comm x gk, Nat.gcd_rec gk x, Nat.gcd_comm])
      have HS := Lib.hid hs
      clear gx gy g3 hbel b5 hs
      go_wp2_with fail
      go_roundg (x % gk)
      case measure => exact hm
      case rel => exact ⟨gk, gy5, g4, Hxk.out.2, HS.out, HG, hbel5⟩
end Go.Proofs.YtbippecchpaleaaGreatDoor

