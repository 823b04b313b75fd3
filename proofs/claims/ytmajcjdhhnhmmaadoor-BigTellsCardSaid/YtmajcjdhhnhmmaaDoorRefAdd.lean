import Derived.Test.YtmajcjdhhnhmmaaDoorGLimbs
import Derived.BigQuiet
/- litmusref01.add: what it returns. -/
namespace Go.Proofs.YtmajcjdhhnhmmaaDoor
open Go.RowKit Go.Num
attribute [local go_sem] Oper.semAt_some
theorem btake_next {l : List Bool} {k : Nat} {x : Bool} (h : x = l[k]?.getD false) : bval (l.take (k + 1)) = bval (l.take k) + 2 ^ k * x.toNat := by
  by_cases hk : k < l.length
  · obtain ⟨y, hy⟩ := get_some hk
    rw [hy] at h
    have e : x = y := h
    rw [take_snoc hy, bval_snoc, List.length_take, Nat.min_eq_left (by omega), e]
  · rw [List.getElem?_eq_none (by omega)] at h
    have e : x = false := h
    rw [take_all l (by omega), take_all l (by omega), e]; simp

theorem at_is (w : World) (v : Value) (l : List Bool) (i : Nat) (x : Bool) (h : Arg encB w v l) (hb : l.length ≤ 100000000) (hx : x = l[i]?.getD false) :
    Calls Tryd.prog 106 #[v, .int .i64 i] w fun e w' => e = .returned (.bool x) ∧ w' = w := by
  subst hx
  exact at_any w v l i h hb
set_option maxHeartbeats 8000000 in
set_option maxRecDepth 100000 in
theorem radd_any (w : World) (va vb : Value) (la lb : List Bool) (hA : Arg encB w va la) (hB : Arg encB w vb lb) (hla : la.length ≤ 20000000) (hlb : lb.length ≤ 20000000) :
    Calls Tryd.prog 88 #[va, vb] w fun e w' => ∃ v' r, e = .returned v' ∧ Arg encB w' v' r ∧ Below w.heap.size w w' ∧ bval r = bval la + bval lb ∧ r.length ≤ max la.length lb.length + 1 := by
  obtain ⟨i0, hi, hz0, hz1, hz2⟩ := info_parts infoB
  obtain ⟨A1, c1, rfl, _, _⟩ := hA.open_
  obtain ⟨A2, c2, rfl, _, _⟩ := hB.open_
  go_enter Tryd.func88, Tryd.ntmps88
  go_wp2
  go_loopw [5, 6, 7] (fun out cv i wr => ∃ (k : Nat) (c : Bool) (r : List Bool), cv = .bool c ∧ i = .int .i64 k ∧ (k ≤ max la.length lb.length ∨ (k = max la.length lb.length + 1 ∧ c = false)) ∧ r.length = k ∧
      Hid (bval r + 2 ^ k * c.toNat = bval (la.take k) + bval (lb.take k)) ∧ OwnB 4 w.heap.size wr out r ∧ Below w.heap.size w wr) (fun _ _ i _ => max la.length lb.length + 1 - (intOf i).toNat)
  case atStart => exact ⟨0, false, [], rfl, rfl, .inl (Nat.zero_le _), rfl, rfl, OwnB.nil_ _ _ _, Below.refl _ _⟩
  case round =>
    obtain ⟨k, c, r, rfl, rfl, hkc, hlen, HI, hown, hbel⟩ := hrel
    have Hlen := Lib.hid hlen
    have HKC := Lib.hid hkc
    clear hlen hkc
    have hk9 : k ≤ 20000001 := by rcases HKC.out with h | h <;> omega
    by_cases h1 : k < la.length
    · have HK2 : Hid (k + 1 ≤ max la.length lb.length) := by show k + 1 ≤ max la.length lb.length; omega
      cases c with
      | false =>
        obtain ⟨x, hx⟩ : ∃ x, x = la[k]?.getD false := ⟨_, rfl⟩
        obtain ⟨y, hy⟩ : ∃ y, y = lb[k]?.getD false := ⟨_, rfl⟩
        have HX := Lib.hid hx
        have HY := Lib.hid hy
        clear hx hy
        rcases x with _ | _ <;> rcases y with _ | _
        · go_wp2_with fail
          refine (at_is _ _ la k false (hA.below hbel) (by omega) HX.out).mono ?_
          rintro e w2 ⟨rfl, hw2⟩
          subst w2
          go_wp2_with fail
          refine (at_is _ _ lb k false (hB.below hbel) (by omega) HY.out).mono ?_
          rintro e w3 ⟨rfl, hw3⟩
          subst w3
          go_wp2_with (at_builtin; refine wpList_append_own _ rfl _ _ 86 rfl w.heap.size 4 i0 (.bool false) 1 1 Tryd.underlying86 hi hz0 hz1 hz2 rfl (by decide) _ _ _ rfl (World.ownsRow.alloc hown.row _) ⟨wr.heap.size, 0, none⟩ 1 1 [.bool false] rfl rfl (cell_one_new _ _ _) (by simp [Value.oneCell']) ?c3 ?c4 ?c5 ?_)
          case c3 => have := Hlen.out; have := hk9; unfold maxLen; omega
          case c4 => have := Hlen.out; have := hk9; omega
          case c5 => have := hbel.size; simp; omega
          intro v' w1 h1 hg1 _
          obtain ⟨hown1, hb1⟩ := hown.pushed hbel h1 hg1 (d := false) rfl
          clear h1 hg1 hown hbel
          go_wp2_with fail
          go_roundw
          case rel =>
            refine ⟨k + 1, false, r ++ [false], rfl, by go_num, ?_, by simp [Hlen.out], ?_, hown1, hb1⟩
            · exact .inl HK2.out
            · have e := badd_step (d := 0) (c' := 0) (x := 0) (y := 0) HI.out (by decide)
              show bval (r ++ [false]) + 2 ^ (k + 1) * (false : Bool).toNat = bval (la.take (k + 1)) + bval (lb.take (k + 1))
              rw [btake_next HX.out, btake_next HY.out, bval_snoc, Hlen.out, Nat.pow_succ]
              exact e
          case measure => have h9 := HK2.out; simp [intOf]; omega
        · go_wp2_with fail
          refine (at_is _ _ la k false (hA.below hbel) (by omega) HX.out).mono ?_
          rintro e w2 ⟨rfl, hw2⟩
          subst w2
          go_wp2_with fail
          refine (at_is _ _ lb k true (hB.below hbel) (by omega) HY.out).mono ?_
          rintro e w3 ⟨rfl, hw3⟩
          subst w3
          go_wp2_with (at_builtin; refine wpList_append_own _ rfl _ _ 86 rfl w.heap.size 4 i0 (.bool false) 1 1 Tryd.underlying86 hi hz0 hz1 hz2 rfl (by decide) _ _ _ rfl (World.ownsRow.alloc hown.row _) ⟨wr.heap.size, 0, none⟩ 1 1 [.bool true] rfl rfl (cell_one_new _ _ _) (by simp [Value.oneCell']) ?c3 ?c4 ?c5 ?_)
          case c3 => have := Hlen.out; have := hk9; unfold maxLen; omega
          case c4 => have := Hlen.out; have := hk9; omega
          case c5 => have := hbel.size; simp; omega
          intro v' w1 h1 hg1 _
          obtain ⟨hown1, hb1⟩ := hown.pushed hbel h1 hg1 (d := true) rfl
          clear h1 hg1 hown hbel
          go_wp2_with fail
          go_roundw
          case rel =>
            refine ⟨k + 1, false, r ++ [true], rfl, by go_num, ?_, by simp [Hlen.out], ?_, hown1, hb1⟩
            · exact .inl HK2.out
            · have e := badd_step (d := 1) (c' := 0) (x := 0) (y := 1) HI.out (by decide)
              show bval (r ++ [true]) + 2 ^ (k + 1) * (false : Bool).toNat = bval (la.take (k + 1)) + bval (lb.take (k + 1))
              rw [btake_next HX.out, btake_next HY.out, bval_snoc, Hlen.out, Nat.pow_succ]
              exact e
          case measure => have h9 := HK2.out; simp [intOf]; omega
        · go_wp2_with fail
          refine (at_is _ _ la k true (hA.below hbel) (by omega) HX.out).mono ?_
          rintro e w2 ⟨rfl, hw2⟩
          subst w2
          go_wp2_with fail
          refine (at_is _ _ lb k false (hB.below hbel) (by omega) HY.out).mono ?_
          rintro e w3 ⟨rfl, hw3⟩
          subst w3
          go_wp2_with (at_builtin; refine wpList_append_own _ rfl _ _ 86 rfl w.heap.size 4 i0 (.bool false) 1 1 Tryd.underlying86 hi hz0 hz1 hz2 rfl (by decide) _ _ _ rfl (World.ownsRow.alloc hown.row _) ⟨wr.heap.size, 0, none⟩ 1 1 [.bool true] rfl rfl (cell_one_new _ _ _) (by simp [Value.oneCell']) ?c3 ?c4 ?c5 ?_)
          case c3 => have := Hlen.out; have := hk9; unfold maxLen; omega
          case c4 => have := Hlen.out; have := hk9; omega
          case c5 => have := hbel.size; simp; omega
          intro v' w1 h1 hg1 _
          obtain ⟨hown1, hb1⟩ := hown.pushed hbel h1 hg1 (d := true) rfl
          clear h1 hg1 hown hbel
          go_wp2_with fail
          go_roundw
          case rel =>
            refine ⟨k + 1, false, r ++ [true], rfl, by go_num, ?_, by simp [Hlen.out], ?_, hown1, hb1⟩
            · exact .inl HK2.out
            · have e := badd_step (d := 1) (c' := 0) (x := 1) (y := 0) HI.out (by decide)
              show bval (r ++ [true]) + 2 ^ (k + 1) * (false : Bool).toNat = bval (la.take (k + 1)) + bval (lb.take (k + 1))
              rw [btake_next HX.out, btake_next HY.out, bval_snoc, Hlen.out, Nat.pow_succ]
              exact e
          case measure => have h9 := HK2.out; simp [intOf]; omega
        · go_wp2_with fail
          refine (at_is _ _ la k true (hA.below hbel) (by omega) HX.out).mono ?_
          rintro e w2 ⟨rfl, hw2⟩
          subst w2
          go_wp2_with fail
          refine (at_is _ _ lb k true (hB.below hbel) (by omega) HY.out).mono ?_
          rintro e w3 ⟨rfl, hw3⟩
          subst w3
          go_wp2_with (at_builtin; refine wpList_append_own _ rfl _ _ 86 rfl w.heap.size 4 i0 (.bool false) 1 1 Tryd.underlying86 hi hz0 hz1 hz2 rfl (by decide) _ _ _ rfl (World.ownsRow.alloc hown.row _) ⟨wr.heap.size, 0, none⟩ 1 1 [.bool false] rfl rfl (cell_one_new _ _ _) (by simp [Value.oneCell']) ?c3 ?c4 ?c5 ?_)
          case c3 => have := Hlen.out; have := hk9; unfold maxLen; omega
          case c4 => have := Hlen.out; have := hk9; omega
          case c5 => have := hbel.size; simp; omega
          intro v' w1 h1 hg1 _
          obtain ⟨hown1, hb1⟩ := hown.pushed hbel h1 hg1 (d := false) rfl
          clear h1 hg1 hown hbel
          go_wp2_with fail
          go_roundw
          case rel =>
            refine ⟨k + 1, true, r ++ [false], rfl, by go_num, ?_, by simp [Hlen.out], ?_, hown1, hb1⟩
            · exact .inl HK2.out
            · have e := badd_step (d := 0) (c' := 1) (x := 1) (y := 1) HI.out (by decide)
              show bval (r ++ [false]) + 2 ^ (k + 1) * (true : Bool).toNat = bval (la.take (k + 1)) + bval (lb.take (k + 1))
              rw [btake_next HX.out, btake_next HY.out, bval_snoc, Hlen.out, Nat.pow_succ]
              exact e
          case measure => have h9 := HK2.out; simp [intOf]; omega
      | true =>
        obtain ⟨x, hx⟩ : ∃ x, x = la[k]?.getD false := ⟨_, rfl⟩
        obtain ⟨y, hy⟩ : ∃ y, y = lb[k]?.getD false := ⟨_, rfl⟩
        have HX := Lib.hid hx
        have HY := Lib.hid hy
        clear hx hy
        rcases x with _ | _ <;> rcases y with _ | _
        · go_wp2_with fail
          refine (at_is _ _ la k false (hA.below hbel) (by omega) HX.out).mono ?_
          rintro e w2 ⟨rfl, hw2⟩
          subst w2
          go_wp2_with fail
          refine (at_is _ _ lb k false (hB.below hbel) (by omega) HY.out).mono ?_
          rintro e w3 ⟨rfl, hw3⟩
          subst w3
          go_wp2_with (at_builtin; refine wpList_append_own _ rfl _ _ 86 rfl w.heap.size 4 i0 (.bool false) 1 1 Tryd.underlying86 hi hz0 hz1 hz2 rfl (by decide) _ _ _ rfl (World.ownsRow.alloc hown.row _) ⟨wr.heap.size, 0, none⟩ 1 1 [.bool true] rfl rfl (cell_one_new _ _ _) (by simp [Value.oneCell']) ?c3 ?c4 ?c5 ?_)
          case c3 => have := Hlen.out; have := hk9; unfold maxLen; omega
          case c4 => have := Hlen.out; have := hk9; omega
          case c5 => have := hbel.size; simp; omega
          intro v' w1 h1 hg1 _
          obtain ⟨hown1, hb1⟩ := hown.pushed hbel h1 hg1 (d := true) rfl
          clear h1 hg1 hown hbel
          go_wp2_with fail
          go_roundw
          case rel =>
            refine ⟨k + 1, false, r ++ [true], rfl, by go_num, ?_, by simp [Hlen.out], ?_, hown1, hb1⟩
            · exact .inl HK2.out
            · have e := badd_step (d := 1) (c' := 0) (x := 0) (y := 0) HI.out (by decide)
              show bval (r ++ [true]) + 2 ^ (k + 1) * (false : Bool).toNat = bval (la.take (k + 1)) + bval (lb.take (k + 1))
              rw [btake_next HX.out, btake_next HY.out, bval_snoc, Hlen.out, Nat.pow_succ]
              exact e
          case measure => have h9 := HK2.out; simp [intOf]; omega
        · go_wp2_with fail
          refine (at_is _ _ la k false (hA.below hbel) (by omega) HX.out).mono ?_
          rintro e w2 ⟨rfl, hw2⟩
          subst w2
          go_wp2_with fail
          refine (at_is _ _ lb k true (hB.below hbel) (by omega) HY.out).mono ?_
          rintro e w3 ⟨rfl, hw3⟩
          subst w3
          go_wp2_with (at_builtin; refine wpList_append_own _ rfl _ _ 86 rfl w.heap.size 4 i0 (.bool false) 1 1 Tryd.underlying86 hi hz0 hz1 hz2 rfl (by decide) _ _ _ rfl (World.ownsRow.alloc hown.row _) ⟨wr.heap.size, 0, none⟩ 1 1 [.bool false] rfl rfl (cell_one_new _ _ _) (by simp [Value.oneCell']) ?c3 ?c4 ?c5 ?_)
          case c3 => have := Hlen.out; have := hk9; unfold maxLen; omega
          case c4 => have := Hlen.out; have := hk9; omega
          case c5 => have := hbel.size; simp; omega
          intro v' w1 h1 hg1 _
          obtain ⟨hown1, hb1⟩ := hown.pushed hbel h1 hg1 (d := false) rfl
          clear h1 hg1 hown hbel
          go_wp2_with fail
          go_roundw
          case rel =>
            refine ⟨k + 1, true, r ++ [false], rfl, by go_num, ?_, by simp [Hlen.out], ?_, hown1, hb1⟩
            · exact .inl HK2.out
            · have e := badd_step (d := 0) (c' := 1) (x := 0) (y := 1) HI.out (by decide)
              show bval (r ++ [false]) + 2 ^ (k + 1) * (true : Bool).toNat = bval (la.take (k + 1)) + bval (lb.take (k + 1))
              rw [btake_next HX.out, btake_next HY.out, bval_snoc, Hlen.out, Nat.pow_succ]
              exact e
          case measure => have h9 := HK2.out; simp [intOf]; omega
        · go_wp2_with fail
          refine (at_is _ _ la k true (hA.below hbel) (by omega) HX.out).mono ?_
          rintro e w2 ⟨rfl, hw2⟩
          subst w2
          go_wp2_with fail
          refine (at_is _ _ lb k false (hB.below hbel) (by omega) HY.out).mono ?_
          rintro e w3 ⟨rfl, hw3⟩
          subst w3
          go_wp2_with (at_builtin; refine wpList_append_own _ rfl _ _ 86 rfl w.heap.size 4 i0 (.bool false) 1 1 Tryd.underlying86 hi hz0 hz1 hz2 rfl (by decide) _ _ _ rfl (World.ownsRow.alloc hown.row _) ⟨wr.heap.size, 0, none⟩ 1 1 [.bool false] rfl rfl (cell_one_new _ _ _) (by simp [Value.oneCell']) ?c3 ?c4 ?c5 ?_)
          case c3 => have := Hlen.out; have := hk9; unfold maxLen; omega
          case c4 => have := Hlen.out; have := hk9; omega
          case c5 => have := hbel.size; simp; omega
          intro v' w1 h1 hg1 _
          obtain ⟨hown1, hb1⟩ := hown.pushed hbel h1 hg1 (d := false) rfl
          clear h1 hg1 hown hbel
          go_wp2_with fail
          go_roundw
          case rel =>
            refine ⟨k + 1, true, r ++ [false], rfl, by go_num, ?_, by simp [Hlen.out], ?_, hown1, hb1⟩
            · exact .inl HK2.out
            · have e := badd_step (d := 0) (c' := 1) (x := 1) (y := 0) HI.out (by decide)
              show bval (r ++ [false]) + 2 ^ (k + 1) * (true : Bool).toNat = bval (la.take (k + 1)) + bval (lb.take (k + 1))
              rw [btake_next HX.out, btake_next HY.out, bval_snoc, Hlen.out, Nat.pow_succ]
              exact e
          case measure => have h9 := HK2.out; simp [intOf]; omega
        · go_wp2_with fail
          refine (at_is _ _ la k true (hA.below hbel) (by omega) HX.out).mono ?_
          rintro e w2 ⟨rfl, hw2⟩
          subst w2
          go_wp2_with fail
          refine (at_is _ _ lb k true (hB.below hbel) (by omega) HY.out).mono ?_
          rintro e w3 ⟨rfl, hw3⟩
          subst w3
          go_wp2_with (at_builtin; refine wpList_append_own _ rfl _ _ 86 rfl w.heap.size 4 i0 (.bool false) 1 1 Tryd.underlying86 hi hz0 hz1 hz2 rfl (by decide) _ _ _ rfl (World.ownsRow.alloc hown.row _) ⟨wr.heap.size, 0, none⟩ 1 1 [.bool true] rfl rfl (cell_one_new _ _ _) (by simp [Value.oneCell']) ?c3 ?c4 ?c5 ?_)
          case c3 => have := Hlen.out; have := hk9; unfold maxLen; omega
          case c4 => have := Hlen.out; have := hk9; omega
          case c5 => have := hbel.size; simp; omega
          intro v' w1 h1 hg1 _
          obtain ⟨hown1, hb1⟩ := hown.pushed hbel h1 hg1 (d := true) rfl
          clear h1 hg1 hown hbel
          go_wp2_with fail
          go_roundw
          case rel =>
            refine ⟨k + 1, true, r ++ [true], rfl, by go_num, ?_, by simp [Hlen.out], ?_, hown1, hb1⟩
            · exact .inl HK2.out
            · have e := badd_step (d := 1) (c' := 1) (x := 1) (y := 1) HI.out (by decide)
              show bval (r ++ [true]) + 2 ^ (k + 1) * (true : Bool).toNat = bval (la.take (k + 1)) + bval (lb.take (k + 1))
              rw [btake_next HX.out, btake_next HY.out, bval_snoc, Hlen.out, Nat.pow_succ]
              exact e
          case measure => have h9 := HK2.out; simp [intOf]; omega
    · by_cases h2 : k < lb.length
      · have HK2 : Hid (k + 1 ≤ max la.length lb.length) := by show k + 1 ≤ max la.length lb.length; omega
        cases c with
        | false =>
          obtain ⟨x, hx⟩ : ∃ x, x = la[k]?.getD false := ⟨_, rfl⟩
          obtain ⟨y, hy⟩ : ∃ y, y = lb[k]?.getD false := ⟨_, rfl⟩
          have HX := Lib.hid hx
          have HY := Lib.hid hy
          clear hx hy
          rcases x with _ | _ <;> rcases y with _ | _
          · go_wp2_with fail
            refine (at_is _ _ la k false (hA.below hbel) (by omega) HX.out).mono ?_
            rintro e w2 ⟨rfl, hw2⟩
            subst w2
            go_wp2_with fail
            refine (at_is _ _ lb k false (hB.below hbel) (by omega) HY.out).mono ?_
            rintro e w3 ⟨rfl, hw3⟩
            subst w3
            go_wp2_with (at_builtin; refine wpList_append_own _ rfl _ _ 86 rfl w.heap.size 4 i0 (.bool false) 1 1 Tryd.underlying86 hi hz0 hz1 hz2 rfl (by decide) _ _ _ rfl (World.ownsRow.alloc hown.row _) ⟨wr.heap.size, 0, none⟩ 1 1 [.bool false] rfl rfl (cell_one_new _ _ _) (by simp [Value.oneCell']) ?c3 ?c4 ?c5 ?_)
            case c3 => have := Hlen.out; have := hk9; unfold maxLen; omega
            case c4 => have := Hlen.out; have := hk9; omega
            case c5 => have := hbel.size; simp; omega
            intro v' w1 h1 hg1 _
            obtain ⟨hown1, hb1⟩ := hown.pushed hbel h1 hg1 (d := false) rfl
            clear h1 hg1 hown hbel
            go_wp2_with fail
            go_roundw
            case rel =>
              refine ⟨k + 1, false, r ++ [false], rfl, by go_num, ?_, by simp [Hlen.out], ?_, hown1, hb1⟩
              · exact .inl HK2.out
              · have e := badd_step (d := 0) (c' := 0) (x := 0) (y := 0) HI.out (by decide)
                show bval (r ++ [false]) + 2 ^ (k + 1) * (false : Bool).toNat = bval (la.take (k + 1)) + bval (lb.take (k + 1))
                rw [btake_next HX.out, btake_next HY.out, bval_snoc, Hlen.out, Nat.pow_succ]
                exact e
            case measure => have h9 := HK2.out; simp [intOf]; omega
          · go_wp2_with fail
            refine (at_is _ _ la k false (hA.below hbel) (by omega) HX.out).mono ?_
            rintro e w2 ⟨rfl, hw2⟩
            subst w2
            go_wp2_with fail
            refine (at_is _ _ lb k true (hB.below hbel) (by omega) HY.out).mono ?_
            rintro e w3 ⟨rfl, hw3⟩
            subst w3
            go_wp2_with (at_builtin; refine wpList_append_own _ rfl _ _ 86 rfl w.heap.size 4 i0 (.bool false) 1 1 Tryd.underlying86 hi hz0 hz1 hz2 rfl (by decide) _ _ _ rfl (World.ownsRow.alloc hown.row _) ⟨wr.heap.size, 0, none⟩ 1 1 [.bool true] rfl rfl (cell_one_new _ _ _) (by simp [Value.oneCell']) ?c3 ?c4 ?c5 ?_)
            case c3 => have := Hlen.out; have := hk9; unfold maxLen; omega
            case c4 => have := Hlen.out; have := hk9; omega
            case c5 => have := hbel.size; simp; omega
            intro v' w1 h1 hg1 _
            obtain ⟨hown1, hb1⟩ := hown.pushed hbel h1 hg1 (d := true) rfl
            clear h1 hg1 hown hbel
            go_wp2_with fail
            go_roundw
            case rel =>
              refine ⟨k + 1, false, r ++ [true], rfl, by go_num, ?_, by simp [Hlen.out], ?_, hown1, hb1⟩
              · exact .inl HK2.out
              · have e := badd_step (d := 1) (c' := 0) (x := 0) (y := 1) HI.out (by decide)
                show bval (r ++ [true]) + 2 ^ (k + 1) * (false : Bool).toNat = bval (la.take (k + 1)) + bval (lb.take (k + 1))
                rw [btake_next HX.out, btake_next HY.out, bval_snoc, Hlen.out, Nat.pow_succ]
                exact e
            case measure => have h9 := HK2.out; simp [intOf]; omega
          · go_wp2_with fail
            refine (at_is _ _ la k true (hA.below hbel) (by omega) HX.out).mono ?_
            rintro e w2 ⟨rfl, hw2⟩
            subst w2
            go_wp2_with fail
            refine (at_is _ _ lb k false (hB.below hbel) (by omega) HY.out).mono ?_
            rintro e w3 ⟨rfl, hw3⟩
            subst w3
            go_wp2_with (at_builtin; refine wpList_append_own _ rfl _ _ 86 rfl w.heap.size 4 i0 (.bool false) 1 1 Tryd.underlying86 hi hz0 hz1 hz2 rfl (by decide) _ _ _ rfl (World.ownsRow.alloc hown.row _) ⟨wr.heap.size, 0, none⟩ 1 1 [.bool true] rfl rfl (cell_one_new _ _ _) (by simp [Value.oneCell']) ?c3 ?c4 ?c5 ?_)
            case c3 => have := Hlen.out; have := hk9; unfold maxLen; omega
            case c4 => have := Hlen.out; have := hk9; omega
            case c5 => have := hbel.size; simp; omega
            intro v' w1 h1 hg1 _
            obtain ⟨hown1, hb1⟩ := hown.pushed hbel h1 hg1 (d := true) rfl
            clear h1 hg1 hown hbel
            go_wp2_with fail
            go_roundw
            case rel =>
              refine ⟨k + 1, false, r ++ [true], rfl, by go_num, ?_, by simp [Hlen.out], ?_, hown1, hb1⟩
              · exact .inl HK2.out
              · have e := badd_step (d := 1) (c' := 0) (x := 1) (y := 0) HI.out (by decide)
                show bval (r ++ [true]) + 2 ^ (k + 1) * (false : Bool).toNat = bval (la.take (k + 1)) + bval (lb.take (k + 1))
                rw [btake_next HX.out, btake_next HY.out, bval_snoc, Hlen.out, Nat.pow_succ]
                exact e
            case measure => have h9 := HK2.out; simp [intOf]; omega
          · go_wp2_with fail
            refine (at_is _ _ la k true (hA.below hbel) (by omega) HX.out).mono ?_
            rintro e w2 ⟨rfl, hw2⟩
            subst w2
            go_wp2_with fail
            refine (at_is _ _ lb k true (hB.below hbel) (by omega) HY.out).mono ?_
            rintro e w3 ⟨rfl, hw3⟩
            subst w3
            go_wp2_with (at_builtin; refine wpList_append_own _ rfl _ _ 86 rfl w.heap.size 4 i0 (.bool false) 1 1 Tryd.underlying86 hi hz0 hz1 hz2 rfl (by decide) _ _ _ rfl (World.ownsRow.alloc hown.row _) ⟨wr.heap.size, 0, none⟩ 1 1 [.bool false] rfl rfl (cell_one_new _ _ _) (by simp [Value.oneCell']) ?c3 ?c4 ?c5 ?_)
            case c3 => have := Hlen.out; have := hk9; unfold maxLen; omega
            case c4 => have := Hlen.out; have := hk9; omega
            case c5 => have := hbel.size; simp; omega
            intro v' w1 h1 hg1 _
            obtain ⟨hown1, hb1⟩ := hown.pushed hbel h1 hg1 (d := false) rfl
            clear h1 hg1 hown hbel
            go_wp2_with fail
            go_roundw
            case rel =>
              refine ⟨k + 1, true, r ++ [false], rfl, by go_num, ?_, by simp [Hlen.out], ?_, hown1, hb1⟩
              · exact .inl HK2.out
              · have e := badd_step (d := 0) (c' := 1) (x := 1) (y := 1) HI.out (by decide)
                show bval (r ++ [false]) + 2 ^ (k + 1) * (true : Bool).toNat = bval (la.take (k + 1)) + bval (lb.take (k + 1))
                rw [btake_next HX.out, btake_next HY.out, bval_snoc, Hlen.out, Nat.pow_succ]
                exact e
            case measure => have h9 := HK2.out; simp [intOf]; omega
        | true =>
          obtain ⟨x, hx⟩ : ∃ x, x = la[k]?.getD false := ⟨_, rfl⟩
          obtain ⟨y, hy⟩ : ∃ y, y = lb[k]?.getD false := ⟨_, rfl⟩
          have HX := Lib.hid hx
          have HY := Lib.hid hy
          clear hx hy
          rcases x with _ | _ <;> rcases y with _ | _
          · go_wp2_with fail
            refine (at_is _ _ la k false (hA.below hbel) (by omega) HX.out).mono ?_
            rintro e w2 ⟨rfl, hw2⟩
            subst w2
            go_wp2_with fail
            refine (at_is _ _ lb k false (hB.below hbel) (by omega) HY.out).mono ?_
            rintro e w3 ⟨rfl, hw3⟩
            subst w3
            go_wp2_with (at_builtin; refine wpList_append_own _ rfl _ _ 86 rfl w.heap.size 4 i0 (.bool false) 1 1 Tryd.underlying86 hi hz0 hz1 hz2 rfl (by decide) _ _ _ rfl (World.ownsRow.alloc hown.row _) ⟨wr.heap.size, 0, none⟩ 1 1 [.bool true] rfl rfl (cell_one_new _ _ _) (by simp [Value.oneCell']) ?c3 ?c4 ?c5 ?_)
            case c3 => have := Hlen.out; have := hk9; unfold maxLen; omega
            case c4 => have := Hlen.out; have := hk9; omega
            case c5 => have := hbel.size; simp; omega
            intro v' w1 h1 hg1 _
            obtain ⟨hown1, hb1⟩ := hown.pushed hbel h1 hg1 (d := true) rfl
            clear h1 hg1 hown hbel
            go_wp2_with fail
            go_roundw
            case rel =>
              refine ⟨k + 1, false, r ++ [true], rfl, by go_num, ?_, by simp [Hlen.out], ?_, hown1, hb1⟩
              · exact .inl HK2.out
              · have e := badd_step (d := 1) (c' := 0) (x := 0) (y := 0) HI.out (by decide)
                show bval (r ++ [true]) + 2 ^ (k + 1) * (false : Bool).toNat = bval (la.take (k + 1)) + bval (lb.take (k + 1))
                rw [btake_next HX.out, btake_next HY.out, bval_snoc, Hlen.out, Nat.pow_succ]
                exact e
            case measure => have h9 := HK2.out; simp [intOf]; omega
          · go_wp2_with fail
            refine (at_is _ _ la k false (hA.below hbel) (by omega) HX.out).mono ?_
            rintro e w2 ⟨rfl, hw2⟩
            subst w2
            go_wp2_with fail
            refine (at_is _ _ lb k true (hB.below hbel) (by omega) HY.out).mono ?_
            rintro e w3 ⟨rfl, hw3⟩
            subst w3
            go_wp2_with (at_builtin; refine wpList_append_own _ rfl _ _ 86 rfl w.heap.size 4 i0 (.bool false) 1 1 Tryd.underlying86 hi hz0 hz1 hz2 rfl (by decide) _ _ _ rfl (World.ownsRow.alloc hown.row _) ⟨wr.heap.size, 0, none⟩ 1 1 [.bool false] rfl rfl (cell_one_new _ _ _) (by simp [Value.oneCell']) ?c3 ?c4 ?c5 ?_)
            case c3 => have := Hlen.out; have := hk9; unfold maxLen; omega
            case c4 => have := Hlen.out; have := hk9; omega
            case c5 => have := hbel.size; simp; omega
            intro v' w1 h1 hg1 _
            obtain ⟨hown1, hb1⟩ := hown.pushed hbel h1 hg1 (d := false) rfl
            clear h1 hg1 hown hbel
            go_wp2_with fail
            go_roundw
            case rel =>
              refine ⟨k + 1, true, r ++ [false], rfl, by go_num, ?_, by simp [Hlen.out], ?_, hown1, hb1⟩
              · exact .inl HK2.out
              · have e := badd_step (d := 0) (c' := 1) (x := 0) (y := 1) HI.out (by decide)
                show bval (r ++ [false]) + 2 ^ (k + 1) * (true : Bool).toNat = bval (la.take (k + 1)) + bval (lb.take (k + 1))
                rw [btake_next HX.out, btake_next HY.out, bval_snoc, Hlen.out, Nat.pow_succ]
                exact e
            case measure => have h9 := HK2.out; simp [intOf]; omega
          · go_wp2_with fail
            refine (at_is _ _ la k true (hA.below hbel) (by omega) HX.out).mono ?_
            rintro e w2 ⟨rfl, hw2⟩
            subst w2
            go_wp2_with fail
            refine (at_is _ _ lb k false (hB.below hbel) (by omega) HY.out).mono ?_
            rintro e w3 ⟨rfl, hw3⟩
            subst w3
            go_wp2_with (at_builtin; refine wpList_append_own _ rfl _ _ 86 rfl w.heap.size 4 i0 (.bool false) 1 1 Tryd.underlying86 hi hz0 hz1 hz2 rfl (by decide) _ _ _ rfl (World.ownsRow.alloc hown.row _) ⟨wr.heap.size, 0, none⟩ 1 1 [.bool false] rfl rfl (cell_one_new _ _ _) (by simp [Value.oneCell']) ?c3 ?c4 ?c5 ?_)
            case c3 => have := Hlen.out; have := hk9; unfold maxLen; omega
            case c4 => have := Hlen.out; have := hk9; omega
            case c5 => have := hbel.size; simp; omega
            intro v' w1 h1 hg1 _
            obtain ⟨hown1, hb1⟩ := hown.pushed hbel h1 hg1 (d := false) rfl
            clear h1 hg1 hown hbel
            go_wp2_with fail
            go_roundw
            case rel =>
              refine ⟨k + 1, true, r ++ [false], rfl, by go_num, ?_, by simp [Hlen.out], ?_, hown1, hb1⟩
              · exact .inl HK2.out
              · have e := badd_step (d := 0) (c' := 1) (x := 1) (y := 0) HI.out (by decide)
                show bval (r ++ [false]) + 2 ^ (k + 1) * (true : Bool).toNat = bval (la.take (k + 1)) + bval (lb.take (k + 1))
                rw [btake_next HX.out, btake_next HY.out, bval_snoc, Hlen.out, Nat.pow_succ]
                exact e
            case measure => have h9 := HK2.out; simp [intOf]; omega
          · go_wp2_with fail
            refine (at_is _ _ la k true (hA.below hbel) (by omega) HX.out).mono ?_
            rintro e w2 ⟨rfl, hw2⟩
            subst w2
            go_wp2_with fail
            refine (at_is _ _ lb k true (hB.below hbel) (by omega) HY.out).mono ?_
            rintro e w3 ⟨rfl, hw3⟩
            subst w3
            go_wp2_with (at_builtin; refine wpList_append_own _ rfl _ _ 86 rfl w.heap.size 4 i0 (.bool false) 1 1 Tryd.underlying86 hi hz0 hz1 hz2 rfl (by decide) _ _ _ rfl (World.ownsRow.alloc hown.row _) ⟨wr.heap.size, 0, none⟩ 1 1 [.bool true] rfl rfl (cell_one_new _ _ _) (by simp [Value.oneCell']) ?c3 ?c4 ?c5 ?_)
            case c3 => have := Hlen.out; have := hk9; unfold maxLen; omega
            case c4 => have := Hlen.out; have := hk9; omega
            case c5 => have := hbel.size; simp; omega
            intro v' w1 h1 hg1 _
            obtain ⟨hown1, hb1⟩ := hown.pushed hbel h1 hg1 (d := true) rfl
            clear h1 hg1 hown hbel
            go_wp2_with fail
            go_roundw
            case rel =>
              refine ⟨k + 1, true, r ++ [true], rfl, by go_num, ?_, by simp [Hlen.out], ?_, hown1, hb1⟩
              · exact .inl HK2.out
              · have e := badd_step (d := 1) (c' := 1) (x := 1) (y := 1) HI.out (by decide)
                show bval (r ++ [true]) + 2 ^ (k + 1) * (true : Bool).toNat = bval (la.take (k + 1)) + bval (lb.take (k + 1))
                rw [btake_next HX.out, btake_next HY.out, bval_snoc, Hlen.out, Nat.pow_succ]
                exact e
            case measure => have h9 := HK2.out; simp [intOf]; omega
      · cases c with
        | false =>
          have e := HI.out
          rw [take_all la (by omega), take_all lb (by omega)] at e
          have HE := Lib.hid e
          clear e HI
          go_wp2_with fail
          go_ret
          exact ⟨_, rfl, r, hown.arg, hbel, by have := HE.out; simpa using this, by rw [Hlen.out]; rcases HKC.out with h | h <;> omega⟩
        | true =>
          have HK2 : Hid (k = max la.length lb.length) := by
            show k = max la.length lb.length
            rcases HKC.out with h | h
            · omega
            · exact absurd h.2 (by decide)
          obtain ⟨x, hx⟩ : ∃ x, x = la[k]?.getD false := ⟨_, rfl⟩
          obtain ⟨y, hy⟩ : ∃ y, y = lb[k]?.getD false := ⟨_, rfl⟩
          have HX := Lib.hid hx
          have HY := Lib.hid hy
          clear hx hy
          have hx0 : x = false := by rw [HX.out, List.getElem?_eq_none (by omega)]; rfl
          have hy0 : y = false := by rw [HY.out, List.getElem?_eq_none (by omega)]; rfl
          subst hx0
          subst hy0
          go_wp2_with fail
          refine (at_is _ _ la k false (hA.below hbel) (by omega) HX.out).mono ?_
          rintro e w2 ⟨rfl, hw2⟩
          subst w2
          go_wp2_with fail
          refine (at_is _ _ lb k false (hB.below hbel) (by omega) HY.out).mono ?_
          rintro e w3 ⟨rfl, hw3⟩
          subst w3
          go_wp2_with (at_builtin; refine wpList_append_own _ rfl _ _ 86 rfl w.heap.size 4 i0 (.bool false) 1 1 Tryd.underlying86 hi hz0 hz1 hz2 rfl (by decide) _ _ _ rfl (World.ownsRow.alloc hown.row _) ⟨wr.heap.size, 0, none⟩ 1 1 [.bool true] rfl rfl (cell_one_new _ _ _) (by simp [Value.oneCell']) ?c3 ?c4 ?c5 ?_)
          case c3 => have := Hlen.out; have := hk9; unfold maxLen; omega
          case c4 => have := Hlen.out; have := hk9; omega
          case c5 => have := hbel.size; simp; omega
          intro v' w1 h1 hg1 _
          obtain ⟨hown1, hb1⟩ := hown.pushed hbel h1 hg1 (d := true) rfl
          clear h1 hg1 hown hbel
          go_wp2_with fail
          go_roundw
          case rel =>
            refine ⟨k + 1, false, r ++ [true], rfl, by go_num, ?_, by simp [Hlen.out], ?_, hown1, hb1⟩
            · exact .inr ⟨congrArg (· + 1) HK2.out, rfl⟩
            · have e := badd_step (d := 1) (c' := 0) (x := 0) (y := 0) HI.out (by decide)
              show bval (r ++ [true]) + 2 ^ (k + 1) * (false : Bool).toNat = bval (la.take (k + 1)) + bval (lb.take (k + 1))
              rw [btake_next HX.out, btake_next HY.out, bval_snoc, Hlen.out, Nat.pow_succ]
              exact e
          case measure => have h9 := HK2.out; simp [intOf]; omega
end Go.Proofs.YtmajcjdhhnhmmaaDoor
