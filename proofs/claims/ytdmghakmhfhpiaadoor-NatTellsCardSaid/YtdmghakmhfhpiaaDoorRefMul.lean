import Derived.Test.YtdmghakmhfhpiaaDoorRefLimbs
import Derived.Test.YtdmghakmhfhpiaaDoorText
import Derived.BigQuiet
/- litmusref01.mul: what it returns. -/
namespace Go.Proofs.YtdmghakmhfhpiaaDoor
open Go.RowKit Go.Num
attribute [local go_sem] Oper.semAt_some

def nval : List Nat → Nat
  | [] => 0
  | x :: l => x + 2 * nval l
theorem nval_cons (x : Nat) (l : List Nat) : nval (x :: l) = x + 2 * nval l := rfl
theorem nval_set {l : List Nat} {j x : Nat} (h : l[j]? = some x) : nval (l.set j (x + 1)) = nval l + 2 ^ j := by
  induction l generalizing j with
  | nil => simp at h
  | cons y l ih =>
    cases j with
    | zero =>
      simp at h
      subst h
      simp [nval_cons]; omega
    | succ j =>
      have := ih (j := j) (by simpa using h)
      simp only [List.set_cons_succ, nval_cons, this, Nat.pow_succ]
      omega
theorem nsum_set {l : List Nat} {j x : Nat} (h : l[j]? = some x) : (l.set j (x + 1)).sum = l.sum + 1 := by
  induction l generalizing j with
  | nil => simp at h
  | cons y l ih =>
    cases j with
    | zero =>
      simp at h
      subst h
      simp; omega
    | succ j =>
      have := ih (j := j) (by simpa using h)
      simp only [List.set_cons_succ, List.sum_cons, this]
      omega
theorem nsum_mem {l : List Nat} {j x : Nat} (h : l[j]? = some x) : x ≤ l.sum := by
  induction l generalizing j with
  | nil => simp at h
  | cons y l ih =>
    cases j with
    | zero =>
      simp at h
      subst h
      simp
    | succ j =>
      have := ih (j := j) (by simpa using h)
      simp only [List.sum_cons]
      omega
theorem nval_snoc (l : List Nat) (x : Nat) : nval (l ++ [x]) = nval l + 2 ^ l.length * x := by
  induction l with
  | nil => simp [nval]
  | cons y l ih =>
    simp only [List.cons_append, nval_cons, ih, List.length_cons, Nat.pow_succ]
    rw [Nat.mul_add, Nat.mul_comm (2 ^ l.length) 2, Nat.mul_assoc]; omega
theorem nval_zeros (n : Nat) : nval (List.replicate n 0) = 0 := by
  induction n with
  | zero => rfl
  | succ n ih => simp [List.replicate_succ, nval_cons, ih]
theorem nsum_zeros (n : Nat) : (List.replicate n 0).sum = 0 := by simp
theorem nsum_snoc (l : List Nat) (x : Nat) : (l ++ [x]).sum = l.sum + x := by simp
theorem carry_step {P W V c x S r q : Nat} (h : W + P * c = V) (hS : S = c + x) (hq : S = r + 2 * q) : (W + P * r) + (P * 2) * q = V + P * x := by
  have e : P * S = P * (r + 2 * q) := by rw [← hq]
  rw [hS, Nat.mul_add, Nat.mul_add, ← Nat.mul_assoc] at e
  omega
theorem carry_done {r : List Bool} {L c A B : Nat} (h : bval r + 2 ^ L * c = A * B) (hA : A * B < 2 ^ L) : bval r = A * B := by
  rcases Nat.eq_zero_or_pos c with h0 | h0
  · subst h0; simpa using h
  · have : 2 ^ L * 1 ≤ 2 ^ L * c := Nat.mul_le_mul_left _ h0
    omega
theorem infoI : (Tryd.prog.info? 3).map (fun i => (i.zero, i.size, i.bytes)) = some (some (.int .i64 0), 1, 8) := by kernel_rfl

set_option maxHeartbeats 8000000 in
set_option maxRecDepth 100000 in
theorem rmul_any (w : World) (va vb : Value) (la lb : List Bool) (hA : Arg encB w va la) (hB : Arg encB w vb lb) (hla : la.length ≤ 1000000) (hlb : lb.length ≤ 1000000) :
    Calls Tryd.prog 59 #[va, vb] w fun e w' => ∃ v', e = .returned v' ∧ Arg encB w' v' (Num.bits (bval la * bval lb)) ∧ Below w.heap.size w w' := by
  obtain ⟨i0, hi, hz0, hz1, hz2⟩ := info_parts infoB
  obtain ⟨A1, c1, rfl, hcl1, hr1⟩ := hA.open_
  obtain ⟨A2, c2, rfl, hcl2, hr2⟩ := hB.open_
  obtain ⟨N, hN⟩ : ∃ N, la.length = N := ⟨_, rfl⟩
  obtain ⟨M, hM⟩ : ∃ M, lb.length = M := ⟨_, rfl⟩
  rw [hN] at hcl1 hla ⊢
  rw [hM] at hcl2 hlb ⊢
  obtain ⟨L, hL⟩ : ∃ L, L = N + M := ⟨_, rfl⟩
  have hLi : (N : Int) + (M : Int) = (L : Int) := by omega
  have hmk := run_make_row' (P := Tryd.prog) 82 3 (.int .i64 0) 8 Tryd.underlying82 infoI rfl .i64 .i64 L (by omega) (by omega)
  have hstart : Inp 3 Num.encI w.heap.size (w.alloc (.cells (madeCells #[.int .i64 0] L) 3)) w.heap.size L L (List.replicate L 0) := Inp.made w 0 (by omega) rfl
  have hLb : L ≤ 2000000 := by omega
  have HN := Lib.hid (And.intro hN (And.intro hM hL))
  clear hN hM hA hB hL
  go_enter Tryd.func59, Tryd.ntmps59
  go_wp2_with fail
  go_loopw [6] (fun i wr => ∃ (k : Nat) (n : List Nat), k ≤ N ∧ i = .int .i64 k ∧ Hid (nval n = bval (la.take k) * bval lb ∧ n.sum ≤ k * M) ∧ Inp 3 Num.encI w.heap.size wr w.heap.size L L n ∧ Below w.heap.size w wr) (fun i _ => N - (intOf i).toNat)
  case atStart => exact ⟨0, List.replicate L 0, Nat.zero_le _, rfl, ⟨by rw [nval_zeros]; simp, by simp⟩, hstart, (Below.refl _ w).alloc (Nat.le_refl _) _⟩
  case round =>
    obtain ⟨k, n, hk, rfl, HI, hin, hbel⟩ := hrel
    clear hmk hstart
    by_cases hlt : k < N
    · obtain ⟨x, hx⟩ := get_some (l := la) (k := k) (by have := HN.out.1; omega)
      obtain ⟨b1, o1, rfl, hc0⟩ := hr1.at_ hx
      have HX := Lib.hid hx
      clear hx
      go_wp2_with fail
      go_loopw [7] (fun j wr => ∃ (q : Nat) (n : List Nat), q ≤ M ∧ j = .int .i64 q ∧ Hid (nval n = bval (la.take k) * bval lb + 2 ^ k * bval (lb.take q) * x.toNat ∧ n.sum ≤ k * M + q ∧ (x = false → n.sum ≤ k * M)) ∧ Inp 3 Num.encI w.heap.size wr w.heap.size L L n ∧ Below w.heap.size w wr) (fun j _ => M - (intOf j).toNat)
      case atStart => exact ⟨0, n, Nat.zero_le _, rfl, ⟨by rw [HI.out.1]; simp, HI.out.2, fun _ => HI.out.2⟩, hin, hbel⟩
      case round =>
        clear hin hbel n HI
        obtain ⟨q, n, hq, rfl, HI, hin, hbel⟩ := hrel
        have hc1 := (hbel.cell (World.block_lt_of_cell? w _ hc0)).trans hc0
        cases x with
        | false =>
          go_wp2_with fail
          go_roundw
          case rel =>
            refine ⟨k + 1, n, by omega, by go_num, ⟨?_, ?_⟩, hin, hbel⟩
            · rw [HI.out.1, take_snoc HX.out, bval_snoc]; simp
            · have := HI.out.2.2 rfl
              rw [Nat.add_mul]; omega
          case measure => simp [intOf]; omega
        | true =>
          by_cases hqM : q < M
          · obtain ⟨y, hy⟩ := get_some (l := lb) (k := q) (by have := HN.out.2.1; omega)
            obtain ⟨b2, o2, rfl, hd0⟩ := hr2.at_ hy
            have hd1 := (hbel.cell (World.block_lt_of_cell? w _ hd0)).trans hd0
            have HY := Lib.hid hy
            clear hy hd0
            cases y with
            | false =>
              go_wp2_with fail
              go_roundw
              case rel =>
                refine ⟨q + 1, n, by omega, by go_num, ⟨?_, ?_, fun h => by cases h⟩, hin, hbel⟩
                · rw [HI.out.1, take_snoc HY.out, bval_snoc]; simp
                · have := HI.out.2.1; omega
              case measure => simp [intOf]; omega
            | true =>
              have hkL : k + q < L := by have := HN.out.2.2; omega
              obtain ⟨z, hz⟩ := get_some (l := n) (k := k + q) (by have := hin.len; omega)
              have hcz := hin.cell hz
              have hfz := hin.free (k + q)
              have hzb : z ≤ 2000000000000 := by
                have h1 := nsum_mem hz
                have h2 := HI.out.2.1
                have h3 : k * M ≤ 1000000 * 1000000 := Nat.mul_le_mul (by omega) (by omega)
                omega
              have hge : w.heap.size ≤ w.heap.size := Nat.le_refl _
              have HZ := Lib.hid hz
              clear hz
              have hij : (k : Int) + (q : Int) = ((k + q : Nat) : Int) := by omega
              obtain ⟨J, hJ⟩ : ∃ J, J = k + q := ⟨_, rfl⟩
              rw [← hJ] at hcz hfz hij hkL
              have HJ := Lib.hid hJ
              clear hJ
              go_wp2_with fail
              go_roundw
              case rel =>
                refine ⟨q + 1, n.set J (z + 1), by omega, by go_num, ⟨?_, ?_, fun h => by cases h⟩, hin.set J (z + 1), hbel.setCell (p := ⟨w.heap.size, J, none⟩) hge _⟩
                · rw [HJ.out, nval_set HZ.out, HI.out.1, take_snoc HY.out, bval_snoc, List.length_take, Nat.min_eq_left (by have := HN.out.2.1; omega), Nat.pow_add, Nat.mul_add]
                  simp; omega
                · rw [HJ.out, nsum_set HZ.out]; have := HI.out.2.1; omega
              case measure => simp [intOf]; omega
          · go_wp2_with fail
            go_roundw
            case rel =>
              refine ⟨k + 1, n, by omega, by go_num, ⟨?_, ?_⟩, hin, hbel⟩
              · rw [HI.out.1, take_all lb (by have := HN.out.2.1; omega), take_snoc HX.out, bval_snoc, List.length_take, Nat.min_eq_left (by have := HN.out.1; omega), Nat.add_mul]
                simp
              · have := HI.out.2.1
                rw [Nat.add_mul]; omega
            case measure => simp [intOf]; omega
    · have e1 := HI.out.1
      rw [take_all la (by have := HN.out.1; omega)] at e1
      have e2 : n.sum ≤ 1000000 * 1000000 := Nat.le_trans HI.out.2 (Nat.mul_le_mul (by omega) (by omega))
      have HE := Lib.hid (And.intro e1 e2)
      clear e1 e2 HI
      go_wp2_with fail
      go_loopw [8, 9, 10] (fun out cv i wr => ∃ (k c : Nat) (r : List Bool), k ≤ L ∧ i = .int .i64 k ∧ cv = .int .i64 c ∧ r.length = k ∧ Hid (bval r + 2 ^ k * c = nval (n.take k) ∧ c ≤ (n.take k).sum) ∧ c ≤ 1000000000000 ∧ OwnB 4 w.heap.size wr out r ∧ Inp 3 Num.encI w.heap.size wr w.heap.size L L n ∧ Below w.heap.size w wr) (fun _ _ i _ => L - (intOf i).toNat)
      case atStart => exact ⟨0, 0, [], Nat.zero_le _, rfl, rfl, rfl, ⟨rfl, by simp⟩, by omega, OwnB.nil_ _ _ _, hin, hbel⟩
      case round =>
        clear hin hbel
        obtain ⟨j, c, r, hj, rfl, rfl, hlen, HI, hcb, hown, hin, hbel⟩ := hrel
        have Hlen := Lib.hid hlen
        clear hlen
        by_cases hlt : j < L
        · obtain ⟨z, hz⟩ := get_some (l := n) (k := j) (by have := hin.len; omega)
          have hcz := hin.cell hz
          have hzb : z ≤ 1000000000000 := Nat.le_trans (nsum_mem hz) HE.out.2
          obtain ⟨S, hS⟩ : ∃ S, S = c + z := ⟨_, rfl⟩
          have hSi : (c : Int) + (z : Int) = (S : Int) := by omega
          have hSb : S ≤ 2000000000000 := by omega
          have hS1 : S ≤ (n.take (j + 1)).sum := by rw [take_snoc hz, nsum_snoc]; have := HI.out.2; omega
          have hS2 : S / 2 ≤ 1000000000000 := by omega
          obtain ⟨q, hq⟩ : ∃ q, q = S / 2 := ⟨_, rfl⟩
          have hqi : (S : Int) / 2 = (q : Int) := by omega
          rw [← hq] at hS2
          have HS := Lib.hid (And.intro hS (And.intro hq (And.intro hS1 hz)))
          have hmod : S % 2 = 0 ∨ S % 2 = 1 := by omega
          clear hS hq hS1 hz
          rcases hmod with hmod | hmod
          · have hmi : (S : Int) % 2 = 0 := by omega
            have HM := Lib.hid hmod
            clear hmod
            go_wp2_with (at_builtin; refine wpList_append_own _ rfl _ _ 48 rfl w.heap.size 4 i0 (.bool false) 1 1 Tryd.underlying48 hi hz0 hz1 hz2 rfl (by decide) _ _ _ rfl (World.ownsRow.alloc hown.row _) ⟨wr.heap.size, 0, none⟩ 1 1 [.bool false] rfl rfl (cell_one_new _ _ _) (by simp [Value.oneCell']) ?c3 ?c4 ?c5 ?_)
            case c3 => have := Hlen.out; unfold maxLen; omega
            case c4 => have := Hlen.out; omega
            case c5 => have := hbel.size; simp; omega
            intro v' w1 h1 hg1 _
            obtain ⟨hown1, hb1⟩ := hown.pushed hbel h1 hg1 (d := false) rfl
            have h7 := hin.alloc (.cells #[.bool false] 4)
            have h8 := World.ownsRow.alloc hown.row (.cells #[.bool false] 4)
            have hin1 : Inp 3 Num.encI w.heap.size w1 w.heap.size L L n := World.ownsRow.kept h7 hg1 (rows_apart h7 h8 (by decide))
            clear h7 h8
            clear h1 hg1 hown hin hbel hcz
            go_wp2_with fail
            go_roundw
            case rel =>
              refine ⟨j + 1, q, r ++ [false], by omega, by go_num, by simp, by simp [Hlen.out], ⟨?_, ?_⟩, hS2, hown1, hin1, hb1⟩
              · obtain ⟨e1, e2, _, e4⟩ := HS.out
                rw [bval_snoc, Hlen.out, take_snoc e4, nval_snoc, List.length_take, Nat.min_eq_left (by have := hin1.len; omega), Nat.pow_succ]
                exact carry_step (r := 0) HI.out.1 e1 (by have := HM.out; omega)
              · obtain ⟨e1, e2, e3, _⟩ := HS.out
                omega
            case measure => simp [intOf]; omega
          · have hmi : (S : Int) % 2 = 1 := by omega
            have HM := Lib.hid hmod
            clear hmod
            go_wp2_with (at_builtin; refine wpList_append_own _ rfl _ _ 48 rfl w.heap.size 4 i0 (.bool false) 1 1 Tryd.underlying48 hi hz0 hz1 hz2 rfl (by decide) _ _ _ rfl (World.ownsRow.alloc hown.row _) ⟨wr.heap.size, 0, none⟩ 1 1 [.bool true] rfl rfl (cell_one_new _ _ _) (by simp [Value.oneCell']) ?c3 ?c4 ?c5 ?_)
            case c3 => have := Hlen.out; unfold maxLen; omega
            case c4 => have := Hlen.out; omega
            case c5 => have := hbel.size; simp; omega
            intro v' w1 h1 hg1 _
            obtain ⟨hown1, hb1⟩ := hown.pushed hbel h1 hg1 (d := true) rfl
            have h7 := hin.alloc (.cells #[.bool true] 4)
            have h8 := World.ownsRow.alloc hown.row (.cells #[.bool true] 4)
            have hin1 : Inp 3 Num.encI w.heap.size w1 w.heap.size L L n := World.ownsRow.kept h7 hg1 (rows_apart h7 h8 (by decide))
            clear h7 h8
            clear h1 hg1 hown hin hbel hcz
            go_wp2_with fail
            go_roundw
            case rel =>
              refine ⟨j + 1, q, r ++ [true], by omega, by go_num, by simp, by simp [Hlen.out], ⟨?_, ?_⟩, hS2, hown1, hin1, hb1⟩
              · obtain ⟨e1, e2, _, e4⟩ := HS.out
                rw [bval_snoc, Hlen.out, take_snoc e4, nval_snoc, List.length_take, Nat.min_eq_left (by have := hin1.len; omega), Nat.pow_succ]
                exact carry_step (r := 1) HI.out.1 e1 (by have := HM.out; omega)
              · obtain ⟨e1, e2, e3, _⟩ := HS.out
                omega
            case measure => simp [intOf]; omega
        · have e1 := HI.out.1
          rw [take_all n (by have := hin.len; omega), HE.out.1] at e1
          have e2 : bval la * bval lb < 2 ^ j := by
            have h1 : j = N + M := by have := HN.out.2.2; omega
            rw [h1, Nat.pow_add, ← HN.out.1, ← HN.out.2.1]
            exact Nat.mul_lt_mul'' (bval_lt la) (bval_lt lb)
          have HF := Lib.hid (carry_done e1 e2)
          have hra := hown.arg
          clear e1 e2 hin
          go_wp2_with fail
          refine (rtrim_any _ _ _ hra (by rw [Hlen.out]; omega)).mono ?_
          rintro e w2 ⟨v2, rfl, hw2, h5⟩
          subst w2
          go_wp2_with fail
          go_ret
          refine ⟨_, rfl, ?_, hbel⟩
          rw [← HF.out, bits_bval]
          exact h5
end Go.Proofs.YtdmghakmhfhpiaaDoor
