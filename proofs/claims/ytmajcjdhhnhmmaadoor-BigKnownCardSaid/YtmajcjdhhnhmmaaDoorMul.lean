import Derived.Test.YtmajcjdhhnhmmaaDoorShort
/- nat.Mul: what it returns. Conditions: rows of at most a hundred thousand limbs. -/
namespace Go.Proofs.YtmajcjdhhnhmmaaDoor
open Go.RowKit Go.Num
attribute [local go_sem] u64_mask

theorem val_set {q : List Nat} {m t d : Nat} (h : q[m]? = some t) : val (q.set m d) + 4294967296 ^ m * t = val q + 4294967296 ^ m * d := by
  have hm := len_of_get h
  have e1 := split_at h
  have e2 := split_at (l := q.set m d) (k := m) (x := d) (by rw [List.getElem?_set]; simp [hm])
  have e3 : (q.set m d).take m = q.take m := by rw [List.take_set_of_le (Nat.le_refl _)]
  have e4 : (q.set m d).drop (m + 1) = q.drop (m + 1) := by rw [List.drop_set_of_lt (by omega)]
  rw [e3, e4] at e2
  rw [Nat.mul_add] at e1 e2
  omega
theorem mul_in {_T V0 P K carry x y t d c' Bj W' W : Nat} (h : W + (P * K) * carry = V0 + P * (x * Bj)) (hd : carry + (x * y + t) = d + 4294967296 * c') (hw : W' + (P * K) * t = W + (P * K) * d) :
    W' + (P * (K * 4294967296)) * c' = V0 + P * (x * (Bj + K * y)) := by
  have e1 : (P * K) * (carry + (x * y + t)) = (P * K) * (d + 4294967296 * c') := by rw [hd]
  rw [Nat.mul_add, Nat.mul_add, Nat.mul_add] at e1
  have e2 : P * (x * (Bj + K * y)) = P * (x * Bj) + (P * K) * (x * y) := by
    rw [Nat.mul_add x, Nat.mul_add P, Nat.mul_left_comm x K y, Nat.mul_assoc P K]
  have e3 : (P * (K * 4294967296)) * c' = (P * K) * (4294967296 * c') := by rw [← Nat.mul_assoc P K, Nat.mul_assoc (P * K)]
  rw [e2, e3]
  omega

set_option maxHeartbeats 4000000 in
set_option maxRecDepth 100000 in
theorem mul_any (w : World) (va vb : Value) (la lb : List Nat) (a b : Nat) (ha : Num w va la a) (hb : Num w vb lb b) :
    Calls Tryd.prog 86 #[va, vb] w fun e w' => ∃ v', e = .returned v' ∧ Gives 52 encU w w' v' (limbs (a * b)) := by
  obtain ⟨i0, hi, hz0, hz1, hz2⟩ := info_parts infoU
  obtain ⟨Aa, ca, rfl, hca, hra⟩ := ha.arg.open_
  obtain ⟨Ab, cb, rfl, hcb, hrb⟩ := hb.arg.open_
  have hl1 := ha.len
  have hl2 := hb.len
  have HA := Lib.hid (And.intro ha.lim ha.val)
  have HB := Lib.hid (And.intro hb.lim hb.val)
  clear ha hb
  have hmk := run_make_row' (P := Tryd.prog) 22 52 (.int .u32 0) 4 Tryd.underlying22 infoU rfl .i64 .i64 (la.length + lb.length) (by omega) (by omega)
  have ec : ((la.length + lb.length : Nat) : Int) = (la.length : Int) + (lb.length : Int) := by omega
  rw [ec] at hmk
  clear ec
  have hstart : Inp 52 encU w.heap.size (w.alloc (.cells (madeCells #[.int .u32 0] (la.length + lb.length)) 52)) w.heap.size (la.length + lb.length) (la.length + lb.length) (List.replicate (la.length + lb.length) 0) := Inp.made w 0 (by omega) rfl
  go_enter Tryd.func86, Tryd.ntmps86
  go_wp2
  go_loopw [19] (fun i wr => ∃ (k : Nat) (q : List Nat), k ≤ la.length ∧ i = .int .i64 k ∧ Lim q ∧ Hid (val (q.take (k + lb.length)) = val (la.take k) * b) ∧
      Inp 52 encU w.heap.size wr w.heap.size (la.length + lb.length) (la.length + lb.length) q ∧ Below w.heap.size w wr) (fun i _ => la.length - (intOf i).toNat)
  case atStart =>
    refine ⟨0, List.replicate (la.length + lb.length) 0, Nat.zero_le _, rfl, Lim.zeros _, ?_, hstart, (Below.refl _ w).alloc (Nat.le_refl _) _⟩
    show val _ = val _ * b
    simp [val_zeros]
  case round =>
    clear hmk hstart
    obtain ⟨k, q, hk, rfl, hq, HI, hown, hbel⟩ := hrel
    by_cases hlt : k < la.length
    · obtain ⟨x, hx⟩ := get_some hlt
      obtain ⟨ba, oa, rfl, hc0⟩ := hra.at_ hx
      have hc1 := (hbel.cell (World.block_lt_of_cell? w _ hc0)).trans hc0
      have hx32 := HA.out.1.get hx
      have Hx := Lib.hid hx
      clear hx hc0
      go_wp2_with fail
      go_loopw [8, 26] (fun cr i wi => ∃ (j M : Nat) (u : List Nat), j ≤ lb.length ∧ i = .int .i64 j ∧ cr = .int .u64 M ∧ M < 4294967296 ∧ Lim u ∧
          Hid (val (u.take (k + lb.length)) + (4294967296 ^ k * 4294967296 ^ j) * M = val (la.take k) * b + 4294967296 ^ k * (x * val (lb.take j))) ∧
          Inp 52 encU w.heap.size wi w.heap.size (la.length + lb.length) (la.length + lb.length) u ∧ Below w.heap.size w wi) (fun _ i _ => lb.length - (intOf i).toNat)
      case atStart =>
        refine ⟨0, 0, q, Nat.zero_le _, rfl, rfl, by decide, hq, ?_, hown, hbel⟩
        show val (q.take (k + lb.length)) + (4294967296 ^ k * 4294967296 ^ 0) * 0 = val (la.take k) * b + 4294967296 ^ k * (x * val (lb.take 0))
        rw [HI.out]; simp
      case round =>
        clear hown hbel HI hq hc1
        obtain ⟨j, M, u, hj, rfl, rfl, hM, hu, HJ, hown, hbel⟩ := hrel
        by_cases hjl : j < lb.length
        · obtain ⟨y, hy⟩ := get_some hjl
          obtain ⟨bb, ob, rfl, hc0⟩ := hrb.at_ hy
          have hc1 := (hbel.cell (World.block_lt_of_cell? w _ hc0)).trans hc0
          have hy32 := HB.out.1.get hy
          obtain ⟨t, ht⟩ := get_some (l := u) (k := k + j) (by have := hown.len; omega)
          have hct := hown.cell ht
          have ht32 := hu.get ht
          have hfz := hown.free (k + j)
          have Hy := Lib.hid (And.intro hy ht)
          clear hy hc0 ht
          obtain ⟨S, hS⟩ : ∃ S : Nat, S = M + (x * y + t) := ⟨_, rfl⟩
          have hxyb : x * y ≤ 4294967295 * 4294967295 := Nat.mul_le_mul (by omega) (by omega)
          have hSb : S / 4294967296 < 4294967296 := by omega
          have hSi : (M : Int) + ((x : Int) * (y : Int) + (t : Int)) = (S : Int) := by rw [hS]; simp
          have hxy : x * y ≤ S := by omega
          have hxt : x * y + t ≤ S := by omega
          have HS := Lib.hid hS
          clear hS hxyb
          go_wp2_with fail
          go_roundw
          case rel =>
            refine ⟨j + 1, S / 4294967296, u.set (k + j) (S % 4294967296), by omega, by go_num, by simp, hSb, hu.set _ _ (Nat.mod_lt _ (by decide)), ?_, hown.set (k + j) (S % 4294967296), hbel.setCell (p := ⟨w.heap.size, k + j, none⟩) (Nat.le_refl _) _⟩
            show val ((u.set (k + j) (S % 4294967296)).take (k + lb.length)) + (4294967296 ^ k * 4294967296 ^ (j + 1)) * (S / 4294967296) = val (la.take k) * b + 4294967296 ^ k * (x * val (lb.take (j + 1)))
            have hts : (u.set (k + j) (S % 4294967296)).take (k + lb.length) = (u.take (k + lb.length)).set (k + j) (S % 4294967296) := by rw [List.take_set]
            have htt : (u.take (k + lb.length))[k + j]? = some t := by rw [List.getElem?_take, if_pos (by omega)]; exact Hy.out.2
            have hset := val_set (d := S % 4294967296) htt
            rw [Nat.pow_add] at hset
            rw [hts, take_snoc Hy.out.1, val_snoc, List.length_take, Nat.min_eq_left hj, pow_succ']
            exact mul_in (_T := 0) HJ.out (by have := HS.out; omega) hset
          case measure => simp [intOf]; omega
        · have hjl' : j = lb.length := by omega
          have hfz := hown.free (k + lb.length)
          obtain ⟨t, ht⟩ := get_some (l := u) (k := k + lb.length) (by have := hown.len; omega)
          have hct := hown.cell ht
          have Ht := Lib.hid (And.intro ht hjl')
          clear ht hjl'
          go_wp2_with fail
          go_roundw
          case rel =>
            refine ⟨k + 1, u.set (k + lb.length) M, by omega, by go_num, hu.set _ _ hM, ?_, hown.set (k + lb.length) M, hbel.setCell (p := ⟨w.heap.size, k + lb.length, none⟩) (Nat.le_refl _) _⟩
            show val ((u.set (k + lb.length) M).take (k + 1 + lb.length)) = val (la.take (k + 1)) * b
            have hm : (u.set (k + lb.length) M)[k + lb.length]? = some M := by rw [List.getElem?_set]; simp; exact len_of_get Ht.out.1
            have e1 := HJ.out
            rw [Ht.out.2, take_all lb (Nat.le_refl _), HB.out.2] at e1
            rw [show k + 1 + lb.length = k + lb.length + 1 by omega, take_snoc hm, val_snoc, List.take_set_of_le (Nat.le_refl _), List.length_take, Nat.min_eq_left (by have := hown.len; omega), take_snoc Hx.out, val_snoc, List.length_take, Nat.min_eq_left hk, Nat.add_mul, Nat.pow_add, e1, Nat.mul_assoc]
          case measure => simp [intOf]; omega
    · have hkl : k = la.length := by omega
      have Hkl := Lib.hid hkl
      have hb6 : q.length ≤ 1000000 := by have := hown.len; omega
      clear hkl
      go_wp2_with fail
      refine (trim_any _ _ q hown.arg hq hb6).mono ?_
      rintro e w1 ⟨v1, rfl, hg⟩
      go_wp2
      go_ret
      have e1 := HI.out
      rw [Hkl.out, take_all la (Nat.le_refl _), HA.out.2, take_all q (by have := hown.len; omega)] at e1
      rw [e1] at hg
      exact ⟨_, rfl, hg.after hbel⟩
end Go.Proofs.YtmajcjdhhnhmmaaDoor
