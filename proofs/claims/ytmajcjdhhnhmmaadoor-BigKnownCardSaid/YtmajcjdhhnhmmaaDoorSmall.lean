import Derived.Test.YtmajcjdhhnhmmaaDoorTrim
/- nat.From, nat.Small, nat.Cmp: what each returns. Conditions: numbers of 64 bits; rows of at most a hundred thousand limbs. -/
namespace Go.Proofs.YtmajcjdhhnhmmaaDoor
open Go.RowKit Go.Num
attribute [local go_sem] u64_mask

set_option maxHeartbeats 1000000 in
theorem from_any (w : World) (n : Nat) (hn : n < 18446744073709551616) :
    Calls Tryd.prog 76 #[.int .u64 n] w fun e w' => ∃ v', e = .returned v' ∧ Gives 52 encU w w' v' (limbs n) := by
  go_enter Tryd.func76, Tryd.ntmps76
  go_wp2_with (refine (trim_any _ _ [n % 4294967296, n / 4294967296] (arg_lit w _ _ 2 _ rfl (by simp)) (Lim.cons (by omega) (Lim.one (by omega))) (by simp)).mono ?_; rintro e w' ⟨v', rfl, hg⟩)
  go_ret
  have e : val [n % 4294967296, n / 4294967296] = n := by simp; omega
  rw [e] at hg
  exact ⟨_, rfl, hg.after ((Below.refl _ w).alloc (Nat.le_refl _) _)⟩

set_option maxHeartbeats 1000000 in
theorem small_no (w : World) (v : Value) (l : List Nat) (n : Nat) (h : Num w v l n) (hn : 18446744073709551616 ≤ n) :
    Calls Tryd.prog 65 #[v] w fun e w' => e = .returned (.tuple #[.int .u64 0, .bool false]) ∧ Below w.heap.size w w' := by
  have H := Lib.hid hn
  clear hn
  go_enter Tryd.func65, Tryd.ntmps65
  go_wp2_with fail
  refine (trim_any _ _ _ h.arg h.lim (by have := h.len; omega)).mono ?_
  rintro e w' ⟨v', rfl, hg⟩
  obtain ⟨A, c, rfl, hc, hr⟩ := hg.arg.open_
  have h2 : 2 < (limbs (val l)).length := by
    rw [h.val]
    rcases Nat.lt_or_ge 2 (limbs n).length with h2 | h2
    · exact h2
    · have := (limbs_length_le n 2).1 h2; have := H.out; omega
  go_wp2
  go_ret2
  exact ⟨rfl, hg.below⟩

set_option maxHeartbeats 1000000 in
theorem small_yes (w : World) (v : Value) (l : List Nat) (n : Nat) (h : Num w v l n) (hn : n < 18446744073709551616) :
    Calls Tryd.prog 65 #[v] w fun e w' => e = .returned (.tuple #[.int .u64 n, .bool true]) ∧ Below w.heap.size w w' := by
  have H := Lib.hid hn
  clear hn
  go_enter Tryd.func65, Tryd.ntmps65
  go_wp2_with fail
  refine (trim_any _ _ _ h.arg h.lim (by have := h.len; omega)).mono ?_
  rintro e w' ⟨v', rfl, hg⟩
  obtain ⟨A, c, rfl, hc, hr⟩ := hg.arg.open_
  have hvl : val (limbs (val l)) = n := by rw [val_limbs]; exact h.val
  have hll := limbs_lim (val l)
  have h2 : (limbs (val l)).length ≤ 2 := by rw [h.val]; exact (limbs_length_le n 2).2 H.out
  have hv : val l = n := h.val
  have hbel := hg.below
  clear hg h hc
  generalize limbs (val l) = r at *
  have Hv := Lib.hid hvl
  have Hl := Lib.hid hll
  clear hvl hll hv
  go_wp2
  go_loop [2, 4, 5, 13] (fun s _ _ i => ∃ k : Nat, k ≤ r.length ∧ i = .int .i64 k ∧ s = .int .u64 (val (r.take k) : Nat)) (fun _ _ _ i => r.length - (intOf i).toNat)
  case atStart => exact ⟨0, Nat.zero_le _, rfl, rfl⟩
  case round =>
    obtain ⟨k, hk, rfl, rfl⟩ := hrel
    by_cases hlt : k < r.length
    · obtain ⟨x, hx⟩ := get_some hlt
      obtain ⟨b, o, rfl, hc1⟩ := hr.at_ hx
      have hx32 := Hl.out.get hx
      have Hx := Lib.hid hx
      clear hx
      have hval := val_lt (Hl.out.take k)
      have hlen : (r.take k).length = k := by rw [List.length_take]; omega
      rw [hlen] at hval
      have Hst := Lib.hid (small_step k x (val (r.take k)) (by omega) hx32 hval)
      have hsn : val (r.take (k + 1)) = val (r.take k) + 4294967296 ^ k * x := by rw [take_snoc Hx.out, val_snoc, hlen]
      have Hsn := Lib.hid hsn
      clear hsn hval hlen
      go_wp2_with fail
      go_round
      case rel => exact ⟨k + 1, by omega, by go_num, by rw [Hst.out, Hsn.out]⟩
      case measure => simp [intOf]; omega
    · go_wp2_with fail
      go_ret2
      have e : val (r.take k) = n := by rw [take_all r (by omega)]; exact Hv.out
      exact ⟨by rw [e]; rfl, hbel⟩
end Go.Proofs.YtmajcjdhhnhmmaaDoor
