import Derived.Test.YtmajcjdhhnhmmaaDoorCmp
/- nat.by, nat.up: what each returns. Conditions: numbers below 2^32; rows of at most a hundred thousand limbs. -/
namespace Go.Proofs.YtmajcjdhhnhmmaaDoor
open Go.RowKit Go.Num
attribute [local go_sem] u64_mask

set_option maxHeartbeats 2000000 in
set_option maxRecDepth 100000 in
theorem by_any (w : World) (v : Value) (l : List Nat) (x m : Nat) (h : Arg encU w v l) (hl : Lim l) (hb : l.length ≤ 1000000) (hx : x < 4294967296) (hm : m < 4294967296) :
    Calls Tryd.prog 80 #[v, .int .u64 x, .int .u64 m] w fun e w' => ∃ v' r, e = .returned v' ∧ Gives 52 encU w w' v' r ∧ Lim r ∧ r.length = l.length + 1 ∧ val r = x * val l + m := by
  obtain ⟨i0, hi, hz0, hz1, hz2⟩ := info_parts infoU
  obtain ⟨A, c, rfl, hc, hr⟩ := h.open_
  have Hl := Lib.hid hl
  clear hl h
  go_enter Tryd.func80, Tryd.ntmps80
  go_wp2
  go_loopw [2, 7, 9, 12] (fun mo out _ i wr => ∃ (k M : Nat) (r : List Nat), k ≤ l.length ∧ i = .int .i64 k ∧ mo = .int .u64 M ∧ M < 4294967296 ∧ r.length = k ∧
      Hid (Lim r ∧ val r + 4294967296 ^ k * M = m + x * val (l.take k)) ∧ Own 52 w.heap.size wr out r ∧ Below w.heap.size w wr) (fun _ _ _ i _ => l.length - (intOf i).toNat)
  case atStart => exact ⟨0, m, [], Nat.zero_le _, rfl, rfl, hm, rfl, ⟨Lim.nil, by simp⟩, Own.nil_ _ _ _, Below.refl _ _⟩
  case round =>
    obtain ⟨k, M, r, hk, rfl, rfl, hM, hlen, HI, hown, hbel⟩ := hrel
    have Hlen := Lib.hid hlen
    clear hlen
    by_cases hlt : k < l.length
    · obtain ⟨y, hy⟩ := get_some hlt
      obtain ⟨b, o, rfl, hc0⟩ := hr.at_ hy
      have hc1 := (hbel.cell (World.block_lt_of_cell? w _ hc0)).trans hc0
      have hy32 := Hl.out.get hy
      have Hy := Lib.hid hy
      clear hy hc0
      obtain ⟨S, hS⟩ : ∃ S : Nat, S = M + x * y := ⟨_, rfl⟩
      have hSb : S / 4294967296 < 4294967296 := by
        have : x * y ≤ 4294967295 * 4294967295 := Nat.mul_le_mul (by omega) (by omega)
        omega
      have HS := Lib.hid hS
      have hSi : (M : Int) + (x : Int) * (y : Int) = (S : Int) := by rw [hS]; simp
      have hxy : x * y ≤ S := by omega
      clear hS
      go_wp2_with (at_builtin; refine wpList_append_own _ rfl _ _ 22 rfl w.heap.size 52 i0 (.int .u32 0) 1 4 Tryd.underlying22 hi hz0 hz1 hz2 rfl (by decide) _ _ _ rfl (World.ownsRow.alloc hown.row _) ⟨wr.heap.size, 0, none⟩ 1 1 [.int .u32 ((S : Int) % 4294967296)] rfl rfl (cell_one_new _ _ _) (by simp [Value.oneCell']) ?c3 ?c4 ?c5 ?_)
      case c3 => have := Hlen.out; unfold maxLen; omega
      case c4 => have := Hlen.out; omega
      case c5 => have := hbel.size; simp; omega
      intro v' w1 h1 hg1 _
      have hlt : k < l.length := by assumption
      obtain ⟨hown1, hb1⟩ := hown.pushed hbel h1 hg1 (d := S % 4294967296) (by simp)
      clear h1 hg1 hown hbel hc1 hr
      go_wp2
      go_roundw
      case rel =>
        refine ⟨k + 1, S / 4294967296, r ++ [S % 4294967296], by omega, by go_num, by simp, hSb, by simp [Hlen.out], ?_, hown1, hb1⟩
        refine ⟨HI.out.1.snoc (Nat.mod_lt _ (by decide)), ?_⟩
        have e := HI.out.2
        rw [val_snoc, Hlen.out, take_snoc Hy.out, val_snoc, List.length_take, Nat.min_eq_left (by omega), pow_succ']
        exact by_step e (by have := HS.out; omega)
      case measure => simp [intOf]; omega
    · go_wp2_with (at_builtin; refine wpList_append_own _ rfl _ _ 22 rfl w.heap.size 52 i0 (.int .u32 0) 1 4 Tryd.underlying22 hi hz0 hz1 hz2 rfl (by decide) _ _ _ rfl (World.ownsRow.alloc hown.row _) ⟨wr.heap.size, 0, none⟩ 1 1 [.int .u32 (M : Int)] rfl rfl (cell_one_new _ _ _) (by simp [Value.oneCell']) ?d3 ?d4 ?d5 ?_)
      case d3 => have := Hlen.out; unfold maxLen; omega
      case d4 => have := Hlen.out; omega
      case d5 => have := hbel.size; simp; omega
      intro v' w1 h1 hg1 _
      obtain ⟨hown1, hb1⟩ := hown.pushed hbel h1 hg1 (d := M) rfl
      clear h1 hg1 hown hbel hr
      go_wp2
      go_ret
      have e := HI.out.2
      refine ⟨_, _, rfl, hown1.gives hb1, HI.out.1.snoc hM, by simp [Hlen.out]; omega, ?_⟩
      rw [val_snoc, Hlen.out, e, take_all l (by omega)]
      omega
end Go.Proofs.YtmajcjdhhnhmmaaDoor
