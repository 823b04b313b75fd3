import Derived.Test.YtdmghakmhfhpiaaDoorRefBits
import Derived.Deep.LoopGhost
/- litmusref01.Bits, Limbs: what each returns. -/
namespace Go.Proofs.YtdmghakmhfhpiaaDoor
open Go.RowKit Go.Num
attribute [local go_sem] Oper.semAt_some u64_mask

theorem bits_one_u32 (n : Nat) : Go.bits .and .u32 (n : Int) 1 = ((n % 2 : Nat) : Int) := by
  show IntKind.u32.wrap ((BitVec.ofInt 32 n &&& BitVec.ofInt 32 1).toNat : Int) = _
  have h1 : (BitVec.ofInt 32 (n : Int) &&& BitVec.ofInt 32 1).toNat = (BitVec.ofInt 32 n).toNat % 2 := by
    rw [BitVec.toNat_and]
    have : (BitVec.ofInt 32 1).toNat = 2 ^ 1 - 1 := by decide
    rw [this, Nat.and_two_pow_sub_one_eq_mod]
  rw [h1, BitVec.toNat_ofInt, IntKind.wrap_u32]
  omega
theorem u32_bit (y q : Nat) : Value.bool (Go.bits .and .u32 ((y : Int) / 2 ^ q) 1 == 1) = encB (y / 2 ^ q % 2 == 1) := by
  have e : ((y : Int) / 2 ^ q) = ((y / 2 ^ q : Nat) : Int) := by simp
  rw [e, bits_one_u32]
  congr 1
  rw [Bool.eq_iff_iff]; simp; omega
theorem bit_toNat (n : Nat) : (n % 2 == 1).toNat = n % 2 := by
  rcases Nat.mod_two_eq_zero_or_one n with h | h <;> simp [h]
theorem bits_step {r : List Bool} {V y q n : Nat} (h : bval r = V + 2 ^ n * (y % 2 ^ q)) (hn : r.length = n + q) : bval (r ++ [y / 2 ^ q % 2 == 1]) = V + 2 ^ n * (y % 2 ^ (q + 1)) := by
  rw [bval_snoc, h, hn, bit_toNat, Nat.pow_add, Nat.mul_assoc, Nat.add_assoc, ← Nat.mul_add, Nat.pow_succ, Nat.mod_mul]

set_option maxHeartbeats 2000000 in
set_option maxRecDepth 100000 in
theorem bits_any (w : World) (v : Value) (l : List Nat) (h : Arg encU w v l) (hl : Lim l) (hb : l.length ≤ 1000000) :
    Calls Tryd.prog 39 #[v] w fun e w' => ∃ v', e = .returned v' ∧ Arg encB w' v' (Num.bits (val l)) ∧ Below w.heap.size w w' := by
  obtain ⟨i0, hi, hz0, hz1, hz2⟩ := info_parts infoB
  obtain ⟨A, c, rfl, hc, hr⟩ := h.open_
  have Hl := Lib.hid hl
  clear hl h
  go_enter Tryd.func39, Tryd.ntmps39
  go_wp2
  go_loopw [3, 4] (fun out i wr => ∃ (k : Nat) (r : List Bool), k ≤ l.length ∧ i = .int .i64 k ∧ r.length = 32 * k ∧
      Hid (bval r = val (l.take k)) ∧ OwnB 4 w.heap.size wr out r ∧ Below w.heap.size w wr) (fun _ i _ => l.length - (intOf i).toNat)
  case atStart => exact ⟨0, [], Nat.zero_le _, rfl, rfl, by simp [Hid], OwnB.nil_ _ _ _, Below.refl _ _⟩
  case round =>
    obtain ⟨k, r, hk, rfl, hlen, HI, hown, hbel⟩ := hrel
    by_cases hlt : k < l.length
    · obtain ⟨y, hy⟩ := get_some hlt
      obtain ⟨b, o, rfl, hc0⟩ := hr.at_ hy
      have hy32 := Hl.out.get hy
      have Hy := Lib.hid hy
      clear hy
      go_wp2_with fail
      go_loopw [3, 5] (fun out j wr => ∃ (q : Nat) (r' : List Bool), q ≤ 32 ∧ j = .int .i64 q ∧ r'.length = 32 * k + q ∧
        Hid (bval r' = val (l.take k) + 2 ^ (32 * k) * (y % 2 ^ q)) ∧ OwnB 4 w.heap.size wr out r' ∧ Below w.heap.size w wr) (fun _ j _ => 32 - (intOf j).toNat)
      case atStart => exact ⟨0, r, Nat.zero_le _, rfl, by omega, by rw [Hid, HI.out, Nat.pow_zero, Nat.mod_one]; rfl, hown, hbel⟩
      case round =>
        obtain ⟨q, r', hq, rfl, hlen', HI', hown', hbel'⟩ := hrel
        have hc1 := (hbel'.cell (World.block_lt_of_cell? w _ hc0)).trans hc0
        have Hlen' := Lib.hid hlen'
        clear hlen'
        by_cases hq32 : q < 32
        · go_wp2_with (at_builtin; refine wpList_append_own _ rfl _ _ 48 rfl w.heap.size 4 i0 (.bool false) 1 1 Tryd.underlying48 hi hz0 hz1 hz2 rfl (by decide) _ _ _ rfl (World.ownsRow.alloc hown'.row _) ⟨wr.heap.size, 0, none⟩ 1 1 [.bool (Go.bits .and .u32 ((y : Int) / 2 ^ q) 1 == 1)] rfl rfl (cell_one_new _ _ _) (by simp [Value.oneCell']) ?c3 ?c4 ?c5 ?_)
          case c3 => have := Hlen'.out; unfold maxLen; omega
          case c4 => have := Hlen'.out; omega
          case c5 => have := hbel'.size; simp; omega
          intro v' w1 h1 hg1 _
          have hq32 : q < 32 := by assumption
          obtain ⟨hown1, hb1⟩ := hown'.pushed hbel' h1 hg1 (d := y / 2 ^ q % 2 == 1) (by rw [u32_bit])
          clear h1 hg1 hown' hbel' hc1 hown hbel
          go_wp2
          go_roundw
          case rel =>
            refine ⟨q + 1, r' ++ [y / 2 ^ q % 2 == 1], by omega, by go_num, by simp [Hlen'.out]; omega, ?_, hown1, hb1⟩
            exact bits_step HI'.out Hlen'.out
          case measure => simp [intOf]; omega
        · have hq0 : q = 32 := by omega
          subst hq0
          clear hown hbel
          go_wp2_with fail
          go_roundw
          case rel =>
            refine ⟨k + 1, r', by omega, by go_num, by have := Hlen'.out; omega, ?_, hown', hbel'⟩
            have e := HI'.out
            rw [Nat.mod_eq_of_lt (by simpa using hy32)] at e
            show bval r' = _
            rw [e, take_snoc Hy.out, val_snoc, List.length_take, Nat.min_eq_left (by omega), Nat.pow_mul]
          case measure => simp [intOf]; omega
    · have h1 := hown.arg
      have e : bval r = val l := by have := HI.out; rwa [take_all l (by omega)] at this
      have He := Lib.hid e
      clear e HI
      go_wp2_with fail
      refine (rtrim_any _ _ _ h1 (by omega)).mono ?_
      rintro e w1 ⟨v1, rfl, rfl, h2⟩
      go_wp2_with fail
      go_ret
      refine ⟨_, rfl, ?_, hbel⟩
      rw [← He.out, bits_bval]
      exact h2
end Go.Proofs.YtdmghakmhfhpiaaDoor
