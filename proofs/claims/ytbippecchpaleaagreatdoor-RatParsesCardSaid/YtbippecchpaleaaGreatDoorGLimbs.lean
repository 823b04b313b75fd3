import Derived.Test.YtbippecchpaleaaGreatDoorGNat
import Derived.LoopIn
import Derived.Deep.RegionHeld
import Derived.Deep.LoopGhost
import Derived.Test.YtbippecchpaleaaGreatDoorGBox
import Derived.BigRegion
import Derived.RegionTactic
import Derived.BigQuiet
/- litmusref01.trim, at: what each returns. -/
namespace Go.Proofs.YtbippecchpaleaaGreatDoor
open Go.RowKit Go.Num
attribute [local go_sem] Oper.semAt_some

theorem infoB : (Tryz.prog.info? 4).map (fun i => (i.zero, i.size, i.bytes)) = some (some (.bool false), 1, 1) := by kernel_rfl
def lenOf (v : Value) : Nat := match v with | .slice _ n _ => n | _ => 0

/-- The slice v lies in no block below B. -/
def Far (B : Nat) (v : Value) : Prop := ∀ a n c, v = .slice (some a) n c → B ≤ a.block
theorem Far.same {B : Nat} {A : Option Addr} {n c m d : Nat} (h : Far B (.slice A n c)) : Far B (.slice A m d) := fun a _ _ e => by
  cases e
  exact h a n c rfl
theorem Far.nil_ (B n c : Nat) : Far B (.slice none n c) := fun _ _ _ e => by cases e
theorem Far.mono {B B' : Nat} {v : Value} (h : Far B v) (hb : B' ≤ B) : Far B' v := fun a n c e => Nat.le_trans hb (h a n c e)
theorem Arg.setFar {α : Type} {enc : α → Value} {w : World} {v : Value} {l : List α} {B g j : Nat} {u : Value} (h : Arg enc w v l) (hf : Far B v) (hg : g < B) : Arg enc (w.setCell ⟨g, j, none⟩ u) v l := by
  obtain ⟨A, c, rfl, hc, hr⟩ := h
  refine ⟨A, c, rfl, hc, fun h0 => ?_⟩
  obtain ⟨b, o, rfl, hx⟩ := hr h0
  refine ⟨b, o, rfl, fun i x hi => ?_⟩
  have hb : B ≤ b := hf ⟨b, o, none⟩ l.length c rfl
  rw [World.cell?_setCell_far _ _ _ _ (by show g ≠ b; omega)]
  exact hx i x hi

set_option maxHeartbeats 1000000 in
theorem rtrim_far (w : World) (v : Value) (l : List Bool) (h : Arg encB w v l) (hb : l.length ≤ 100000000) :
    Calls Tryz.prog 122 #[v] w fun e w' => ∃ v', e = .returned v' ∧ w' = w ∧ Arg encB w v' (btz l) ∧ (∀ B, Far B v → Far B v') := by
  obtain ⟨A, c, rfl, hc, hr⟩ := h.open_
  clear h
  have fin : ∀ k, k ≤ l.length → Hid (∀ i x, k ≤ i → l[i]? = some x → x = false) → (∀ x, 0 < k → l[k - 1]? = some x → x = true) → l.take k = btz l := fun k hk Hz hx => btake_tz hk Hz.out hx
  have Hfin := Lib.hid fin
  clear fin
  go_enter Tryz.func122, Tryz.ntmps122
  go_wp2
  go_loop [0] (fun s => ∃ k : Nat, k ≤ l.length ∧ s = .slice A k c ∧ Hid (∀ i x, k ≤ i → l[i]? = some x → x = false)) (fun s => lenOf s)
  case atStart => exact ⟨l.length, Nat.le_refl _, rfl, fun i x hi hx => by have := len_of_get hx; omega⟩
  case round =>
    obtain ⟨k, hk, rfl, Hz⟩ := hrel
    rcases Nat.eq_zero_or_pos k with h0 | h0
    · subst h0
      go_wp2_with fail
      go_ret
      exact ⟨_, rfl, rfl, Arg.mk_ (by rw [← Hfin.out 0 (by omega) Hz (fun x h => by omega)]; simp) (by omega) (by rw [← Hfin.out 0 (by omega) Hz (fun x h => by omega)]; exact hr.take 0), fun B hB => hB.same⟩
    · obtain ⟨x, hx⟩ := get_some (l := l) (k := k - 1) (by omega)
      obtain ⟨b, o, rfl, hc1⟩ := hr.at_ hx
      have Hx := Lib.hid hx
      clear hx
      cases x with
      | false =>
        go_wp2_with fail
        go_round
        case rel =>
          refine ⟨k - 1, by omega, by go_num, fun i y hi hy => ?_⟩
          by_cases e : i = k - 1
          · rw [e, Hx.out] at hy; simpa using hy.symm
          · exact Hz.out i y (by omega) hy
        case measure => simp [lenOf]; omega
      | true =>
        go_wp2_with fail
        go_ret
        have e := Hfin.out k hk Hz (fun y _ hy => by rw [Hx.out] at hy; cases hy; rfl)
        exact ⟨_, rfl, rfl, Arg.mk_ (by rw [← e, List.length_take]; omega) (by omega) (by rw [← e]; exact hr.take k), fun B hB => hB.same⟩

theorem rtrim_any (w : World) (v : Value) (l : List Bool) (h : Arg encB w v l) (hb : l.length ≤ 100000000) :
    Calls Tryz.prog 122 #[v] w fun e w' => ∃ v', e = .returned v' ∧ w' = w ∧ Arg encB w v' (btz l) :=
  (rtrim_far w v l h hb).mono fun _ _ ⟨v', h1, h2, h3, _⟩ => ⟨v', h1, h2, h3⟩

set_option maxHeartbeats 1000000 in
theorem at_any (w : World) (v : Value) (l : List Bool) (i : Nat) (h : Arg encB w v l) (_hb : l.length ≤ 100000000) :
    Calls Tryz.prog 134 #[v, .int .i64 i] w fun e w' => e = .returned (.bool (l[i]?.getD false)) ∧ w' = w := by
  obtain ⟨A, c, rfl, hc, hr⟩ := h.open_
  by_cases hi : i < l.length
  · obtain ⟨x, hx⟩ := get_some hi
    obtain ⟨b, o, rfl, hc1⟩ := hr.at_ hx
    rw [hx]
    clear hr h hx
    go_enter Tryz.func134, Tryz.ntmps134
    go_wp2_with fail
    go_ret
    exact ⟨rfl, rfl⟩
  · rw [List.getElem?_eq_none (by omega)]
    clear hr h
    go_enter Tryz.func134, Tryz.ntmps134
    go_wp2_with fail
    go_ret
    exact ⟨rfl, rfl⟩

/-- A row of bits that a call builds by append. -/
def OwnB (e : TypeId) (base : Nat) (w : World) (v : Value) (l : List Bool) : Prop := w.ownsRow base e 1 v l.length (l.map encB)
theorem OwnB.arg {e : TypeId} {base : Nat} {w : World} {v : Value} {l : List Bool} (h : OwnB e base w v l) : Arg encB w v l := ownsRow_arg h
theorem OwnB.far {e : TypeId} {base : Nat} {w : World} {v : Value} {l : List Bool} (h : OwnB e base w v l) : Far base v := fun a n c ev => by
  subst ev
  exact (World.ownsRow.lt h a.block (by rcases h.2 with ⟨e0, _⟩ | ⟨g, cap, cur, e0, _⟩ <;> cases e0; rfl)).1
theorem OwnB.nil_ (e : TypeId) (base : Nat) (w : World) : OwnB e base w (.slice none 0 0) [] := World.ownsRow_nil _ _ _ _
theorem OwnB.row {e : TypeId} {base : Nat} {w : World} {v : Value} {l : List Bool} (h : OwnB e base w v l) : w.ownsRow base e 1 v l.length (l.map encB) := h
theorem OwnB.pushed {e : TypeId} {w wr w' : World} {v v' : Value} {r : List Bool} {o : Obj} {u : Value} {d : Bool} (h : OwnB e w.heap.size wr v r) (hb : Below w.heap.size w wr)
    (h' : w'.ownsRow w.heap.size e 1 v' (r.length + 1) (r.map encB ++ [u])) (hg : (wr.alloc o).grownBy w' v.ownBlock) (hu : u = encB d) : OwnB e w.heap.size w' v' (r ++ [d]) ∧ Below w.heap.size w w' := by
  subst hu
  refine ⟨?_, (hb.alloc hb.size o).grown hg (Nat.le_trans hb.size (by simp)) (fun k hk => (World.ownsRow.lt h k hk).1)⟩
  unfold OwnB
  rw [List.length_append, List.map_append]
  exact h'
end Go.Proofs.YtbippecchpaleaaGreatDoor
/- litmusref01.Bits, Limbs: what each returns. -/
namespace Go.Proofs.YtbippecchpaleaaGreatDoor
open Go.RowKit Go.Num
attribute [local go_sem] Oper.semAt_some u64_mask

theorem bits_one_u32 (n : Nat) : Go.bits .and .u32 (n : Int) 1 = ((n % 2 : Nat) : Int) := by
  show IntKind.u32.wrap ((BitVec.ofInt 32 n &&& BitVec.ofInt 32 1).toNat : Int) = _
  have h1 : (BitVec.ofInt 32 (n : Int) &&& BitVec.ofInt 32 1).toNat = (BitVec.ofInt 32 n).toNat % 2 := by
    rw [BitVec.toNat_and]
    have : (BitVec.ofInt 32 1).toNat = 2 ^ 1 - 1 := by decide
    rw [this, Nat.and_two_pow_sub_one_eq_mod]
  rw [h1, BitVec.toNat_ofInt, IntKind.wrap_u32]
  omega
theorem u32_bit (y q : Nat) : Value.bool (Go.bits .and .u32 ((y : Int) / 2 ^ q) 1 == 1) = encB (y / 2 ^ q % 2 == 1) := by
  have e : ((y : Int) / 2 ^ q) = ((y / 2 ^ q : Nat) : Int) := by simp
  rw [e, bits_one_u32]
  congr 1
  rw [Bool.eq_iff_iff]; simp; omega
theorem bit_toNat (n : Nat) : (n % 2 == 1).toNat = n % 2 := by
  rcases Nat.mod_two_eq_zero_or_one n with h | h <;> simp [h]
theorem bits_step {r : List Bool} {V y q n : Nat} (h : bval r = V + 2 ^ n * (y % 2 ^ q)) (hn : r.length = n + q) : bval (r ++ [y / 2 ^ q % 2 == 1]) = V + 2 ^ n * (y % 2 ^ (q + 1)) := by
  rw [bval_snoc, h, hn, bit_toNat, Nat.pow_add, Nat.mul_assoc, Nat.add_assoc, ← Nat.mul_add, Nat.pow_succ, Nat.mod_mul]

set_option maxHeartbeats 2000000 in
set_option maxRecDepth 100000 in
theorem bits_any (w : World) (v : Value) (l : List Nat) (h : Arg encU w v l) (hl : Lim l) (hb : l.length ≤ 1000000) :
    Calls Tryz.prog 96 #[v] w fun e w' => ∃ v', e = .returned v' ∧ Arg encB w' v' (Num.bits (val l)) ∧ Below w.heap.size w w' := by
  obtain ⟨i0, hi, hz0, hz1, hz2⟩ := info_parts infoB
  obtain ⟨A, c, rfl, hc, hr⟩ := h.open_
  have Hl := Lib.hid hl
  clear hl h
  go_enter Tryz.func96, Tryz.ntmps96
  go_wp2
  go_loopw [3, 4] (fun out i wr => ∃ (k : Nat) (r : List Bool), k ≤ l.length ∧ i = .int .i64 k ∧ r.length = 32 * k ∧
      Hid (bval r = val (l.take k)) ∧ OwnB 4 w.heap.size wr out r ∧ Below w.heap.size w wr) (fun _ i _ => l.length - (intOf i).toNat)
  case atStart => exact ⟨0, [], Nat.zero_le _, rfl, rfl, by simp [Hid], OwnB.nil_ _ _ _, Below.refl _ _⟩
  case round =>
    obtain ⟨k, r, hk, rfl, hlen, HI, hown, hbel⟩ := hrel
    by_cases hlt : k < l.length
    · obtain ⟨y, hy⟩ := get_some hlt
      obtain ⟨b, o, rfl, hc0⟩ := hr.at_ hy
      have hy32 := Hl.out.get hy
      have Hy := Lib.hid hy
      clear hy
      go_wp2_with fail
      go_loopw [3, 5] (fun out j wr => ∃ (q : Nat) (r' : List Bool), q ≤ 32 ∧ j = .int .i64 q ∧ r'.length = 32 * k + q ∧
        Hid (bval r' = val (l.take k) + 2 ^ (32 * k) * (y % 2 ^ q)) ∧ OwnB 4 w.heap.size wr out r' ∧ Below w.heap.size w wr) (fun _ j _ => 32 - (intOf j).toNat)
      case atStart => exact ⟨0, r, Nat.zero_le _, rfl, by omega, by rw [Hid, HI.out, Nat.pow_zero, Nat.mod_one]; rfl, hown, hbel⟩
      case round =>
        obtain ⟨q, r', hq, rfl, hlen', HI', hown', hbel'⟩ := hrel
        have hc1 := (hbel'.cell (World.block_lt_of_cell? w _ hc0)).trans hc0
        have Hlen' := Lib.hid hlen'
        clear hlen'
        by_cases hq32 : q < 32
        · go_wp2_with (at_builtin; refine wpList_append_own _ rfl _ _ 93 rfl w.heap.size 4 i0 (.bool false) 1 1 Tryz.underlying93 hi hz0 hz1 hz2 rfl (by decide) _ _ _ rfl (World.ownsRow.alloc hown'.row _) ⟨wr.heap.size, 0, none⟩ 1 1 [.bool (Go.bits .and .u32 ((y : Int) / 2 ^ q) 1 == 1)] rfl rfl (cell_one_new _ _ _) (by simp [Value.oneCell']) ?c3 ?c4 ?c5 ?_)
          case c3 => have := Hlen'.out; unfold maxLen; omega
          case c4 => have := Hlen'.out; omega
          case c5 => have := hbel'.size; simp; omega
          intro v' w1 h1 hg1 _
          have hq32 : q < 32 := by assumption
          obtain ⟨hown1, hb1⟩ := hown'.pushed hbel' h1 hg1 (d := y / 2 ^ q % 2 == 1) (by rw [u32_bit])
          clear h1 hg1 hown' hbel' hc1 hown hbel
          go_wp2
          go_roundw
          case rel =>
            refine ⟨q + 1, r' ++ [y / 2 ^ q % 2 == 1], by omega, by go_num, by simp [Hlen'.out]; omega, ?_, hown1, hb1⟩
            exact bits_step HI'.out Hlen'.out
          case measure => simp [intOf]; omega
        · have hq0 : q = 32 := by omega
          subst hq0
          clear hown hbel
          go_wp2_with fail
          go_roundw
          case rel =>
            refine ⟨k + 1, r', by omega, by go_num, by have := Hlen'.out; omega, ?_, hown', hbel'⟩
            have e := HI'.out
            rw [Nat.mod_eq_of_lt (by simpa using hy32)] at e
            show bval r' = _
            rw [e, take_snoc Hy.out, val_snoc, List.length_take, Nat.min_eq_left (by omega), Nat.pow_mul]
          case measure => simp [intOf]; omega
    · have h1 := hown.arg
      have e : bval r = val l := by have := HI.out; rwa [take_all l (by omega)] at this
      have He := Lib.hid e
      clear e HI
      go_wp2_with fail
      refine (rtrim_any _ _ _ h1 (by omega)).mono ?_
      rintro e w1 ⟨v1, rfl, rfl, h2⟩
      go_wp2_with fail
      go_ret
      refine ⟨_, rfl, ?_, hbel⟩
      rw [← He.out, bits_bval]
      exact h2
end Go.Proofs.YtbippecchpaleaaGreatDoor
/- litmusref01.Limbs: what it returns. -/
namespace Go.Proofs.YtbippecchpaleaaGreatDoor
open Go.RowKit Go.Num
attribute [local go_sem] Oper.semAt_some

theorem u32_or_pow (s q : Nat) (hs : s < 2 ^ q) (hq : q < 32) : Go.bits .or .u32 (s : Int) ((2 ^ q : Nat) : Int) = ((s + 2 ^ q : Nat) : Int) := by
  have hp : 2 ^ q ≤ 2 ^ 31 := Nat.pow_le_pow_right (by decide) (by omega)
  have h0 : s + 2 ^ q < 4294967296 := by omega
  show IntKind.u32.wrap ((BitVec.ofInt 32 s ||| BitVec.ofInt 32 ((2 ^ q : Nat) : Int)).toNat : Int) = _
  have h1 : (BitVec.ofInt 32 (s : Int) ||| BitVec.ofInt 32 ((2 ^ q : Nat) : Int)).toNat = s + 2 ^ q := by
    rw [BitVec.toNat_or, BitVec.ofInt_natCast, BitVec.ofInt_natCast, BitVec.toNat_ofNat, BitVec.toNat_ofNat, Nat.mod_eq_of_lt (by omega), Nat.mod_eq_of_lt (by omega), Nat.or_comm]
    have := Nat.shiftLeft_add_eq_or_of_lt hs 1
    rw [Nat.shiftLeft_eq, Nat.one_mul] at this
    omega
  rw [h1, IntKind.wrap_u32]
  omega
theorem last_small {r0 : List Nat} {s i V : Nat} (h : val (r0 ++ [s]) = V) (hV : V < 2 ^ (32 * r0.length + i)) : s < 2 ^ i := by
  rw [val_snoc] at h
  have e : 4294967296 ^ r0.length = 2 ^ (32 * r0.length) := by rw [Nat.pow_mul]
  rw [e] at h
  rw [Nat.pow_add] at hV
  have h2 : 2 ^ (32 * r0.length) * s < 2 ^ (32 * r0.length) * 2 ^ i := by omega
  exact Nat.lt_of_mul_lt_mul_left h2
theorem val_set_last (r0 : List Nat) (s d : Nat) : val ((r0 ++ [s]).set r0.length (s + d)) = val (r0 ++ [s]) + 4294967296 ^ r0.length * d := by
  rw [List.set_append_right _ _ (Nat.le_refl _), Nat.sub_self]
  simp only [List.set_cons_zero]
  rw [val_snoc, val_snoc, Nat.mul_add]; omega
theorem set_last_lim {r0 : List Nat} {s d : Nat} (h : Lim (r0 ++ [s])) (hd : d < 4294967296) : Lim ((r0 ++ [s]).set r0.length d) := by
  intro x hx
  rw [List.set_append_right _ _ (Nat.le_refl _), Nat.sub_self] at hx
  simp only [List.set_cons_zero, List.mem_append, List.mem_singleton] at hx
  rcases hx with hx | hx
  · exact h x (by simp [hx])
  · rw [hx]; exact hd
theorem split_last {r : List Nat} {n : Nat} (h : r.length = n + 1) : ∃ r0 s, r = r0 ++ [s] ∧ r0.length = n := by
  refine ⟨r.take n, r[n]'(by omega), ?_, by rw [List.length_take]; omega⟩
  have e := List.take_append_getElem (by omega : n < r.length)
  rw [show n + 1 = r.length by omega, List.take_length] at e
  exact e.symm

theorem btz_btz (l : List Bool) : btz (btz l) = btz l := by rw [← bits_bval (btz l), bval_btz, bits_bval]
theorem top_limbs {r : List Nat} {m : List Bool} (hr : Lim r) (hl : r.length = (m.length + 31) / 32) (hv : val r = bval m) (hm : btz m = m) : limbs (bval m) = r := by
  rw [← hv, limbs_val hr]
  have h1 := take_tz (l := r) (n := r.length) (Nat.le_refl _) (fun i x hi hx => absurd (len_of_get hx) (by omega)) ?_
  · rw [take_all r (Nat.le_refl _)] at h1; exact h1.symm
  · intro x h0 hx hx0
    subst hx0
    obtain ⟨r0, s, e, hl0⟩ := split_last (r := r) (n := r.length - 1) (by omega)
    subst e
    rw [← hl0, List.getElem?_append_right (Nat.le_refl _), Nat.sub_self] at hx
    have hs : s = 0 := by simpa using hx
    subst hs
    rw [val_snoc, Nat.mul_zero, Nat.add_zero] at hv
    have h2 := val_lt (l := r0) (fun x hx => hr x (by simp [hx]))
    rw [hv] at h2
    have h3 : 4294967296 ^ r0.length = 2 ^ (32 * r0.length) := by rw [Nat.pow_mul]
    rw [h3] at h2
    have h4 : bval m < 2 ^ (m.length - 1) := Nat.lt_of_lt_of_le h2 (Nat.pow_le_pow_right (by decide) (by omega))
    have h5 := (bits_length_le (bval m) (m.length - 1)).2 h4
    rw [bits_bval, hm] at h5
    simp at hl h0
    omega

set_option maxHeartbeats 2000000 in
set_option maxRecDepth 100000 in
theorem rlimbs_any (w : World) (v : Value) (l : List Bool) (h : Arg encB w v l) (hb : l.length ≤ 30000000) :
    Calls Tryz.prog 95 #[v] w fun e w' => ∃ v', e = .returned v' ∧ Arg encU w' v' (limbs (bval l)) ∧ Below w.heap.size w w' := by
  obtain ⟨i0, hi, hz0, hz1, hz2⟩ := info_parts infoU
  go_enter Tryz.func95, Tryz.ntmps95
  go_wp2_with fail
  refine (rtrim_any _ _ _ h (by omega)).mono ?_
  rintro e w1 ⟨v1, rfl, rfl, h2⟩
  obtain ⟨m, hm⟩ : ∃ m, m = btz l := ⟨_, rfl⟩
  rw [← hm] at h2
  have hmb : m.length ≤ 30000000 := by rw [hm]; exact Nat.le_trans (btz_length_le l) hb
  have Hm := Lib.hid hm
  clear hm hb h
  obtain ⟨A, c, rfl, hc, hr⟩ := h2.open_
  clear h2
  go_wp2
  go_loopw [3, 4] (fun out i wr => ∃ (k : Nat) (r : List Nat), k ≤ m.length ∧ i = .int .i64 k ∧ Hid (r.length = (k + 31) / 32 ∧ val r = bval (m.take k) ∧ Lim r) ∧ Num.Own 43 w1.heap.size wr out r ∧ Below w1.heap.size w1 wr) (fun _ i _ => m.length - (intOf i).toNat)
  case atStart => exact ⟨0, [], Nat.zero_le _, rfl, ⟨rfl, rfl, Lim.nil⟩, Num.Own.nil_ _ _ _, Below.refl _ _⟩
  case round =>
    obtain ⟨k, r, hk, rfl, HI, hown, hbel⟩ := hrel
    by_cases hlt : k < m.length
    · obtain ⟨x, hx⟩ := get_some hlt
      obtain ⟨b, o, rfl, hc0⟩ := hr.at_ hx
      have Hx := Lib.hid hx
      clear hx
      obtain ⟨j, q, hkj, hq⟩ : ∃ j q, k = 32 * j + q ∧ q < 32 := ⟨k / 32, k % 32, by omega, by omega⟩
      have hd : (k : Int) / 32 = (j : Int) := by omega
      have hm0 : (k : Int) % 32 = (q : Int) := by omega
      have HK := Lib.hid hkj
      clear hkj
      by_cases hq0 : q = 0
      · subst hq0
        have Hlen : Hid (r.length = j) := by have := HI.out.1; have := HK.out; show r.length = j; omega
        go_wp2_with (at_builtin; refine wpList_append_own _ rfl _ _ 22 rfl w1.heap.size 43 i0 (.int .u32 0) 1 4 Tryz.underlying22 hi hz0 hz1 hz2 rfl (by decide) _ _ _ rfl (World.ownsRow.alloc hown.row _) ⟨wr.heap.size, 0, none⟩ 1 1 [.int .u32 0] rfl rfl (cell_one_new _ _ _) (by simp [Value.oneCell']) ?c3 ?c4 ?c5 ?_)
        case c3 => have := Hlen.out; have := HK.out; unfold maxLen; omega
        case c4 => have := Hlen.out; have := HK.out; omega
        case c5 => have := hbel.size; simp; omega
        intro v' w2 h1 hg1 _
        have hlt : k < m.length := by assumption
        have hq : 0 < 32 := by decide
        obtain ⟨hT, bT⟩ := hown.pushed hbel h1 hg1 (d := 0) rfl
        have hc1 := (bT.cell (World.block_lt_of_cell? w1 _ hc0)).trans hc0
        have HT : Hid ((r ++ [0]).length = j + 1 ∧ val (r ++ [0]) = bval (m.take k) ∧ Lim (r ++ [0])) := ⟨by simp [Hlen.out], by rw [val_snoc, HI.out.2.1]; simp, HI.out.2.2.snoc (by decide)⟩
        clear h1 hg1 hown hbel
        cases x with
        | false =>
          go_wp2_with fail
          go_roundw
          case rel =>
            refine ⟨k + 1, (r ++ [0]), by omega, by go_num, ?_, hT, bT⟩
            obtain ⟨t1, t2, t3⟩ := HT.out
            exact ⟨by have := HK.out; omega, by rw [take_snoc Hx.out, bval_snoc, t2]; simp, t3⟩
          case measure => simp [intOf]; omega
        | true =>
          obtain ⟨r0, s, hr0, hl0⟩ := split_last HT.out.1
          have hTr := hT.row
          have hlen1 : ((r ++ [0])).length = j + 1 := HT.out.1
          rw [hlen1] at hTr
          obtain ⟨g, cap, rfl⟩ := ownsRow_succ hTr
          have hin : Inp 43 encU w1.heap.size w2 g (j + 1) cap (r0 ++ [s]) := by rw [← hr0]; exact hTr
          have hcs : w2.cell? ⟨g, j, none⟩ = some (.int .u32 s) := hin.cell (by rw [← hl0]; simp)
          have hfz := hin.free j
          have hge := hin.base_le
          have hsq : s < 2 ^ 0 := by
            refine last_small (V := bval (m.take k)) (by rw [← hr0]; exact HT.out.2.1) ?_
            rw [hl0, ← HK.out]
            refine Nat.lt_of_lt_of_le (bval_lt _) (Nat.pow_le_pow_right (by decide) ?_)
            rw [List.length_take]; omega
          have hor := u32_or_pow s 0 hsq hq
          obtain ⟨p, hp⟩ : ∃ p, p = 2 ^ 0 := ⟨_, rfl⟩
          have hpi : IntKind.u32.wrap (2 ^ 0) = (p : Int) := by
            have hp31 : 2 ^ 0 ≤ 2 ^ 31 := Nat.pow_le_pow_right (by decide) (by omega)
            have e : ((2 : Int) ^ 0) = (p : Int) := by rw [hp]; simp
            rw [e, IntKind.wrap_u32]; omega
          rw [← hp] at hor
          have hp1 : p = 1 := hp; rw [hp1, Int.natCast_one] at hor
          have HP := Lib.hid hp
          have HSQ := Lib.hid (show s < 2 ^ 0 ∧ 2 * 2 ^ 0 ≤ 4294967296 from ⟨hsq, by have : 2 ^ 0 ≤ 2 ^ 31 := Nat.pow_le_pow_right (by decide) (by omega); omega⟩)
          have HR0 := Lib.hid (And.intro hr0 hl0)
          have hj : (j : Int) < (j : Int) + 1 := by omega
          clear hpi hp1 hp hr0 hl0 hTr hsq
          go_wp2_with fail
          go_region
          all_goals (go_wp2_with fail; go_roundw)
          all_goals first
            | (simp [intOf]; omega)
            | (refine ⟨k + 1, (r0 ++ [s]).set j (s + 1), by omega, by go_num, ?_, ?_, ?_⟩
               · obtain ⟨t1, t2, t3⟩ := HT.out
                 obtain ⟨e1, e2⟩ := HR0.out
                 rw [e1] at t1 t2 t3
                 refine ⟨by rw [List.length_set, t1]; have := HK.out; omega, ?_, ?_⟩
                 · have e3 := val_set_last r0 s (1)
                   rw [e2] at e3
                   rw [e3, t2, take_snoc Hx.out, bval_snoc, List.length_take, Nat.min_eq_left (by omega)]
                   have e4 : 2 ^ k = 4294967296 ^ j * 2 ^ 0 := by rw [HK.out, Nat.pow_add, Nat.pow_mul]
                   rw [e4, Nat.pow_zero]; simp
                 · rw [← e2]
                   exact set_last_lim t3 (by have := HSQ.out; have := HP.out; omega)
               · have h9 := (hin.set j (s + 1)).drew.own
                 exact h9
               · exact (bT.setCell (p := ⟨g, j, none⟩) hge _).drew)
      · have HT : Hid (r.length = j + 1 ∧ val r = bval (m.take k) ∧ Lim r) := ⟨by have := HI.out.1; have := HK.out; omega, HI.out.2⟩
        have hT := hown
        have bT := hbel
        have hc1 := (bT.cell (World.block_lt_of_cell? w1 _ hc0)).trans hc0
        clear hown hbel
        cases x with
        | false =>
          go_wp2_with fail
          go_roundw
          case rel =>
            refine ⟨k + 1, r, by omega, by go_num, ?_, hT, bT⟩
            obtain ⟨t1, t2, t3⟩ := HT.out
            exact ⟨by have := HK.out; omega, by rw [take_snoc Hx.out, bval_snoc, t2]; simp, t3⟩
          case measure => simp [intOf]; omega
        | true =>
          obtain ⟨r0, s, hr0, hl0⟩ := split_last HT.out.1
          have hTr := hT.row
          have hlen1 : (r).length = j + 1 := HT.out.1
          rw [hlen1] at hTr
          obtain ⟨g, cap, rfl⟩ := ownsRow_succ hTr
          have hin : Inp 43 encU w1.heap.size wr g (j + 1) cap (r0 ++ [s]) := by rw [← hr0]; exact hTr
          have hcs : wr.cell? ⟨g, j, none⟩ = some (.int .u32 s) := hin.cell (by rw [← hl0]; simp)
          have hfz := hin.free j
          have hge := hin.base_le
          have hsq : s < 2 ^ q := by
            refine last_small (V := bval (m.take k)) (by rw [← hr0]; exact HT.out.2.1) ?_
            rw [hl0, ← HK.out]
            refine Nat.lt_of_lt_of_le (bval_lt _) (Nat.pow_le_pow_right (by decide) ?_)
            rw [List.length_take]; omega
          have hor := u32_or_pow s q hsq hq
          obtain ⟨p, hp⟩ : ∃ p, p = 2 ^ q := ⟨_, rfl⟩
          have hpi : IntKind.u32.wrap (2 ^ q) = (p : Int) := by
            have hp31 : 2 ^ q ≤ 2 ^ 31 := Nat.pow_le_pow_right (by decide) (by omega)
            have e : ((2 : Int) ^ q) = (p : Int) := by rw [hp]; simp
            rw [e, IntKind.wrap_u32]; omega
          rw [← hp] at hor
          have hq32 : q < 32 := hq
          have HP := Lib.hid hp
          have HSQ := Lib.hid (show s < 2 ^ q ∧ 2 * 2 ^ q ≤ 4294967296 from ⟨hsq, by have : 2 ^ q ≤ 2 ^ 31 := Nat.pow_le_pow_right (by decide) (by omega); omega⟩)
          have HR0 := Lib.hid (And.intro hr0 hl0)
          have hj : (j : Int) < (j : Int) + 1 := by omega
          clear hp hr0 hl0 hTr hsq
          go_wp2_with fail
          go_region
          all_goals (go_wp2_with fail; go_roundw)
          all_goals first
            | (simp [intOf]; omega)
            | (refine ⟨k + 1, (r0 ++ [s]).set j (s + p), by omega, by go_num, ?_, ?_, ?_⟩
               · obtain ⟨t1, t2, t3⟩ := HT.out
                 obtain ⟨e1, e2⟩ := HR0.out
                 rw [e1] at t1 t2 t3
                 refine ⟨by rw [List.length_set, t1]; have := HK.out; omega, ?_, ?_⟩
                 · have e3 := val_set_last r0 s (p)
                   rw [e2] at e3
                   rw [e3, t2, take_snoc Hx.out, bval_snoc, List.length_take, Nat.min_eq_left (by omega)]
                   have e4 : 2 ^ k = 4294967296 ^ j * 2 ^ q := by rw [HK.out, Nat.pow_add, Nat.pow_mul]
                   rw [e4, HP.out]; simp
                 · rw [← e2]
                   exact set_last_lim t3 (by have := HSQ.out; have := HP.out; omega)
               · have h9 := (hin.set j (s + p)).drew.own
                 exact h9
               · exact (bT.setCell (p := ⟨g, j, none⟩) hge _).drew)
    · have e : val r = bval m := by have := HI.out.2.1; rwa [take_all m (by omega)] at this
      have h1 := hown.arg
      go_wp2_with fail
      go_ret
      refine ⟨_, rfl, ?_, hbel⟩
      have hm1 := Hm.out
      rw [← bval_btz l, ← hm1, top_limbs HI.out.2.2 (by have := HI.out.1; omega) e (by rw [hm1, btz_btz])]
      exact h1
end Go.Proofs.YtbippecchpaleaaGreatDoor
/- litmusref01.add: what it returns. -/
namespace Go.Proofs.YtbippecchpaleaaGreatDoor
open Go.RowKit Go.Num
attribute [local go_sem] Oper.semAt_some
theorem btake_next {l : List Bool} {k : Nat} {x : Bool} (h : x = l[k]?.getD false) : bval (l.take (k + 1)) = bval (l.take k) + 2 ^ k * x.toNat := by
  by_cases hk : k < l.length
  · obtain ⟨y, hy⟩ := get_some hk
    rw [hy] at h
    have e : x = y := h
    rw [take_snoc hy, bval_snoc, List.length_take, Nat.min_eq_left (by omega), e]
  · rw [List.getElem?_eq_none (by omega)] at h
    have e : x = false := h
    rw [take_all l (by omega), take_all l (by omega), e]; simp

theorem at_is (w : World) (v : Value) (l : List Bool) (i : Nat) (x : Bool) (h : Arg encB w v l) (hb : l.length ≤ 100000000) (hx : x = l[i]?.getD false) :
    Calls Tryz.prog 134 #[v, .int .i64 i] w fun e w' => e = .returned (.bool x) ∧ w' = w := by
  subst hx
  exact at_any w v l i h hb
set_option maxHeartbeats 8000000 in
set_option maxRecDepth 100000 in
theorem radd_any (w : World) (va vb : Value) (la lb : List Bool) (hA : Arg encB w va la) (hB : Arg encB w vb lb) (hla : la.length ≤ 20000000) (hlb : lb.length ≤ 20000000) :
    Calls Tryz.prog 110 #[va, vb] w fun e w' => ∃ v' r, e = .returned v' ∧ Arg encB w' v' r ∧ Below w.heap.size w w' ∧ bval r = bval la + bval lb ∧ r.length ≤ max la.length lb.length + 1 := by
  obtain ⟨i0, hi, hz0, hz1, hz2⟩ := info_parts infoB
  obtain ⟨A1, c1, rfl, _, _⟩ := hA.open_
  obtain ⟨A2, c2, rfl, _, _⟩ := hB.open_
  go_enter Tryz.func110, Tryz.ntmps110
  go_wp2
  go_loopw [5, 6, 7] (fun out cv i wr => ∃ (k : Nat) (c : Bool) (r : List Bool), cv = .bool c ∧ i = .int .i64 k ∧ (k ≤ max la.length lb.length ∨ (k = max la.length lb.length + 1 ∧ c = false)) ∧ r.length = k ∧
      Hid (bval r + 2 ^ k * c.toNat = bval (la.take k) + bval (lb.take k)) ∧ OwnB 4 w.heap.size wr out r ∧ Below w.heap.size w wr) (fun _ _ i _ => max la.length lb.length + 1 - (intOf i).toNat)
  case atStart => exact ⟨0, false, [], rfl, rfl, .inl (Nat.zero_le _), rfl, rfl, OwnB.nil_ _ _ _, Below.refl _ _⟩
  case round =>
    obtain ⟨k, c, r, rfl, rfl, hkc, hlen, HI, hown, hbel⟩ := hrel
    have Hlen := Lib.hid hlen
    have HKC := Lib.hid hkc
    clear hlen hkc
    have hk9 : k ≤ 20000001 := by rcases HKC.out with h | h <;> omega
    by_cases h1 : k < la.length
    · have HK2 : Hid (k + 1 ≤ max la.length lb.length) := by show k + 1 ≤ max la.length lb.length; omega
      cases c with
      | false =>
        obtain ⟨x, hx⟩ : ∃ x, x = la[k]?.getD false := ⟨_, rfl⟩
        obtain ⟨y, hy⟩ : ∃ y, y = lb[k]?.getD false := ⟨_, rfl⟩
        have HX := Lib.hid hx
        have HY := Lib.hid hy
        clear hx hy
        rcases x with _ | _ <;> rcases y with _ | _
        · go_wp2_with fail
          refine (at_is _ _ la k false (hA.below hbel) (by omega) HX.out).mono ?_
          rintro e w2 ⟨rfl, hw2⟩
          subst w2
          go_wp2_with fail
          refine (at_is _ _ lb k false (hB.below hbel) (by omega) HY.out).mono ?_
          rintro e w3 ⟨rfl, hw3⟩
          subst w3
          go_wp2_with (at_builtin; refine wpList_append_own _ rfl _ _ 93 rfl w.heap.size 4 i0 (.bool false) 1 1 Tryz.underlying93 hi hz0 hz1 hz2 rfl (by decide) _ _ _ rfl (World.ownsRow.alloc hown.row _) ⟨wr.heap.size, 0, none⟩ 1 1 [.bool false] rfl rfl (cell_one_new _ _ _) (by simp [Value.oneCell']) ?c3 ?c4 ?c5 ?_)
          case c3 => have := Hlen.out; have := hk9; unfold maxLen; omega
          case c4 => have := Hlen.out; have := hk9; omega
          case c5 => have := hbel.size; simp; omega
          intro v' w1 h1 hg1 _
          obtain ⟨hown1, hb1⟩ := hown.pushed hbel h1 hg1 (d := false) rfl
          clear h1 hg1 hown hbel
          go_wp2_with fail
          go_roundw
          case rel =>
            refine ⟨k + 1, false, r ++ [false], rfl, by go_num, ?_, by simp [Hlen.out], ?_, hown1, hb1⟩
            · exact .inl HK2.out
            · have e := badd_step (d := 0) (c' := 0) (x := 0) (y := 0) HI.out (by decide)
              show bval (r ++ [false]) + 2 ^ (k + 1) * (false : Bool).toNat = bval (la.take (k + 1)) + bval (lb.take (k + 1))
              rw [btake_next HX.out, btake_next HY.out, bval_snoc, Hlen.out, Nat.pow_succ]
              exact e
          case measure => have h9 := HK2.out; simp [intOf]; omega
        · go_wp2_with fail
          refine (at_is _ _ la k false (hA.below hbel) (by omega) HX.out).mono ?_
          rintro e w2 ⟨rfl, hw2⟩
          subst w2
          go_wp2_with fail
          refine (at_is _ _ lb k true (hB.below hbel) (by omega) HY.out).mono ?_
          rintro e w3 ⟨rfl, hw3⟩
          subst w3
          go_wp2_with (at_builtin; refine wpList_append_own _ rfl _ _ 93 rfl w.heap.size 4 i0 (.bool false) 1 1 Tryz.underlying93 hi hz0 hz1 hz2 rfl (by decide) _ _ _ rfl (World.ownsRow.alloc hown.row _) ⟨wr.heap.size, 0, none⟩ 1 1 [.bool true] rfl rfl (cell_one_new _ _ _) (by simp [Value.oneCell']) ?c3 ?c4 ?c5 ?_)
          case c3 => have := Hlen.out; have := hk9; unfold maxLen; omega
          case c4 => have := Hlen.out; have := hk9; omega
          case c5 => have := hbel.size; simp; omega
          intro v' w1 h1 hg1 _
          obtain ⟨hown1, hb1⟩ := hown.pushed hbel h1 hg1 (d := true) rfl
          clear h1 hg1 hown hbel
          go_wp2_with fail
          go_roundw
          case rel =>
            refine ⟨k + 1, false, r ++ [true], rfl, by go_num, ?_, by simp [Hlen.out], ?_, hown1, hb1⟩
            · exact .inl HK2.out
            · have e := badd_step (d := 1) (c' := 0) (x := 0) (y := 1) HI.out (by decide)
              show bval (r ++ [true]) + 2 ^ (k + 1) * (false : Bool).toNat = bval (la.take (k + 1)) + bval (lb.take (k + 1))
              rw [btake_next HX.out, btake_next HY.out, bval_snoc, Hlen.out, Nat.pow_succ]
              exact e
          case measure => have h9 := HK2.out; simp [intOf]; omega
        · go_wp2_with fail
          refine (at_is _ _ la k true (hA.below hbel) (by omega) HX.out).mono ?_
          rintro e w2 ⟨rfl, hw2⟩
          subst w2
          go_wp2_with fail
          refine (at_is _ _ lb k false (hB.below hbel) (by omega) HY.out).mono ?_
          rintro e w3 ⟨rfl, hw3⟩
          subst w3
          go_wp2_with (at_builtin; refine wpList_append_own _ rfl _ _ 93 rfl w.heap.size 4 i0 (.bool false) 1 1 Tryz.underlying93 hi hz0 hz1 hz2 rfl (by decide) _ _ _ rfl (World.ownsRow.alloc hown.row _) ⟨wr.heap.size, 0, none⟩ 1 1 [.bool true] rfl rfl (cell_one_new _ _ _) (by simp [Value.oneCell']) ?c3 ?c4 ?c5 ?_)
          case c3 => have := Hlen.out; have := hk9; unfold maxLen; omega
          case c4 => have := Hlen.out; have := hk9; omega
          case c5 => have := hbel.size; simp; omega
          intro v' w1 h1 hg1 _
          obtain ⟨hown1, hb1⟩ := hown.pushed hbel h1 hg1 (d := true) rfl
          clear h1 hg1 hown hbel
          go_wp2_with fail
          go_roundw
          case rel =>
            refine ⟨k + 1, false, r ++ [true], rfl, by go_num, ?_, by simp [Hlen.out], ?_, hown1, hb1⟩
            · exact .inl HK2.out
            · have e := badd_step (d := 1) (c' := 0) (x := 1) (y := 0) HI.out (by decide)
              show bval (r ++ [true]) + 2 ^ (k + 1) * (false : Bool).toNat = bval (la.take (k + 1)) + bval (lb.take (k + 1))
              rw [btake_next HX.out, btake_next HY.out, bval_snoc, Hlen.out, Nat.pow_succ]
              exact e
          case measure => have h9 := HK2.out; simp [intOf]; omega
        · go_wp2_with fail
          refine (at_is _ _ la k true (hA.below hbel) (by omega) HX.out).mono ?_
          rintro e w2 ⟨rfl, hw2⟩
          subst w2
          go_wp2_with fail
          refine (at_is _ _ lb k true (hB.below hbel) (by omega) HY.out).mono ?_
          rintro e w3 ⟨rfl, hw3⟩
          subst w3
          go_wp2_with (at_builtin; refine wpList_append_own _ rfl _ _ 93 rfl w.heap.size 4 i0 (.bool false) 1 1 Tryz.underlying93 hi hz0 hz1 hz2 rfl (by decide) _ _ _ rfl (World.ownsRow.alloc hown.row _) ⟨wr.heap.size, 0, none⟩ 1 1 [.bool false] rfl rfl (cell_one_new _ _ _) (by simp [Value.oneCell']) ?c3 ?c4 ?c5 ?_)
          case c3 => have := Hlen.out; have := hk9; unfold maxLen; omega
          case c4 => have := Hlen.out; have := hk9; omega
          case c5 => have := hbel.size; simp; omega
          intro v' w1 h1 hg1 _
          obtain ⟨hown1, hb1⟩ := hown.pushed hbel h1 hg1 (d := false) rfl
          clear h1 hg1 hown hbel
          go_wp2_with fail
          go_roundw
          case rel =>
            refine ⟨k + 1, true, r ++ [false], rfl, by go_num, ?_, by simp [Hlen.out], ?_, hown1, hb1⟩
            · exact .inl HK2.out
            · have e := badd_step (d := 0) (c' := 1) (x := 1) (y := 1) HI.out (by decide)
              show bval (r ++ [false]) + 2 ^ (k + 1) * (true : Bool).toNat = bval (la.take (k + 1)) + bval (lb.take (k + 1))
              rw [btake_next HX.out, btake_next HY.out, bval_snoc, Hlen.out, Nat.pow_succ]
              exact e
          case measure => have h9 := HK2.out; simp [intOf]; omega
      | true =>
        obtain ⟨x, hx⟩ : ∃ x, x = la[k]?.getD false := ⟨_, rfl⟩
        obtain ⟨y, hy⟩ : ∃ y, y = lb[k]?.getD false := ⟨_, rfl⟩
        have HX := Lib.hid hx
        have HY := Lib.hid hy
        clear hx hy
        rcases x with _ | _ <;> rcases y with _ | _
        · go_wp2_with fail
          refine (at_is _ _ la k false (hA.below hbel) (by omega) HX.out).mono ?_
          rintro e w2 ⟨rfl, hw2⟩
          subst w2
          go_wp2_with fail
          refine (at_is _ _ lb k false (hB.below hbel) (by omega) HY.out).mono ?_
          rintro e w3 ⟨rfl, hw3⟩
          subst w3
          go_wp2_with (at_builtin; refine wpList_append_own _ rfl _ _ 93 rfl w.heap.size 4 i0 (.bool false) 1 1 Tryz.underlying93 hi hz0 hz1 hz2 rfl (by decide) _ _ _ rfl (World.ownsRow.alloc hown.row _) ⟨wr.heap.size, 0, none⟩ 1 1 [.bool true] rfl rfl (cell_one_new _ _ _) (by simp [Value.oneCell']) ?c3 ?c4 ?c5 ?_)
          case c3 => have := Hlen.out; have := hk9; unfold maxLen; omega
          case c4 => have := Hlen.out; have := hk9; omega
          case c5 => have := hbel.size; simp; omega
          intro v' w1 h1 hg1 _
          obtain ⟨hown1, hb1⟩ := hown.pushed hbel h1 hg1 (d := true) rfl
          clear h1 hg1 hown hbel
          go_wp2_with fail
          go_roundw
          case rel =>
            refine ⟨k + 1, false, r ++ [true], rfl, by go_num, ?_, by simp [Hlen.out], ?_, hown1, hb1⟩
            · exact .inl HK2.out
            · have e := badd_step (d := 1) (c' := 0) (x := 0) (y := 0) HI.out (by decide)
              show bval (r ++ [true]) + 2 ^ (k + 1) * (false : Bool).toNat = bval (la.take (k + 1)) + bval (lb.take (k + 1))
              rw [btake_next HX.out, btake_next HY.out, bval_snoc, Hlen.out, Nat.pow_succ]
              exact e
          case measure => have h9 := HK2.out; simp [intOf]; omega
        · go_wp2_with fail
          refine (at_is _ _ la k false (hA.below hbel) (by omega) HX.out).mono ?_
          rintro e w2 ⟨rfl, hw2⟩
          subst w2
          go_wp2_with fail
          refine (at_is _ _ lb k true (hB.below hbel) (by omega) HY.out).mono ?_
          rintro e w3 ⟨rfl, hw3⟩
          subst w3
          go_wp2_with (at_builtin; refine wpList_append_own _ rfl _ _ 93 rfl w.heap.size 4 i0 (.bool false) 1 1 Tryz.underlying93 hi hz0 hz1 hz2 rfl (by decide) _ _ _ rfl (World.ownsRow.alloc hown.row _) ⟨wr.heap.size, 0, none⟩ 1 1 [.bool false] rfl rfl (cell_one_new _ _ _) (by simp [Value.oneCell']) ?c3 ?c4 ?c5 ?_)
          case c3 => have := Hlen.out; have := hk9; unfold maxLen; omega
          case c4 => have := Hlen.out; have := hk9; omega
          case c5 => have := hbel.size; simp; omega
          intro v' w1 h1 hg1 _
          obtain ⟨hown1, hb1⟩ := hown.pushed hbel h1 hg1 (d := false) rfl
          clear h1 hg1 hown hbel
          go_wp2_with fail
          go_roundw
          case rel =>
            refine ⟨k + 1, true, r ++ [false], rfl, by go_num, ?_, by simp [Hlen.out], ?_, hown1, hb1⟩
            · exact .inl HK2.out
            · have e := badd_step (d := 0) (c' := 1) (x := 0) (y := 1) HI.out (by decide)
              show bval (r ++ [false]) + 2 ^ (k + 1) * (true : Bool).toNat = bval (la.take (k + 1)) + bval (lb.take (k + 1))
              rw [btake_next HX.out, btake_next HY.out, bval_snoc, Hlen.out, Nat.pow_succ]
              exact e
          case measure => have h9 := HK2.out; simp [intOf]; omega
        · go_wp2_with fail
          refine (at_is _ _ la k true (hA.below hbel) (by omega) HX.out).mono ?_
          rintro e w2 ⟨rfl, hw2⟩
          subst w2
          go_wp2_with fail
          refine (at_is _ _ lb k false (hB.below hbel) (by omega) HY.out).mono ?_
          rintro e w3 ⟨rfl, hw3⟩
          subst w3
          go_wp2_with (at_builtin; refine wpList_append_own _ rfl _ _ 93 rfl w.heap.size 4 i0 (.bool false) 1 1 Tryz.underlying93 hi hz0 hz1 hz2 rfl (by decide) _ _ _ rfl (World.ownsRow.alloc hown.row _) ⟨wr.heap.size, 0, none⟩ 1 1 [.bool false] rfl rfl (cell_one_new _ _ _) (by simp [Value.oneCell']) ?c3 ?c4 ?c5 ?_)
          case c3 => have := Hlen.out; have := hk9; unfold maxLen; omega
          case c4 => have := Hlen.out; have := hk9; omega
          case c5 => have := hbel.size; simp; omega
          intro v' w1 h1 hg1 _
          obtain ⟨hown1, hb1⟩ := hown.pushed hbel h1 hg1 (d := false) rfl
          clear h1 hg1 hown hbel
          go_wp2_with fail
          go_roundw
          case rel =>
            refine ⟨k + 1, true, r ++ [false], rfl, by go_num, ?_, by simp [Hlen.out], ?_, hown1, hb1⟩
            · exact .inl HK2.out
            · have e := badd_step (d := 0) (c' := 1) (x := 1) (y := 0) HI.out (by decide)
              show bval (r ++ [false]) + 2 ^ (k + 1) * (true : Bool).toNat = bval (la.take (k + 1)) + bval (lb.take (k + 1))
              rw [btake_next HX.out, btake_next HY.out, bval_snoc, Hlen.out, Nat.pow_succ]
              exact e
          case measure => have h9 := HK2.out; simp [intOf]; omega
        · go_wp2_with fail
          refine (at_is _ _ la k true (hA.below hbel) (by omega) HX.out).mono ?_
          rintro e w2 ⟨rfl, hw2⟩
          subst w2
          go_wp2_with fail
          refine (at_is _ _ lb k true (hB.below hbel) (by omega) HY.out).mono ?_
          rintro e w3 ⟨rfl, hw3⟩
          subst w3
          go_wp2_with (at_builtin; refine wpList_append_own _ rfl _ _ 93 rfl w.heap.size 4 i0 (.bool false) 1 1 Tryz.underlying93 hi hz0 hz1 hz2 rfl (by decide) _ _ _ rfl (World.ownsRow.alloc hown.row _) ⟨wr.heap.size, 0, none⟩ 1 1 [.bool true] rfl rfl (cell_one_new _ _ _) (by simp [Value.oneCell']) ?c3 ?c4 ?c5 ?_)
          case c3 => have := Hlen.out; have := hk9; unfold maxLen; omega
          case c4 => have := Hlen.out; have := hk9; omega
          case c5 => have := hbel.size; simp; omega
          intro v' w1 h1 hg1 _
          obtain ⟨hown1, hb1⟩ := hown.pushed hbel h1 hg1 (d := true) rfl
          clear h1 hg1 hown hbel
          go_wp2_with fail
          go_roundw
          case rel =>
            refine ⟨k + 1, true, r ++ [true], rfl, by go_num, ?_, by simp [Hlen.out], ?_, hown1, hb1⟩
            · exact .inl HK2.out
            · have e := badd_step (d := 1) (c' := 1) (x := 1) (y := 1) HI.out (by decide)
              show bval (r ++ [true]) + 2 ^ (k + 1) * (true : Bool).toNat = bval (la.take (k + 1)) + bval (lb.take (k + 1))
              rw [btake_next HX.out, btake_next HY.out, bval_snoc, Hlen.out, Nat.pow_succ]
              exact e
          case measure => have h9 := HK2.out; simp [intOf]; omega
    · by_cases h2 : k < lb.length
      · have HK2 : Hid (k + 1 ≤ max la.length lb.length) := by show k + 1 ≤ max la.length lb.length; omega
        cases c with
        | false =>
          obtain ⟨x, hx⟩ : ∃ x, x = la[k]?.getD false := ⟨_, rfl⟩
          obtain ⟨y, hy⟩ : ∃ y, y = lb[k]?.getD false := ⟨_, rfl⟩
          have HX := Lib.hid hx
          have HY := Lib.hid hy
          clear hx hy
          rcases x with _ | _ <;> rcases y with _ | _
          · go_wp2_with fail
            refine (at_is _ _ la k false (hA.below hbel) (by omega) HX.out).mono ?_
            rintro e w2 ⟨rfl, hw2⟩
            subst w2
            go_wp2_with fail
            refine (at_is _ _ lb k false (hB.below hbel) (by omega) HY.out).mono ?_
            rintro e w3 ⟨rfl, hw3⟩
            subst w3
            go_wp2_with (at_builtin; refine wpList_append_own _ rfl _ _ 93 rfl w.heap.size 4 i0 (.bool false) 1 1 Tryz.underlying93 hi hz0 hz1 hz2 rfl (by decide) _ _ _ rfl (World.ownsRow.alloc hown.row _) ⟨wr.heap.size, 0, none⟩ 1 1 [.bool false] rfl rfl (cell_one_new _ _ _) (by simp [Value.oneCell']) ?c3 ?c4 ?c5 ?_)
            case c3 => have := Hlen.out; have := hk9; unfold maxLen; omega
            case c4 => have := Hlen.out; have := hk9; omega
            case c5 => have := hbel.size; simp; omega
            intro v' w1 h1 hg1 _
            obtain ⟨hown1, hb1⟩ := hown.pushed hbel h1 hg1 (d := false) rfl
            clear h1 hg1 hown hbel
            go_wp2_with fail
            go_roundw
            case rel =>
              refine ⟨k + 1, false, r ++ [false], rfl, by go_num, ?_, by simp [Hlen.out], ?_, hown1, hb1⟩
              · exact .inl HK2.out
              · have e := badd_step (d := 0) (c' := 0) (x := 0) (y := 0) HI.out (by decide)
                show bval (r ++ [false]) + 2 ^ (k + 1) * (false : Bool).toNat = bval (la.take (k + 1)) + bval (lb.take (k + 1))
                rw [btake_next HX.out, btake_next HY.out, bval_snoc, Hlen.out, Nat.pow_succ]
                exact e
            case measure => have h9 := HK2.out; simp [intOf]; omega
          · go_wp2_with fail
            refine (at_is _ _ la k false (hA.below hbel) (by omega) HX.out).mono ?_
            rintro e w2 ⟨rfl, hw2⟩
            subst w2
            go_wp2_with fail
            refine (at_is _ _ lb k true (hB.below hbel) (by omega) HY.out).mono ?_
            rintro e w3 ⟨rfl, hw3⟩
            subst w3
            go_wp2_with (at_builtin; refine wpList_append_own _ rfl _ _ 93 rfl w.heap.size 4 i0 (.bool false) 1 1 Tryz.underlying93 hi hz0 hz1 hz2 rfl (by decide) _ _ _ rfl (World.ownsRow.alloc hown.row _) ⟨wr.heap.size, 0, none⟩ 1 1 [.bool true] rfl rfl (cell_one_new _ _ _) (by simp [Value.oneCell']) ?c3 ?c4 ?c5 ?_)
            case c3 => have := Hlen.out; have := hk9; unfold maxLen; omega
            case c4 => have := Hlen.out; have := hk9; omega
            case c5 => have := hbel.size; simp; omega
            intro v' w1 h1 hg1 _
            obtain ⟨hown1, hb1⟩ := hown.pushed hbel h1 hg1 (d := true) rfl
            clear h1 hg1 hown hbel
            go_wp2_with fail
            go_roundw
            case rel =>
              refine ⟨k + 1, false, r ++ [true], rfl, by go_num, ?_, by simp [Hlen.out], ?_, hown1, hb1⟩
              · exact .inl HK2.out
              · have e := badd_step (d := 1) (c' := 0) (x := 0) (y := 1) HI.out (by decide)
                show bval (r ++ [true]) + 2 ^ (k + 1) * (false : Bool).toNat = bval (la.take (k + 1)) + bval (lb.take (k + 1))
                rw [btake_next HX.out, btake_next HY.out, bval_snoc, Hlen.out, Nat.pow_succ]
                exact e
            case measure => have h9 := HK2.out; simp [intOf]; omega
          · go_wp2_with fail
            refine (at_is _ _ la k true (hA.below hbel) (by omega) HX.out).mono ?_
            rintro e w2 ⟨rfl, hw2⟩
            subst w2
            go_wp2_with fail
            refine (at_is _ _ lb k false (hB.below hbel) (by omega) HY.out).mono ?_
            rintro e w3 ⟨rfl, hw3⟩
            subst w3
            go_wp2_with (at_builtin; refine wpList_append_own _ rfl _ _ 93 rfl w.heap.size 4 i0 (.bool false) 1 1 Tryz.underlying93 hi hz0 hz1 hz2 rfl (by decide) _ _ _ rfl (World.ownsRow.alloc hown.row _) ⟨wr.heap.size, 0, none⟩ 1 1 [.bool true] rfl rfl (cell_one_new _ _ _) (by simp [Value.oneCell']) ?c3 ?c4 ?c5 ?_)
            case c3 => have := Hlen.out; have := hk9; unfold maxLen; omega
            case c4 => have := Hlen.out; have := hk9; omega
            case c5 => have := hbel.size; simp; omega
            intro v' w1 h1 hg1 _
            obtain ⟨hown1, hb1⟩ := hown.pushed hbel h1 hg1 (d := true) rfl
            clear h1 hg1 hown hbel
            go_wp2_with fail
            go_roundw
            case rel =>
              refine ⟨k + 1, false, r ++ [true], rfl, by go_num, ?_, by simp [Hlen.out], ?_, hown1, hb1⟩
              · exact .inl HK2.out
              · have e := badd_step (d := 1) (c' := 0) (x := 1) (y := 0) HI.out (by decide)
                show bval (r ++ [true]) + 2 ^ (k + 1) * (false : Bool).toNat = bval (la.take (k + 1)) + bval (lb.take (k + 1))
                rw [btake_next HX.out, btake_next HY.out, bval_snoc, Hlen.out, Nat.pow_succ]
                exact e
            case measure => have h9 := HK2.out; simp [intOf]; omega
          · go_wp2_with fail
            refine (at_is _ _ la k true (hA.below hbel) (by omega) HX.out).mono ?_
            rintro e w2 ⟨rfl, hw2⟩
            subst w2
            go_wp2_with fail
            refine (at_is _ _ lb k true (hB.below hbel) (by omega) HY.out).mono ?_
            rintro e w3 ⟨rfl, hw3⟩
            subst w3
            go_wp2_with (at_builtin; refine wpList_append_own _ rfl _ _ 93 rfl w.heap.size 4 i0 (.bool false) 1 1 Tryz.underlying93 hi hz0 hz1 hz2 rfl (by decide) _ _ _ rfl (World.ownsRow.alloc hown.row _) ⟨wr.heap.size, 0, none⟩ 1 1 [.bool false] rfl rfl (cell_one_new _ _ _) (by simp [Value.oneCell']) ?c3 ?c4 ?c5 ?_)
            case c3 => have := Hlen.out; have := hk9; unfold maxLen; omega
            case c4 => have := Hlen.out; have := hk9; omega
            case c5 => have := hbel.size; simp; omega
            intro v' w1 h1 hg1 _
            obtain ⟨hown1, hb1⟩ := hown.pushed hbel h1 hg1 (d := false) rfl
            clear h1 hg1 hown hbel
            go_wp2_with fail
            go_roundw
            case rel =>
              refine ⟨k + 1, true, r ++ [false], rfl, by go_num, ?_, by simp [Hlen.out], ?_, hown1, hb1⟩
              · exact .inl HK2.out
              · have e := badd_step (d := 0) (c' := 1) (x := 1) (y := 1) HI.out (by decide)
                show bval (r ++ [false]) + 2 ^ (k + 1) * (true : Bool).toNat = bval (la.take (k + 1)) + bval (lb.take (k + 1))
                rw [btake_next HX.out, btake_next HY.out, bval_snoc, Hlen.out, Nat.pow_succ]
                exact e
            case measure => have h9 := HK2.out; simp [intOf]; omega
        | true =>
          obtain ⟨x, hx⟩ : ∃ x, x = la[k]?.getD false := ⟨_, rfl⟩
          obtain ⟨y, hy⟩ : ∃ y, y = lb[k]?.getD false := ⟨_, rfl⟩
          have HX := Lib.hid hx
          have HY := Lib.hid hy
          clear hx hy
          rcases x with _ | _ <;> rcases y with _ | _
          · go_wp2_with fail
            refine (at_is _ _ la k false (hA.below hbel) (by omega) HX.out).mono ?_
            rintro e w2 ⟨rfl, hw2⟩
            subst w2
            go_wp2_with fail
            refine (at_is _ _ lb k false (hB.below hbel) (by omega) HY.out).mono ?_
            rintro e w3 ⟨rfl, hw3⟩
            subst w3
            go_wp2_with (at_builtin; refine wpList_append_own _ rfl _ _ 93 rfl w.heap.size 4 i0 (.bool false) 1 1 Tryz.underlying93 hi hz0 hz1 hz2 rfl (by decide) _ _ _ rfl (World.ownsRow.alloc hown.row _) ⟨wr.heap.size, 0, none⟩ 1 1 [.bool true] rfl rfl (cell_one_new _ _ _) (by simp [Value.oneCell']) ?c3 ?c4 ?c5 ?_)
            case c3 => have := Hlen.out; have := hk9; unfold maxLen; omega
            case c4 => have := Hlen.out; have := hk9; omega
            case c5 => have := hbel.size; simp; omega
            intro v' w1 h1 hg1 _
            obtain ⟨hown1, hb1⟩ := hown.pushed hbel h1 hg1 (d := true) rfl
            clear h1 hg1 hown hbel
            go_wp2_with fail
            go_roundw
            case rel =>
              refine ⟨k + 1, false, r ++ [true], rfl, by go_num, ?_, by simp [Hlen.out], ?_, hown1, hb1⟩
              · exact .inl HK2.out
              · have e := badd_step (d := 1) (c' := 0) (x := 0) (y := 0) HI.out (by decide)
                show bval (r ++ [true]) + 2 ^ (k + 1) * (false : Bool).toNat = bval (la.take (k + 1)) + bval (lb.take (k + 1))
                rw [btake_next HX.out, btake_next HY.out, bval_snoc, Hlen.out, Nat.pow_succ]
                exact e
            case measure => have h9 := HK2.out; simp [intOf]; omega
          · go_wp2_with fail
            refine (at_is _ _ la k false (hA.below hbel) (by omega) HX.out).mono ?_
            rintro e w2 ⟨rfl, hw2⟩
            subst w2
            go_wp2_with fail
            refine (at_is _ _ lb k true (hB.below hbel) (by omega) HY.out).mono ?_
            rintro e w3 ⟨rfl, hw3⟩
            subst w3
            go_wp2_with (at_builtin; refine wpList_append_own _ rfl _ _ 93 rfl w.heap.size 4 i0 (.bool false) 1 1 Tryz.underlying93 hi hz0 hz1 hz2 rfl (by decide) _ _ _ rfl (World.ownsRow.alloc hown.row _) ⟨wr.heap.size, 0, none⟩ 1 1 [.bool false] rfl rfl (cell_one_new _ _ _) (by simp [Value.oneCell']) ?c3 ?c4 ?c5 ?_)
            case c3 => have := Hlen.out; have := hk9; unfold maxLen; omega
            case c4 => have := Hlen.out; have := hk9; omega
            case c5 => have := hbel.size; simp; omega
            intro v' w1 h1 hg1 _
            obtain ⟨hown1, hb1⟩ := hown.pushed hbel h1 hg1 (d := false) rfl
            clear h1 hg1 hown hbel
            go_wp2_with fail
            go_roundw
            case rel =>
              refine ⟨k + 1, true, r ++ [false], rfl, by go_num, ?_, by simp [Hlen.out], ?_, hown1, hb1⟩
              · exact .inl HK2.out
              · have e := badd_step (d := 0) (c' := 1) (x := 0) (y := 1) HI.out (by decide)
                show bval (r ++ [false]) + 2 ^ (k + 1) * (true : Bool).toNat = bval (la.take (k + 1)) + bval (lb.take (k + 1))
                rw [btake_next HX.out, btake_next HY.out, bval_snoc, Hlen.out, Nat.pow_succ]
                exact e
            case measure => have h9 := HK2.out; simp [intOf]; omega
          · go_wp2_with fail
            refine (at_is _ _ la k true (hA.below hbel) (by omega) HX.out).mono ?_
            rintro e w2 ⟨rfl, hw2⟩
            subst w2
            go_wp2_with fail
            refine (at_is _ _ lb k false (hB.below hbel) (by omega) HY.out).mono ?_
            rintro e w3 ⟨rfl, hw3⟩
            subst w3
            go_wp2_with (at_builtin; refine wpList_append_own _ rfl _ _ 93 rfl w.heap.size 4 i0 (.bool false) 1 1 Tryz.underlying93 hi hz0 hz1 hz2 rfl (by decide) _ _ _ rfl (World.ownsRow.alloc hown.row _) ⟨wr.heap.size, 0, none⟩ 1 1 [.bool false] rfl rfl (cell_one_new _ _ _) (by simp [Value.oneCell']) ?c3 ?c4 ?c5 ?_)
            case c3 => have := Hlen.out; have := hk9; unfold maxLen; omega
            case c4 => have := Hlen.out; have := hk9; omega
            case c5 => have := hbel.size; simp; omega
            intro v' w1 h1 hg1 _
            obtain ⟨hown1, hb1⟩ := hown.pushed hbel h1 hg1 (d := false) rfl
            clear h1 hg1 hown hbel
            go_wp2_with fail
            go_roundw
            case rel =>
              refine ⟨k + 1, true, r ++ [false], rfl, by go_num, ?_, by simp [Hlen.out], ?_, hown1, hb1⟩
              · exact .inl HK2.out
              · have e := badd_step (d := 0) (c' := 1) (x := 1) (y := 0) HI.out (by decide)
                show bval (r ++ [false]) + 2 ^ (k + 1) * (true : Bool).toNat = bval (la.take (k + 1)) + bval (lb.take (k + 1))
                rw [btake_next HX.out, btake_next HY.out, bval_snoc, Hlen.out, Nat.pow_succ]
                exact e
            case measure => have h9 := HK2.out; simp [intOf]; omega
          · go_wp2_with fail
            refine (at_is _ _ la k true (hA.below hbel) (by omega) HX.out).mono ?_
            rintro e w2 ⟨rfl, hw2⟩
            subst w2
            go_wp2_with fail
            refine (at_is _ _ lb k true (hB.below hbel) (by omega) HY.out).mono ?_
            rintro e w3 ⟨rfl, hw3⟩
            subst w3
            go_wp2_with (at_builtin; refine wpList_append_own _ rfl _ _ 93 rfl w.heap.size 4 i0 (.bool false) 1 1 Tryz.underlying93 hi hz0 hz1 hz2 rfl (by decide) _ _ _ rfl (World.ownsRow.alloc hown.row _) ⟨wr.heap.size, 0, none⟩ 1 1 [.bool true] rfl rfl (cell_one_new _ _ _) (by simp [Value.oneCell']) ?c3 ?c4 ?c5 ?_)
            case c3 => have := Hlen.out; have := hk9; unfold maxLen; omega
            case c4 => have := Hlen.out; have := hk9; omega
            case c5 => have := hbel.size; simp; omega
            intro v' w1 h1 hg1 _
            obtain ⟨hown1, hb1⟩ := hown.pushed hbel h1 hg1 (d := true) rfl
            clear h1 hg1 hown hbel
            go_wp2_with fail
            go_roundw
            case rel =>
              refine ⟨k + 1, true, r ++ [true], rfl, by go_num, ?_, by simp [Hlen.out], ?_, hown1, hb1⟩
              · exact .inl HK2.out
              · have e := badd_step (d := 1) (c' := 1) (x := 1) (y := 1) HI.out (by decide)
                show bval (r ++ [true]) + 2 ^ (k + 1) * (true : Bool).toNat = bval (la.take (k + 1)) + bval (lb.take (k + 1))
                rw [btake_next HX.out, btake_next HY.out, bval_snoc, Hlen.out, Nat.pow_succ]
                exact e
            case measure => have h9 := HK2.out; simp [intOf]; omega
      · cases c with
        | false =>
          have e := HI.out
          rw [take_all la (by omega), take_all lb (by omega)] at e
          have HE := Lib.hid e
          clear e HI
          go_wp2_with fail
          go_ret
          exact ⟨_, rfl, r, hown.arg, hbel, by have := HE.out; simpa using this, by rw [Hlen.out]; rcases HKC.out with h | h <;> omega⟩
        | true =>
          have HK2 : Hid (k = max la.length lb.length) := by
            show k = max la.length lb.length
            rcases HKC.out with h | h
            · omega
            · exact absurd h.2 (by decide)
          obtain ⟨x, hx⟩ : ∃ x, x = la[k]?.getD false := ⟨_, rfl⟩
          obtain ⟨y, hy⟩ : ∃ y, y = lb[k]?.getD false := ⟨_, rfl⟩
          have HX := Lib.hid hx
          have HY := Lib.hid hy
          clear hx hy
          have hx0 : x = false := by rw [HX.out, List.getElem?_eq_none (by omega)]; rfl
          have hy0 : y = false := by rw [HY.out, List.getElem?_eq_none (by omega)]; rfl
          subst hx0
          subst hy0
          go_wp2_with fail
          refine (at_is _ _ la k false (hA.below hbel) (by omega) HX.out).mono ?_
          rintro e w2 ⟨rfl, hw2⟩
          subst w2
          go_wp2_with fail
          refine (at_is _ _ lb k false (hB.below hbel) (by omega) HY.out).mono ?_
          rintro e w3 ⟨rfl, hw3⟩
          subst w3
          go_wp2_with (at_builtin; refine wpList_append_own _ rfl _ _ 93 rfl w.heap.size 4 i0 (.bool false) 1 1 Tryz.underlying93 hi hz0 hz1 hz2 rfl (by decide) _ _ _ rfl (World.ownsRow.alloc hown.row _) ⟨wr.heap.size, 0, none⟩ 1 1 [.bool true] rfl rfl (cell_one_new _ _ _) (by simp [Value.oneCell']) ?c3 ?c4 ?c5 ?_)
          case c3 => have := Hlen.out; have := hk9; unfold maxLen; omega
          case c4 => have := Hlen.out; have := hk9; omega
          case c5 => have := hbel.size; simp; omega
          intro v' w1 h1 hg1 _
          obtain ⟨hown1, hb1⟩ := hown.pushed hbel h1 hg1 (d := true) rfl
          clear h1 hg1 hown hbel
          go_wp2_with fail
          go_roundw
          case rel =>
            refine ⟨k + 1, false, r ++ [true], rfl, by go_num, ?_, by simp [Hlen.out], ?_, hown1, hb1⟩
            · exact .inr ⟨congrArg (· + 1) HK2.out, rfl⟩
            · have e := badd_step (d := 1) (c' := 0) (x := 0) (y := 0) HI.out (by decide)
              show bval (r ++ [true]) + 2 ^ (k + 1) * (false : Bool).toNat = bval (la.take (k + 1)) + bval (lb.take (k + 1))
              rw [btake_next HX.out, btake_next HY.out, bval_snoc, Hlen.out, Nat.pow_succ]
              exact e
          case measure => have h9 := HK2.out; simp [intOf]; omega
end Go.Proofs.YtbippecchpaleaaGreatDoor

