import Derived.Test.YtbippecchpaleaaGreatDoorProg
import Derived.Test.YtbippecchpaleaaGreatDoorGNum
/- slices.Clone of limbs, nat.Trim, nat.From: what each returns. Conditions: the argument reads as a row of at most a million limbs. -/
namespace Go.Proofs.YtbippecchpaleaaGreatDoor
open Go.RowKit Go.Num

theorem infoU : (Tryz.prog.info? 43).map (fun i => (i.zero, i.size, i.bytes)) = some (some (.int .u32 0), 1, 4) := by kernel_rfl

set_option maxHeartbeats 1000000 in
theorem clone_some (w : World) (a : Addr) (n c : Nat) (l : List Nat) (hn : n = l.length) (hb : n ≤ 1000000) (hc : ∀ j x, l[j]? = some x → w.cell? (a.add j) = some (encU x)) :
    Calls Tryz.prog 115 #[.slice (some a) n c] w fun e w' => ∃ v', e = .returned v' ∧ Gives 43 encU w w' v' l := by
  obtain ⟨i0, hi, hz0, hz1, hz2⟩ := info_parts infoU
  have q : ∀ (w : World) (a : Option Addr) (n c n' c' : Nat), (binOp .eql 22 (.slice a n c) (.slice none n' c')).run Tryz.prog w = .ok (.bool a.isNone) w := fun w a n c n' c' => Lib.run_eql_slice_nil w _ _ a n c n' c' Tryz.underlying22
  have H := Lib.hid hc
  have Hn := Lib.hid hn
  clear hc hn
  go_enter Tryz.func115, Tryz.ntmps115
  go_wp2_with (at_builtin; refine wpList_append_own _ rfl _ _ 22 rfl w.heap.size 43 i0 (.int .u32 0) 1 4 Tryz.underlying22 hi hz0 hz1 hz2 rfl (by decide) _ _ _ rfl (World.ownsRow_made w #[] 0 (Nat.le_refl _) (Nat.zero_le _) (by simp)) a n c (l.map encU) rfl ?qc1 ?qc2 ?qc3 ?qc4 ?qc5 ?qc6 ?_)
  case qc1 => simp [Hn.out]
  case qc2 =>
    intro j u hj
    rw [List.getElem?_map] at hj
    cases hx : l[j]? with
    | none => rw [hx] at hj; cases hj
    | some x =>
      rw [hx] at hj
      cases hj
      exact World.cell?_alloc_lt w _ _ (World.block_lt_of_cell? w _ (H.out j x hx)) ▸ H.out j x hx
  case qc3 => intro u hu; simp at hu; obtain ⟨x, _, rfl⟩ := hu; rfl
  case qc4 => unfold maxLen; omega
  case qc5 => omega
  case qc6 => simp
  intro v' w1 hown hgrow hnil
  go_wp2
  go_ret
  refine ⟨v', rfl, ?_, ?_⟩
  · rw [Hn.out] at hown; simpa using hown
  · exact ((Below.refl _ w).alloc (Nat.le_refl _) _).grown hgrow (by simp) (by intro k hk; simp [Value.ownBlock] at hk; omega)

theorem clone_none (w : World) (n c : Nat) : Calls Tryz.prog 115 #[.slice none n c] w fun e w' => e = .returned (.slice none 0 0) ∧ w' = w := by
  have q : ∀ (w : World) (a : Option Addr) (n c n' c' : Nat), (binOp .eql 22 (.slice a n c) (.slice none n' c')).run Tryz.prog w = .ok (.bool a.isNone) w := fun w a n c n' c' => Lib.run_eql_slice_nil w _ _ a n c n' c' Tryz.underlying22
  go_enter Tryz.func115, Tryz.ntmps115
  go_wp2
  go_ret
  exact ⟨rfl, rfl⟩

theorem clone_any (w : World) (v : Value) (l : List Nat) (h : Arg encU w v l) (hb : l.length ≤ 1000000) :
    Calls Tryz.prog 115 #[v] w fun e w' => ∃ v', e = .returned v' ∧ Gives 43 encU w w' v' l := by
  obtain ⟨A, c, rfl, hc, hr⟩ := h
  cases A with
  | none =>
    have h0 : l = [] := by
      rcases Nat.eq_zero_or_pos l.length with h0 | h0
      · exact List.length_eq_zero_iff.1 h0
      · obtain ⟨_, _, e, _⟩ := hr h0; cases e
    subst h0
    exact (clone_none w _ _).mono fun e w' ⟨he, hw⟩ => ⟨_, he, by subst hw; exact ⟨World.ownsRow_nil _ _ _ _, Below.refl _ _⟩⟩
  | some a =>
    refine clone_some w a _ c l rfl hb fun j x hj => ?_
    obtain ⟨b, o, e, hx⟩ := hr (by have := len_of_get hj; omega)
    cases e
    rw [Addr.add_lit]
    exact hx j x hj

set_option maxHeartbeats 1000000 in
theorem trim_any (w : World) (v : Value) (l : List Nat) (h : Arg encU w v l) (hl : Lim l) (hb : l.length ≤ 1000000) :
    Calls Tryz.prog 85 #[v] w fun e w' => ∃ v', e = .returned v' ∧ Gives 43 encU w w' v' (limbs (val l)) := by
  obtain ⟨A, c, rfl, hc, hr⟩ := h.open_
  have Hl := Lib.hid hl
  clear hl h
  have fin : ∀ k, k ≤ l.length → Hid (∀ i x, k ≤ i → l[i]? = some x → x = 0) → (∀ x, 0 < k → l[k - 1]? = some x → x ≠ 0) → limbs (val l) = l.take k := fun k hk Hz hx => by
    rw [limbs_val Hl.out]; exact (take_tz hk Hz.out hx).symm
  have Hfin := Lib.hid fin
  clear fin
  go_enter Tryz.func85, Tryz.ntmps85
  go_wp2
  go_loop [3] (fun n => ∃ k : Nat, k ≤ l.length ∧ n = .int .i64 k ∧ Hid (∀ i x, k ≤ i → l[i]? = some x → x = 0)) (fun n => (intOf n).toNat)
  case atStart => exact ⟨l.length, Nat.le_refl _, rfl, fun i x hi hx => by have := len_of_get hx; omega⟩
  case round =>
    obtain ⟨k, hk, rfl, Hz⟩ := hrel
    rcases Nat.eq_zero_or_pos k with h0 | h0
    · subst h0
      go_wp2_with (refine (clone_any _ _ (l.take 0) (Arg.nil_ _ _ _ _) (by simp)).mono ?_; rintro e w' ⟨v', rfl, hg⟩)
      go_ret
      exact ⟨_, rfl, by rw [Hfin.out 0 (by omega) Hz (fun x h => by omega)]; exact hg⟩
    · obtain ⟨x, hx⟩ := get_some (l := l) (k := k - 1) (by omega)
      obtain ⟨b, o, rfl, hc1⟩ := hr.at_ hx
      have Hx := Lib.hid hx
      clear hx
      by_cases hx0 : x = 0
      · subst hx0
        go_wp2_with fail
        go_round
        case rel =>
          refine ⟨k - 1, by omega, by go_num, fun i y hi hy => ?_⟩
          by_cases e : i = k - 1
          · rw [e, Hx.out] at hy; simpa using hy.symm
          · exact Hz.out i y (by omega) hy
        case measure => simp [intOf]; omega
      · go_wp2_with (refine (clone_any _ _ (l.take k) (Arg.mk_ (by rw [List.length_take]; omega) (by omega) (hr.take k)) (by rw [List.length_take]; omega)).mono ?_; rintro e w' ⟨v', rfl, hg⟩)
        go_ret
        exact ⟨_, rfl, by rw [Hfin.out k hk Hz (fun y _ hy => by rw [Hx.out] at hy; cases hy; exact hx0)]; exact hg⟩
end Go.Proofs.YtbippecchpaleaaGreatDoor
/- nat.From, nat.Small, nat.Cmp: what each returns. Conditions: numbers of 64 bits; rows of at most a hundred thousand limbs. -/
namespace Go.Proofs.YtbippecchpaleaaGreatDoor
open Go.RowKit Go.Num
attribute [local go_sem] u64_mask

set_option maxHeartbeats 1000000 in
theorem from_any (w : World) (n : Nat) (hn : n < 18446744073709551616) :
    Calls Tryz.prog 118 #[.int .u64 n] w fun e w' => ∃ v', e = .returned v' ∧ Gives 43 encU w w' v' (limbs n) := by
  go_enter Tryz.func118, Tryz.ntmps118
  go_wp2_with (refine (trim_any _ _ [n % 4294967296, n / 4294967296] (arg_lit w _ _ 2 _ rfl (by simp)) (Lim.cons (by omega) (Lim.one (by omega))) (by simp)).mono ?_; rintro e w' ⟨v', rfl, hg⟩)
  go_ret
  have e : val [n % 4294967296, n / 4294967296] = n := by simp; omega
  rw [e] at hg
  exact ⟨_, rfl, hg.after ((Below.refl _ w).alloc (Nat.le_refl _) _)⟩

end Go.Proofs.YtbippecchpaleaaGreatDoor
/- nat.Cmp: what it returns. Conditions: rows of at most a hundred thousand limbs. -/
namespace Go.Proofs.YtbippecchpaleaaGreatDoor
open Go.RowKit Go.Num

theorem cmpN_lt {a b : Nat} (h : a < b) : cmpN a b = -1 := by simp [cmpN, h]
theorem cmpN_gt {a b : Nat} (h : b < a) : cmpN a b = 1 := by unfold cmpN; rw [if_neg (by omega), if_pos h]
theorem cmpN_eq {a b : Nat} (h : a = b) : cmpN a b = 0 := by subst h; simp [cmpN]

set_option maxHeartbeats 2000000 in
theorem cmp_any (w : World) (va vb : Value) (la lb : List Nat) (a b : Nat) (ha : Num w va la a) (hb : Num w vb lb b) :
    Calls Tryz.prog 58 #[va, vb] w fun e w' => e = .returned (.int .i64 (cmpN a b)) ∧ Below w.heap.size w w' := by
  go_enter Tryz.func58, Tryz.ntmps58
  go_wp2_with fail
  refine (trim_any _ _ _ ha.arg ha.lim (by have := ha.len; omega)).mono ?_
  rintro e w1 ⟨v1, rfl, g1⟩
  have hb1 := hb.below g1.below
  go_wp2_with fail
  refine (trim_any _ _ _ hb1.arg hb1.lim (by have := hb1.len; omega)).mono ?_
  rintro e w2 ⟨v2, rfl, g2⟩
  have hr1 := g1.arg.below g2.below
  have hr2 := g2.arg
  have hbel : Below w.heap.size w w2 := g1.below.trans (g2.below.mono g1.below.size)
  have hl1 : (limbs (val la)).length ≤ 100000 := Nat.le_trans (limbs_val_length_le ha.lim) ha.len
  have hl2 : (limbs (val lb)).length ≤ 100000 := Nat.le_trans (limbs_val_length_le hb.lim) hb.len
  have hv1 : val (limbs (val la)) = a := by rw [val_limbs]; exact ha.val
  have hv2 : val (limbs (val lb)) = b := by rw [val_limbs]; exact hb.val
  have he1 : limbs (val la) = limbs a := by rw [ha.val]
  have he2 : limbs (val lb) = limbs b := by rw [hb.val]
  rw [he1] at hr1 hl1 hv1
  rw [he2] at hr2 hl2 hv2
  have hlim1 := limbs_lim a
  have hlim2 := limbs_lim b
  have hlt12 := @lt_of_length a b
  have hlt21 := @lt_of_length b a
  clear g1 g2 ha hb hb1 he1 he2
  generalize limbs a = r at *
  generalize limbs b = s at *
  obtain ⟨A1, c1, rfl, hc1, hr⟩ := hr1.open_
  obtain ⟨A2, c2, rfl, hc2, hs⟩ := hr2.open_
  have H := Lib.hid (And.intro hv1 (And.intro hv2 (And.intro hlim1 (And.intro hlim2 (And.intro hlt12 hlt21)))))
  clear hv1 hv2 hlim1 hlim2 hlt12 hlt21 hr1 hr2 hc1 hc2
  rcases Nat.lt_trichotomy r.length s.length with h | h | h
  · go_wp2
    go_ret
    exact ⟨by rw [cmpN_lt (H.out.2.2.2.2.1 h)]; rfl, hbel⟩
  · have Hlen := Lib.hid h
    have hn1 : ¬ r.length < s.length := by omega
    have hn2 : ¬ s.length < r.length := by omega
    clear h
    go_wp2
    go_loopw [5] (fun i wr => ∃ k n : Nat, k ≤ r.length ∧ i = .int .i64 ((k : Int) - 1) ∧ Hid (r.drop k = s.drop k) ∧ wr = w2.drewN n) (fun i _ => (intOf i + 1).toNat)
    case atStart => exact ⟨r.length, 0, Nat.le_refl _, rfl, by show r.drop r.length = s.drop r.length; rw [List.drop_length, Hlen.out, List.drop_length], rfl⟩
    case round =>
      obtain ⟨k, n, hk, rfl, Hd, rfl⟩ := hrel
      rcases Nat.eq_zero_or_pos k with h0 | h0
      · subst h0
        go_wp2_with fail
        go_ret
        have e : a = b := by rw [← H.out.1, ← H.out.2.1]; have := Hd.out; simp at this; rw [this]
        exact ⟨by rw [cmpN_eq e]; rfl, below_drewN hbel _⟩
      · obtain ⟨x, hx⟩ := get_some (l := r) (k := k - 1) (by omega)
        obtain ⟨y, hy⟩ := get_some (l := s) (k := k - 1) (by have := Hlen.out; omega)
        obtain ⟨b1, o1, rfl, hcx⟩ := hr.at_ hx
        obtain ⟨b2, o2, rfl, hcy⟩ := hs.at_ hy
        have Hx := Lib.hid hx
        have Hy := Lib.hid hy
        clear hx hy
        have hk1 : (0 : Int) ≤ (k : Int) - 1 := by omega
        have hk2 : (k : Int) - 1 < (r.length : Int) := by omega
        have hk3 : (k : Int) - 1 < (s.length : Int) := by have := Hlen.out; omega
        have Hdk : k - 1 + 1 = k := by omega
        rcases Nat.lt_trichotomy x y with hxy | hxy | hxy
        · go_wp2_with fail
          go_quiet (fail)
          go_wp2_with fail
          go_ret
          have e : a < b := by
            rw [← H.out.1, ← H.out.2.1]
            exact lt_of_top H.out.2.2.1 Hx.out Hy.out (by rw [Hdk]; exact Hd.out) hxy
          exact ⟨by rw [cmpN_lt e]; rfl, below_drewN (below_drewN hbel _) _⟩
        · subst hxy
          go_wp2_with fail
          go_quiet (fail)
          go_wp2_with fail
          go_quiet (fail)
          go_wp2_with fail
          go_roundw
          case rel =>
            refine ⟨k - 1, _, by omega, by go_num, ?_, rfl⟩
            have hkr : k - 1 < r.length := len_of_get Hx.out
            have hks : k - 1 < s.length := len_of_get Hy.out
            show r.drop (k - 1) = s.drop (k - 1)
            rw [List.drop_eq_getElem_cons hkr, List.drop_eq_getElem_cons hks, Hdk, Hd.out]
            have e1 := Hx.out
            have e2 := Hy.out
            rw [List.getElem?_eq_getElem hkr] at e1
            rw [List.getElem?_eq_getElem hks] at e2
            rw [Option.some.inj e1, Option.some.inj e2]
          case measure => simp [intOf]; omega
        · go_wp2_with fail
          go_quiet (fail)
          go_wp2_with fail
          go_quiet (fail)
          go_wp2_with fail
          go_ret
          have e : b < a := by
            rw [← H.out.1, ← H.out.2.1]
            exact lt_of_top H.out.2.2.2.1 Hy.out Hx.out (by rw [Hdk]; exact Hd.out.symm) hxy
          exact ⟨by rw [cmpN_gt e]; rfl, below_drewN (below_drewN (below_drewN hbel _) _) _⟩
  · go_wp2
    go_ret
    exact ⟨by rw [cmpN_gt (H.out.2.2.2.2.2 h)]; rfl, hbel⟩
end Go.Proofs.YtbippecchpaleaaGreatDoor
/- nat.by, nat.up: what each returns. Conditions: numbers below 2^32; rows of at most a hundred thousand limbs. -/
namespace Go.Proofs.YtbippecchpaleaaGreatDoor
open Go.RowKit Go.Num
attribute [local go_sem] u64_mask

set_option maxHeartbeats 2000000 in
set_option maxRecDepth 100000 in
theorem by_any (w : World) (v : Value) (l : List Nat) (x m : Nat) (h : Arg encU w v l) (hl : Lim l) (hb : l.length ≤ 1000000) (hx : x < 4294967296) (hm : m < 4294967296) :
    Calls Tryz.prog 120 #[v, .int .u64 x, .int .u64 m] w fun e w' => ∃ v' r, e = .returned v' ∧ Gives 43 encU w w' v' r ∧ Lim r ∧ r.length = l.length + 1 ∧ val r = x * val l + m := by
  obtain ⟨i0, hi, hz0, hz1, hz2⟩ := info_parts infoU
  obtain ⟨A, c, rfl, hc, hr⟩ := h.open_
  have Hl := Lib.hid hl
  clear hl h
  go_enter Tryz.func120, Tryz.ntmps120
  go_wp2
  go_loopw [2, 7, 9, 12] (fun mo out _ i wr => ∃ (k M : Nat) (r : List Nat), k ≤ l.length ∧ i = .int .i64 k ∧ mo = .int .u64 M ∧ M < 4294967296 ∧ r.length = k ∧
      Hid (Lim r ∧ val r + 4294967296 ^ k * M = m + x * val (l.take k)) ∧ Own 43 w.heap.size wr out r ∧ Below w.heap.size w wr) (fun _ _ _ i _ => l.length - (intOf i).toNat)
  case atStart => exact ⟨0, m, [], Nat.zero_le _, rfl, rfl, hm, rfl, ⟨Lim.nil, by simp⟩, Own.nil_ _ _ _, Below.refl _ _⟩
  case round =>
    obtain ⟨k, M, r, hk, rfl, rfl, hM, hlen, HI, hown, hbel⟩ := hrel
    have Hlen := Lib.hid hlen
    clear hlen
    by_cases hlt : k < l.length
    · obtain ⟨y, hy⟩ := get_some hlt
      obtain ⟨b, o, rfl, hc0⟩ := hr.at_ hy
      have hc1 := (hbel.cell (World.block_lt_of_cell? w _ hc0)).trans hc0
      have hy32 := Hl.out.get hy
      have Hy := Lib.hid hy
      clear hy hc0
      obtain ⟨S, hS⟩ : ∃ S : Nat, S = M + x * y := ⟨_, rfl⟩
      have hSb : S / 4294967296 < 4294967296 := by
        have : x * y ≤ 4294967295 * 4294967295 := Nat.mul_le_mul (by omega) (by omega)
        omega
      have HS := Lib.hid hS
      have hSi : (M : Int) + (x : Int) * (y : Int) = (S : Int) := by rw [hS]; simp
      have hxy : x * y ≤ S := by omega
      clear hS
      go_wp2_with (at_builtin; refine wpList_append_own _ rfl _ _ 22 rfl w.heap.size 43 i0 (.int .u32 0) 1 4 Tryz.underlying22 hi hz0 hz1 hz2 rfl (by decide) _ _ _ rfl (World.ownsRow.alloc hown.row _) ⟨wr.heap.size, 0, none⟩ 1 1 [.int .u32 ((S : Int) % 4294967296)] rfl rfl (cell_one_new _ _ _) (by simp [Value.oneCell']) ?c3 ?c4 ?c5 ?_)
      case c3 => have := Hlen.out; unfold maxLen; omega
      case c4 => have := Hlen.out; omega
      case c5 => have := hbel.size; simp; omega
      intro v' w1 h1 hg1 _
      have hlt : k < l.length := by assumption
      obtain ⟨hown1, hb1⟩ := hown.pushed hbel h1 hg1 (d := S % 4294967296) (by simp)
      clear h1 hg1 hown hbel hc1 hr
      go_wp2
      go_roundw
      case rel =>
        refine ⟨k + 1, S / 4294967296, r ++ [S % 4294967296], by omega, by go_num, by simp, hSb, by simp [Hlen.out], ?_, hown1, hb1⟩
        refine ⟨HI.out.1.snoc (Nat.mod_lt _ (by decide)), ?_⟩
        have e := HI.out.2
        rw [val_snoc, Hlen.out, take_snoc Hy.out, val_snoc, List.length_take, Nat.min_eq_left (by omega), pow_succ']
        exact by_step e (by have := HS.out; omega)
      case measure => simp [intOf]; omega
    · go_wp2_with (at_builtin; refine wpList_append_own _ rfl _ _ 22 rfl w.heap.size 43 i0 (.int .u32 0) 1 4 Tryz.underlying22 hi hz0 hz1 hz2 rfl (by decide) _ _ _ rfl (World.ownsRow.alloc hown.row _) ⟨wr.heap.size, 0, none⟩ 1 1 [.int .u32 (M : Int)] rfl rfl (cell_one_new _ _ _) (by simp [Value.oneCell']) ?d3 ?d4 ?d5 ?_)
      case d3 => have := Hlen.out; unfold maxLen; omega
      case d4 => have := Hlen.out; omega
      case d5 => have := hbel.size; simp; omega
      intro v' w1 h1 hg1 _
      obtain ⟨hown1, hb1⟩ := hown.pushed hbel h1 hg1 (d := M) rfl
      clear h1 hg1 hown hbel hr
      go_wp2
      go_ret
      have e := HI.out.2
      refine ⟨_, _, rfl, hown1.gives hb1, HI.out.1.snoc hM, by simp [Hlen.out]; omega, ?_⟩
      rw [val_snoc, Hlen.out, e, take_all l (by omega)]
      omega
end Go.Proofs.YtbippecchpaleaaGreatDoor
/- nat.up, nat.short: what each returns. Conditions: numbers up to 2^32; rows of at most a hundred thousand limbs. -/
namespace Go.Proofs.YtbippecchpaleaaGreatDoor
open Go.RowKit Go.Num
attribute [local go_sem] u64_mask

set_option maxHeartbeats 1000000 in
theorem up_any (w : World) (v : Value) (l : List Nat) (n : Nat) (h : Arg encU w v l) (hl : Lim l) (hb : l.length ≤ 1000000) (hn : n < 32) :
    Calls Tryz.prog 127 #[v, .int .u64 n] w fun e w' => ∃ v' r, e = .returned v' ∧ Gives 43 encU w w' v' r ∧ Lim r ∧ r.length = l.length + 1 ∧ val r = 2 ^ n * val l := by
  obtain ⟨p, hp⟩ : ∃ p : Nat, p = 2 ^ n := ⟨_, rfl⟩
  have hp32 : p < 4294967296 := by rw [hp]; exact Nat.pow_lt_pow_right (by decide) hn
  have hw : IntKind.u64.wrap (2 ^ n) = (p : Int) := by
    have e : ((2 : Int) ^ n) = (p : Int) := by rw [hp]; simp
    rw [e]; exact IntWalk.u64_in _ (by omega)
  have HP := Lib.hid hp
  clear hp
  go_enter Tryz.func127, Tryz.ntmps127
  go_wp2_with fail
  refine (by_any w v l p 0 h hl hb hp32 (by decide)).mono ?_
  rintro e w1 ⟨v1, r, rfl, hg, hlim, hlen, hval⟩
  have H := Lib.hid (And.intro hlen hval)
  clear hlen hval
  go_wp2
  go_ret
  exact ⟨_, _, rfl, hg, hlim, H.out.1, by rw [H.out.2, HP.out]; omega⟩

theorem drop_pred {l : List Nat} {k y : Nat} (h0 : 0 < k) (hy : l[k - 1]? = some y) : l.drop (k - 1) = y :: l.drop k := by
  have hk := len_of_get hy
  rw [List.drop_eq_getElem_cons hk, show k - 1 + 1 = k by omega]
  rw [List.getElem?_eq_getElem hk] at hy
  rw [Option.some.inj hy]
theorem drop_set_pred {l : List Nat} {k d : Nat} (h0 : 0 < k) (hk : k ≤ l.length) : (l.set (k - 1) d).drop (k - 1) = d :: l.drop k := by
  rw [drop_pred (k := k) (y := d) h0 (by rw [List.getElem?_set]; simp; omega)]
  congr 1
  apply List.ext_getElem?
  intro j
  rw [List.getElem?_drop, List.getElem?_drop, List.getElem?_set_ne (by omega)]
theorem short_step {x Q L T y S D R : Nat} (h : Q * x + L = T) (hS : S = L * 4294967296 + y) (hD : D = S / x) (hR : R = S % x) : (D + 4294967296 * Q) * x + R = y + 4294967296 * T := by
  have e := Nat.div_add_mod S x
  rw [← hD, ← hR] at e
  rw [Nat.add_mul, Nat.mul_assoc, ← h, Nat.mul_add, Nat.mul_comm D x]
  omega

set_option maxHeartbeats 2000000 in
set_option maxRecDepth 100000 in
theorem short_any (w : World) (v : Value) (l : List Nat) (x : Nat) (h : Arg encU w v l) (hl : Lim l) (hb : l.length ≤ 200000) (hx : x ≤ 4294967296) (hx0 : 0 < x) :
    Calls Tryz.prog 112 #[v, .int .u64 x] w fun e w' => ∃ v', e = .returned (.tuple #[v', .int .u64 (val l % x : Nat)]) ∧ Gives 43 encU w w' v' (limbs (val l / x)) := by
  obtain ⟨A, c, rfl, hc, hr⟩ := h.open_
  have Hl := Lib.hid hl
  clear hl h
  have hmk := run_make_row' (P := Tryz.prog) 22 43 (.int .u32 0) 4 Tryz.underlying22 infoU rfl .i64 .i64 l.length (by omega) (by omega)
  have hstart : Inp 43 encU w.heap.size (w.alloc (.cells (madeCells #[.int .u32 0] l.length) 43)) w.heap.size l.length l.length (List.replicate l.length 0) := Inp.made w 0 (by omega) rfl
  have hdone : ∀ (q : List Nat) (L : Nat), val (q.drop 0) * x + L = val (l.drop 0) → L < x → val q = val l / x ∧ L = val l % x := by
    intro q L h1 h2
    simp only [List.drop_zero] at h1
    rw [← h1, Nat.mul_comm, Nat.mul_add_div hx0, Nat.mul_add_mod, Nat.mod_eq_of_lt h2, Nat.div_eq_of_lt h2]
    exact ⟨rfl, rfl⟩
  have Hdone := Lib.hid hdone
  clear hdone
  go_enter Tryz.func112, Tryz.ntmps112
  go_wp2
  go_loopw [5, 6] (fun lv i wr => ∃ (k L : Nat) (q : List Nat), k ≤ l.length ∧ i = .int .i64 ((k : Int) - 1) ∧ lv = .int .u64 L ∧ L < x ∧ Lim q ∧
      Hid (val (q.drop k) * x + L = val (l.drop k)) ∧ Inp 43 encU w.heap.size wr w.heap.size l.length l.length q ∧ Below w.heap.size w wr) (fun _ i _ => (intOf i + 1).toNat)
  case atStart =>
    refine ⟨l.length, 0, List.replicate l.length 0, Nat.le_refl _, rfl, rfl, hx0, Lim.zeros _, ?_, hstart, (Below.refl _ w).alloc (Nat.le_refl _) _⟩
    show val (List.drop l.length (List.replicate l.length 0)) * x + 0 = val (l.drop l.length)
    simp
  case round =>
    obtain ⟨k, L, q, hk, rfl, rfl, hL, hq, HI, hown, hbel⟩ := hrel
    rcases Nat.eq_zero_or_pos k with h0 | h0
    · subst h0
      clear hmk hstart
      obtain ⟨e1, e2⟩ := Hdone.out q L HI.out hL
      have E1 := Lib.hid e1
      have E2 := Lib.hid e2
      clear e1 e2 HI
      have hbq : q.length ≤ 1000000 := by have := hown.len; omega
      go_wp2_with fail
      refine (trim_any _ _ q hown.arg hq hbq).mono ?_
      rintro e w1 ⟨v1, rfl, hg⟩
      rw [E1.out] at hg
      go_wp2
      go_ret2
      exact ⟨_, by rw [← E2.out]; rfl, hg.after hbel⟩
    · obtain ⟨y, hy⟩ := get_some (l := l) (k := k - 1) (by omega)
      obtain ⟨b, o, rfl, hc0⟩ := hr.at_ hy
      have hc1 := (hbel.cell (World.block_lt_of_cell? w _ hc0)).trans hc0
      have hy32 := Hl.out.get hy
      have Hy := Lib.hid hy
      clear hy hc0
      obtain ⟨S, hS⟩ : ∃ S : Nat, S = L * 4294967296 + y := ⟨_, rfl⟩
      have hSi : Go.bits .or .u64 ((L : Int) * 4294967296) (y : Int) = (S : Int) := by rw [u64_join L y (by omega) hy32, hS]; simp
      obtain ⟨D, hD⟩ : ∃ D : Nat, D = S / x := ⟨_, rfl⟩
      obtain ⟨R, hR⟩ : ∃ R : Nat, R = S % x := ⟨_, rfl⟩
      have hDi : (S : Int) / (x : Int) = (D : Int) := by rw [hD]; simp
      have hRi : (S : Int) % (x : Int) = (R : Int) := by rw [hR]; simp
      have hSx : S < x * 4294967296 := by
        have : (L + 1) * 4294967296 ≤ x * 4294967296 := Nat.mul_le_mul_right _ (by omega)
        omega
      have hD32 : D < 4294967296 := by rw [hD]; exact Nat.div_lt_of_lt_mul hSx
      have hRx : R < x := by rw [hR]; exact Nat.mod_lt _ hx0
      have hSb : S / 4294967296 < 4294967296 := by omega
      have HS := Lib.hid (And.intro hS (And.intro hD hR))
      clear hS hD hR hSx hmk hstart
      have hfz := hown.free (k - 1)
      obtain ⟨t, ht⟩ := get_some (l := q) (k := k - 1) (by have := hown.len; omega)
      have hct := hown.cell ht
      clear ht
      go_wp2_with fail
      go_roundw
      case rel =>
        refine ⟨k - 1, R, q.set (k - 1) D, by omega, by go_num, by rw [hRi], hRx, hq.set _ _ hD32, ?_, hown.set (k - 1) D, hbel.setCell (p := ⟨w.heap.size, k - 1, none⟩) (Nat.le_refl _) _⟩
        show val ((q.set (k - 1) D).drop (k - 1)) * x + R = val (l.drop (k - 1))
        rw [drop_set_pred h0 (by have := hown.len; omega), drop_pred h0 Hy.out, val_cons, val_cons]
        exact short_step HI.out HS.out.1 HS.out.2.1 HS.out.2.2
      case measure => simp [intOf]; omega
end Go.Proofs.YtbippecchpaleaaGreatDoor
/- nat.Mul: what it returns. Conditions: rows of at most a hundred thousand limbs. -/
namespace Go.Proofs.YtbippecchpaleaaGreatDoor
open Go.RowKit Go.Num
attribute [local go_sem] u64_mask

theorem val_set {q : List Nat} {m t d : Nat} (h : q[m]? = some t) : val (q.set m d) + 4294967296 ^ m * t = val q + 4294967296 ^ m * d := by
  have hm := len_of_get h
  have e1 := split_at h
  have e2 := split_at (l := q.set m d) (k := m) (x := d) (by rw [List.getElem?_set]; simp [hm])
  have e3 : (q.set m d).take m = q.take m := by rw [List.take_set_of_le (Nat.le_refl _)]
  have e4 : (q.set m d).drop (m + 1) = q.drop (m + 1) := by rw [List.drop_set_of_lt (by omega)]
  rw [e3, e4] at e2
  rw [Nat.mul_add] at e1 e2
  omega
theorem mul_in {_T V0 P K carry x y t d c' Bj W' W : Nat} (h : W + (P * K) * carry = V0 + P * (x * Bj)) (hd : carry + (x * y + t) = d + 4294967296 * c') (hw : W' + (P * K) * t = W + (P * K) * d) :
    W' + (P * (K * 4294967296)) * c' = V0 + P * (x * (Bj + K * y)) := by
  have e1 : (P * K) * (carry + (x * y + t)) = (P * K) * (d + 4294967296 * c') := by rw [hd]
  rw [Nat.mul_add, Nat.mul_add, Nat.mul_add] at e1
  have e2 : P * (x * (Bj + K * y)) = P * (x * Bj) + (P * K) * (x * y) := by
    rw [Nat.mul_add x, Nat.mul_add P, Nat.mul_left_comm x K y, Nat.mul_assoc P K]
  have e3 : (P * (K * 4294967296)) * c' = (P * K) * (4294967296 * c') := by rw [← Nat.mul_assoc P K, Nat.mul_assoc (P * K)]
  rw [e2, e3]
  omega

set_option maxHeartbeats 4000000 in
set_option maxRecDepth 100000 in
theorem mul_any (w : World) (va vb : Value) (la lb : List Nat) (a b : Nat) (ha : Num w va la a) (hb : Num w vb lb b) :
    Calls Tryz.prog 66 #[va, vb] w fun e w' => ∃ v', e = .returned v' ∧ Gives 43 encU w w' v' (limbs (a * b)) := by
  obtain ⟨i0, hi, hz0, hz1, hz2⟩ := info_parts infoU
  obtain ⟨Aa, ca, rfl, hca, hra⟩ := ha.arg.open_
  obtain ⟨Ab, cb, rfl, hcb, hrb⟩ := hb.arg.open_
  have hl1 := ha.len
  have hl2 := hb.len
  have HA := Lib.hid (And.intro ha.lim ha.val)
  have HB := Lib.hid (And.intro hb.lim hb.val)
  clear ha hb
  have hmk := run_make_row' (P := Tryz.prog) 22 43 (.int .u32 0) 4 Tryz.underlying22 infoU rfl .i64 .i64 (la.length + lb.length) (by omega) (by omega)
  have ec : ((la.length + lb.length : Nat) : Int) = (la.length : Int) + (lb.length : Int) := by omega
  rw [ec] at hmk
  clear ec
  have hstart : Inp 43 encU w.heap.size (w.alloc (.cells (madeCells #[.int .u32 0] (la.length + lb.length)) 43)) w.heap.size (la.length + lb.length) (la.length + lb.length) (List.replicate (la.length + lb.length) 0) := Inp.made w 0 (by omega) rfl
  go_enter Tryz.func66, Tryz.ntmps66
  go_wp2
  go_loopw [19] (fun i wr => ∃ (k : Nat) (q : List Nat), k ≤ la.length ∧ i = .int .i64 k ∧ Lim q ∧ Hid (val (q.take (k + lb.length)) = val (la.take k) * b) ∧
      Inp 43 encU w.heap.size wr w.heap.size (la.length + lb.length) (la.length + lb.length) q ∧ Below w.heap.size w wr) (fun i _ => la.length - (intOf i).toNat)
  case atStart =>
    refine ⟨0, List.replicate (la.length + lb.length) 0, Nat.zero_le _, rfl, Lim.zeros _, ?_, hstart, (Below.refl _ w).alloc (Nat.le_refl _) _⟩
    show val _ = val _ * b
    simp [val_zeros]
  case round =>
    clear hmk hstart
    obtain ⟨k, q, hk, rfl, hq, HI, hown, hbel⟩ := hrel
    by_cases hlt : k < la.length
    · obtain ⟨x, hx⟩ := get_some hlt
      obtain ⟨ba, oa, rfl, hc0⟩ := hra.at_ hx
      have hc1 := (hbel.cell (World.block_lt_of_cell? w _ hc0)).trans hc0
      have hx32 := HA.out.1.get hx
      have Hx := Lib.hid hx
      clear hx hc0
      go_wp2_with fail
      go_loopw [8, 26] (fun cr i wi => ∃ (j M : Nat) (u : List Nat), j ≤ lb.length ∧ i = .int .i64 j ∧ cr = .int .u64 M ∧ M < 4294967296 ∧ Lim u ∧
          Hid (val (u.take (k + lb.length)) + (4294967296 ^ k * 4294967296 ^ j) * M = val (la.take k) * b + 4294967296 ^ k * (x * val (lb.take j))) ∧
          Inp 43 encU w.heap.size wi w.heap.size (la.length + lb.length) (la.length + lb.length) u ∧ Below w.heap.size w wi) (fun _ i _ => lb.length - (intOf i).toNat)
      case atStart =>
        refine ⟨0, 0, q, Nat.zero_le _, rfl, rfl, by decide, hq, ?_, hown, hbel⟩
        show val (q.take (k + lb.length)) + (4294967296 ^ k * 4294967296 ^ 0) * 0 = val (la.take k) * b + 4294967296 ^ k * (x * val (lb.take 0))
        rw [HI.out]; simp
      case round =>
        clear hown hbel HI hq hc1
        obtain ⟨j, M, u, hj, rfl, rfl, hM, hu, HJ, hown, hbel⟩ := hrel
        by_cases hjl : j < lb.length
        · obtain ⟨y, hy⟩ := get_some hjl
          obtain ⟨bb, ob, rfl, hc0⟩ := hrb.at_ hy
          have hc1 := (hbel.cell (World.block_lt_of_cell? w _ hc0)).trans hc0
          have hy32 := HB.out.1.get hy
          obtain ⟨t, ht⟩ := get_some (l := u) (k := k + j) (by have := hown.len; omega)
          have hct := hown.cell ht
          have ht32 := hu.get ht
          have hfz := hown.free (k + j)
          have Hy := Lib.hid (And.intro hy ht)
          clear hy hc0 ht
          obtain ⟨S, hS⟩ : ∃ S : Nat, S = M + (x * y + t) := ⟨_, rfl⟩
          have hxyb : x * y ≤ 4294967295 * 4294967295 := Nat.mul_le_mul (by omega) (by omega)
          have hSb : S / 4294967296 < 4294967296 := by omega
          have hSi : (M : Int) + ((x : Int) * (y : Int) + (t : Int)) = (S : Int) := by rw [hS]; simp
          have hxy : x * y ≤ S := by omega
          have hxt : x * y + t ≤ S := by omega
          have HS := Lib.hid hS
          clear hS hxyb
          go_wp2_with fail
          go_roundw
          case rel =>
            refine ⟨j + 1, S / 4294967296, u.set (k + j) (S % 4294967296), by omega, by go_num, by simp, hSb, hu.set _ _ (Nat.mod_lt _ (by decide)), ?_, hown.set (k + j) (S % 4294967296), hbel.setCell (p := ⟨w.heap.size, k + j, none⟩) (Nat.le_refl _) _⟩
            show val ((u.set (k + j) (S % 4294967296)).take (k + lb.length)) + (4294967296 ^ k * 4294967296 ^ (j + 1)) * (S / 4294967296) = val (la.take k) * b + 4294967296 ^ k * (x * val (lb.take (j + 1)))
            have hts : (u.set (k + j) (S % 4294967296)).take (k + lb.length) = (u.take (k + lb.length)).set (k + j) (S % 4294967296) := by rw [List.take_set]
            have htt : (u.take (k + lb.length))[k + j]? = some t := by rw [List.getElem?_take, if_pos (by omega)]; exact Hy.out.2
            have hset := val_set (d := S % 4294967296) htt
            rw [Nat.pow_add] at hset
            rw [hts, take_snoc Hy.out.1, val_snoc, List.length_take, Nat.min_eq_left hj, pow_succ']
            exact mul_in (_T := 0) HJ.out (by have := HS.out; omega) hset
          case measure => simp [intOf]; omega
        · have hjl' : j = lb.length := by omega
          have hfz := hown.free (k + lb.length)
          obtain ⟨t, ht⟩ := get_some (l := u) (k := k + lb.length) (by have := hown.len; omega)
          have hct := hown.cell ht
          have Ht := Lib.hid (And.intro ht hjl')
          clear ht hjl'
          go_wp2_with fail
          go_roundw
          case rel =>
            refine ⟨k + 1, u.set (k + lb.length) M, by omega, by go_num, hu.set _ _ hM, ?_, hown.set (k + lb.length) M, hbel.setCell (p := ⟨w.heap.size, k + lb.length, none⟩) (Nat.le_refl _) _⟩
            show val ((u.set (k + lb.length) M).take (k + 1 + lb.length)) = val (la.take (k + 1)) * b
            have hm : (u.set (k + lb.length) M)[k + lb.length]? = some M := by rw [List.getElem?_set]; simp; exact len_of_get Ht.out.1
            have e1 := HJ.out
            rw [Ht.out.2, take_all lb (Nat.le_refl _), HB.out.2] at e1
            rw [show k + 1 + lb.length = k + lb.length + 1 by omega, take_snoc hm, val_snoc, List.take_set_of_le (Nat.le_refl _), List.length_take, Nat.min_eq_left (by have := hown.len; omega), take_snoc Hx.out, val_snoc, List.length_take, Nat.min_eq_left hk, Nat.add_mul, Nat.pow_add, e1, Nat.mul_assoc]
          case measure => simp [intOf]; omega
    · have hkl : k = la.length := by omega
      have Hkl := Lib.hid hkl
      have hb6 : q.length ≤ 1000000 := by have := hown.len; omega
      clear hkl
      go_wp2_with fail
      refine (trim_any _ _ q hown.arg hq hb6).mono ?_
      rintro e w1 ⟨v1, rfl, hg⟩
      go_wp2
      go_ret
      have e1 := HI.out
      rw [Hkl.out, take_all la (Nat.le_refl _), HA.out.2, take_all q (by have := hown.len; omega)] at e1
      rw [e1] at hg
      exact ⟨_, rfl, hg.after hbel⟩
end Go.Proofs.YtbippecchpaleaaGreatDoor

