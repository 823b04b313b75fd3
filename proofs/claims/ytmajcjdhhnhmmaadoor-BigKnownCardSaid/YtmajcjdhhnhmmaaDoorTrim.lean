import Derived.Test.YtmajcjdhhnhmmaaDoorProg
import Derived.Test.YtmajcjdhhnhmmaaDoorWords
/- slices.Clone of limbs, nat.Trim, nat.From: what each returns. Conditions: the argument reads as a row of at most a million limbs. -/
namespace Go.Proofs.YtmajcjdhhnhmmaaDoor
open Go.RowKit Go.Num

theorem infoU : (Tryd.prog.info? 52).map (fun i => (i.zero, i.size, i.bytes)) = some (some (.int .u32 0), 1, 4) := by kernel_rfl

set_option maxHeartbeats 1000000 in
theorem clone_some (w : World) (a : Addr) (n c : Nat) (l : List Nat) (hn : n = l.length) (hb : n ≤ 1000000) (hc : ∀ j x, l[j]? = some x → w.cell? (a.add j) = some (encU x)) :
    Calls Tryd.prog 87 #[.slice (some a) n c] w fun e w' => ∃ v', e = .returned v' ∧ Gives 52 encU w w' v' l := by
  obtain ⟨i0, hi, hz0, hz1, hz2⟩ := info_parts infoU
  have q : ∀ (w : World) (a : Option Addr) (n c n' c' : Nat), (binOp .eql 22 (.slice a n c) (.slice none n' c')).run Tryd.prog w = .ok (.bool a.isNone) w := fun w a n c n' c' => Lib.run_eql_slice_nil w _ _ a n c n' c' Tryd.underlying22
  have H := Lib.hid hc
  have Hn := Lib.hid hn
  clear hc hn
  go_enter Tryd.func87, Tryd.ntmps87
  go_wp2_with (at_builtin; refine wpList_append_own _ rfl _ _ 22 rfl w.heap.size 52 i0 (.int .u32 0) 1 4 Tryd.underlying22 hi hz0 hz1 hz2 rfl (by decide) _ _ _ rfl (World.ownsRow_made w #[] 0 (Nat.le_refl _) (Nat.zero_le _) (by simp)) a n c (l.map encU) rfl ?qc1 ?qc2 ?qc3 ?qc4 ?qc5 ?qc6 ?_)
  case qc1 => simp [Hn.out]
  case qc2 =>
    intro j u hj
    rw [List.getElem?_map] at hj
    cases hx : l[j]? with
    | none => rw [hx] at hj; cases hj
    | some x =>
      rw [hx] at hj
      cases hj
      exact World.cell?_alloc_lt w _ _ (World.block_lt_of_cell? w _ (H.out j x hx)) ▸ H.out j x hx
  case qc3 => intro u hu; simp at hu; obtain ⟨x, _, rfl⟩ := hu; rfl
  case qc4 => unfold maxLen; omega
  case qc5 => omega
  case qc6 => simp
  intro v' w1 hown hgrow hnil
  go_wp2
  go_ret
  refine ⟨v', rfl, ?_, ?_⟩
  · rw [Hn.out] at hown; simpa using hown
  · exact ((Below.refl _ w).alloc (Nat.le_refl _) _).grown hgrow (by simp) (by intro k hk; simp [Value.ownBlock] at hk; omega)

theorem clone_none (w : World) (n c : Nat) : Calls Tryd.prog 87 #[.slice none n c] w fun e w' => e = .returned (.slice none 0 0) ∧ w' = w := by
  have q : ∀ (w : World) (a : Option Addr) (n c n' c' : Nat), (binOp .eql 22 (.slice a n c) (.slice none n' c')).run Tryd.prog w = .ok (.bool a.isNone) w := fun w a n c n' c' => Lib.run_eql_slice_nil w _ _ a n c n' c' Tryd.underlying22
  go_enter Tryd.func87, Tryd.ntmps87
  go_wp2
  go_ret
  exact ⟨rfl, rfl⟩

theorem clone_any (w : World) (v : Value) (l : List Nat) (h : Arg encU w v l) (hb : l.length ≤ 1000000) :
    Calls Tryd.prog 87 #[v] w fun e w' => ∃ v', e = .returned v' ∧ Gives 52 encU w w' v' l := by
  obtain ⟨A, c, rfl, hc, hr⟩ := h
  cases A with
  | none =>
    have h0 : l = [] := by
      rcases Nat.eq_zero_or_pos l.length with h0 | h0
      · exact List.length_eq_zero_iff.1 h0
      · obtain ⟨_, _, e, _⟩ := hr h0; cases e
    subst h0
    exact (clone_none w _ _).mono fun e w' ⟨he, hw⟩ => ⟨_, he, by subst hw; exact ⟨World.ownsRow_nil _ _ _ _, Below.refl _ _⟩⟩
  | some a =>
    refine clone_some w a _ c l rfl hb fun j x hj => ?_
    obtain ⟨b, o, e, hx⟩ := hr (by have := len_of_get hj; omega)
    cases e
    rw [Addr.add_lit]
    exact hx j x hj

set_option maxHeartbeats 1000000 in
theorem trim_any (w : World) (v : Value) (l : List Nat) (h : Arg encU w v l) (hl : Lim l) (hb : l.length ≤ 1000000) :
    Calls Tryd.prog 63 #[v] w fun e w' => ∃ v', e = .returned v' ∧ Gives 52 encU w w' v' (limbs (val l)) := by
  obtain ⟨A, c, rfl, hc, hr⟩ := h.open_
  have Hl := Lib.hid hl
  clear hl h
  have fin : ∀ k, k ≤ l.length → Hid (∀ i x, k ≤ i → l[i]? = some x → x = 0) → (∀ x, 0 < k → l[k - 1]? = some x → x ≠ 0) → limbs (val l) = l.take k := fun k hk Hz hx => by
    rw [limbs_val Hl.out]; exact (take_tz hk Hz.out hx).symm
  have Hfin := Lib.hid fin
  clear fin
  go_enter Tryd.func63, Tryd.ntmps63
  go_wp2
  go_loop [3] (fun n => ∃ k : Nat, k ≤ l.length ∧ n = .int .i64 k ∧ Hid (∀ i x, k ≤ i → l[i]? = some x → x = 0)) (fun n => (intOf n).toNat)
  case atStart => exact ⟨l.length, Nat.le_refl _, rfl, fun i x hi hx => by have := len_of_get hx; omega⟩
  case round =>
    obtain ⟨k, hk, rfl, Hz⟩ := hrel
    rcases Nat.eq_zero_or_pos k with h0 | h0
    · subst h0
      go_wp2_with (refine (clone_any _ _ (l.take 0) (Arg.nil_ _ _ _ _) (by simp)).mono ?_; rintro e w' ⟨v', rfl, hg⟩)
      go_ret
      exact ⟨_, rfl, by rw [Hfin.out 0 (by omega) Hz (fun x h => by omega)]; exact hg⟩
    · obtain ⟨x, hx⟩ := get_some (l := l) (k := k - 1) (by omega)
      obtain ⟨b, o, rfl, hc1⟩ := hr.at_ hx
      have Hx := Lib.hid hx
      clear hx
      by_cases hx0 : x = 0
      · subst hx0
        go_wp2_with fail
        go_round
        case rel =>
          refine ⟨k - 1, by omega, by go_num, fun i y hi hy => ?_⟩
          by_cases e : i = k - 1
          · rw [e, Hx.out] at hy; simpa using hy.symm
          · exact Hz.out i y (by omega) hy
        case measure => simp [intOf]; omega
      · go_wp2_with (refine (clone_any _ _ (l.take k) (Arg.mk_ (by rw [List.length_take]; omega) (by omega) (hr.take k)) (by rw [List.length_take]; omega)).mono ?_; rintro e w' ⟨v', rfl, hg⟩)
        go_ret
        exact ⟨_, rfl, by rw [Hfin.out k hk Hz (fun y _ hy => by rw [Hx.out] at hy; cases hy; exact hx0)]; exact hg⟩
end Go.Proofs.YtmajcjdhhnhmmaaDoor
