import Derived.Test.YtdmghakmhfhpiaaDoorTold
import Derived.Test.YtdmghakmhfhpiaaDoorRefBits
import Derived.Deep.CutRange
import Derived.BigRegion
import Derived.RegionTactic
/- litmuslaw01.sub2, NatShares: sub2 returns a row of its own; NatShares returns true. -/
namespace Go.Proofs.YtdmghakmhfhpiaaDoor
open Go.RowKit Go.Num
attribute [local go_sem] Oper.semAt_some u64_mask

theorem news_of {w : World} {a : Addr} {l : List Nat} (h : Cells encU w (some a) l) : ∀ w2 : World, Below w.heap.size w w2 → ∀ (j : Nat) (u : Value), (l.map encU)[j]? = some u → (w2.alloc (.cells #[] 39)).cell? (a.add j) = some u := by
  intro w2 hb j u hj
  rw [List.getElem?_map] at hj
  cases hx : l[j]? with
  | none => rw [hx] at hj; cases hj
  | some x =>
    rw [hx] at hj
    cases hj
    obtain ⟨b, o, e, hc⟩ := h (by have := len_of_get hx; omega)
    cases e
    rw [Addr.add_lit]
    have h1 := hc j x hx
    have h2 := (hb.cell (World.block_lt_of_cell? w _ h1)).trans h1
    exact (World.cell?_alloc_lt w2 _ _ (World.block_lt_of_cell? w2 _ h2)).trans h2
theorem nil_of {w : World} {l : List Nat} (h : Cells encU w none l) : l = [] := by
  rcases Nat.eq_zero_or_pos l.length with h0 | h0
  · exact List.length_eq_zero_iff.1 h0
  · obtain ⟨_, _, e, _⟩ := h h0; cases e

theorem made_at (w : World) (b : Nat) (hb : b = w.heap.size) : (w.alloc (.cells #[] 39)).ownsRow w.heap.size 39 1 (.slice (some ⟨b, 0, none⟩) 0 0) 0 [] := by
  subst hb
  exact World.ownsRow_made w #[] 0 (Nat.le_refl _) (Nat.zero_le _) (by simp)

set_option maxHeartbeats 2000000 in
theorem sub2_any (w : World) (v : Value) (ax : List Nat) (h : Arg encU w v ax) (hb : ax.length ≤ 1000000) :
    Calls Tryd.prog 38 #[v] w fun e w' => ∃ v', e = .returned v' ∧ Arg encU w' v' ax ∧ Below w.heap.size w w' := by
  obtain ⟨i0, hi, hz0, hz1, hz2⟩ := info_parts infoU
  obtain ⟨A, ac, rfl, _, hr⟩ := h.open_
  clear h
  cases A with
  | none =>
    have h0 := nil_of hr
    subst h0
    go_enter Tryd.func38, Tryd.ntmps38
    go_wp2_with fail
    go_ret
    exact ⟨_, rfl, Arg.nil_ _ _ _ _, (Below.refl _ w).alloc (Nat.le_refl _) _⟩
  | some a1 =>
    have anews := news_of hr
    have abel := Below.refl w.heap.size w
    clear hr
    go_enter Tryd.func38, Tryd.ntmps38
    go_wp2_with (at_builtin; refine wpList_append_own _ rfl _ _ 22 rfl w.heap.size 39 i0 (.int .u32 0) 1 4 Tryd.underlying22 hi hz0 hz1 hz2 rfl (by decide) _ _ _ rfl (World.ownsRow_made w #[] 0 (Nat.le_refl _) (Nat.zero_le _) (by simp)) a1 ax.length ac (ax.map encU) rfl ?qa1 ?qa2 ?qa3 ?qa4 ?qa5 ?qa6 ?_)
    case qa1 => simp
    case qa2 => exact anews w abel
    case qa3 => intro u hu; simp at hu; obtain ⟨x, _, rfl⟩ := hu; rfl
    case qa4 => unfold maxLen; omega
    case qa5 => omega
    case qa6 => simp
    intro v1 w1 hown1 hgrow1 _
    have hb1 : Below w.heap.size w w1 := ((Below.refl _ w).alloc (Nat.le_refl _) _).grown hgrow1 (by simp) (by intro k hk; simp [Value.ownBlock] at hk; first | omega | (simp; omega))
    have har1 : Arg encU w1 v1 ax := ownsRow_arg (enc := encU) (l := ax) (by simpa using hown1)
    clear hown1 hgrow1
    go_wp2_with fail
    go_ret
    exact ⟨_, rfl, har1, hb1⟩

theorem num_of' {w : World} {v : Value} {n : Nat} (h : Arg encU w v (limbs n)) (hn : sz n ≤ 100000) : Num w v (limbs n) n := ⟨h, limbs_lim n, hn, val_limbs n⟩
theorem sub_row (w : World) (va vb : Value) (la lb : List Nat) (a b : Nat) (ha : Num w va la a) (hb : Num w vb lb b) :
    Calls Tryd.prog 30 #[va, vb] w fun e w' => ∃ v t l, e = .returned (.tuple #[v, .bool t]) ∧ Gives 39 encU w w' v l ∧ Lim l := by
  rcases Nat.lt_or_ge a b with h | h
  · exact (sub_no w va vb la lb a b ha hb h).mono fun e w' ⟨he, hbl⟩ => ⟨_, false, [], he, ⟨World.ownsRow_nil _ _ _ _, hbl⟩, Lim.nil⟩
  · exact (sub_yes w va vb la lb a b ha hb h).mono fun e w' ⟨v, he, hg⟩ => ⟨v, true, _, he, hg, limbs_lim _⟩
theorem div_row (w : World) (va vb : Value) (la lb : List Nat) (a b : Nat) (ha : Num w va la a) (hb : Num w vb lb b) :
    Calls Tryd.prog 21 #[va, vb] w fun e w' => ∃ q r c lq lr, e = .returned (.tuple #[q, r, .int .i64 c]) ∧ Gives 39 encU w w' q lq ∧ Gives 39 encU w w' r lr ∧ Lim lq ∧ Lim lr := by
  rcases Nat.eq_zero_or_pos b with h | h
  · subst h
    exact (div_zero w va vb la lb a ha hb).mono fun e w' ⟨he, hbl⟩ => ⟨_, _, _, [], [], he, ⟨World.ownsRow_nil _ _ _ _, hbl⟩, ⟨World.ownsRow_nil _ _ _ _, hbl⟩, Lim.nil, Lim.nil⟩
  · exact (div_any w va vb la lb a b ha hb h).mono fun e w' ⟨q, r, he, hq, hr, _⟩ => ⟨q, r, _, _, _, he, hq, hr, limbs_lim _, limbs_lim _⟩
/-- A row of the call's own, anywhere from block B on and below block C, that holds limbs. -/
def RowU (B C : Nat) (w : World) (v : Value) : Prop :=
  ∃ A n c, v = .slice A n c ∧ n ≤ 9223372036854775807 ∧ (n = 0 ∨ ∃ g cur, A = some ⟨g, 0, none⟩ ∧ B ≤ g ∧ g < C ∧ w.heap[g]? = some (.cells cur 39 (0, 0)) ∧ ∀ j, j < n → ∃ z : Nat, cur[j]? = some (.int .u32 z) ∧ z < 4294967296)
theorem RowU.of_gives {w0 w : World} {v : Value} {l : List Nat} (h : Gives 39 encU w0 w v l) (hl : Lim l) : RowU w0.heap.size w.heap.size w v := by
  rcases h.own.2 with ⟨rfl, h0⟩ | ⟨g, cap, cur, rfl, hg, hc, hn, hm, _, ht⟩
  · exact ⟨none, 0, 0, rfl, by decide, .inl rfl⟩
  · refine ⟨some ⟨g, 0, none⟩, l.length, cap, rfl, by unfold maxLen at hm; omega, .inr ⟨g, cur, rfl, hg, (Array.getElem?_eq_some_iff.1 hc).1, hc, fun j hj => ?_⟩⟩
    obtain ⟨x, hx⟩ := get_some hj
    refine ⟨x, ?_, hl.get hx⟩
    have h1 : (cur.toList.take (l.length * 1))[j]? = some (encU x) := by rw [ht, List.getElem?_map, hx]; rfl
    rw [List.getElem?_take, if_pos (by omega), Array.getElem?_toList] at h1
    exact h1
theorem RowU.kept {B C : Nat} {w w' : World} {v : Value} (h : RowU B C w v) (hb : ∀ k, k < C → w'.heap[k]? = w.heap[k]?) : RowU B C w' v := by
  obtain ⟨A, n, c, rfl, hb9, h0 | ⟨g, cur, rfl, hg, hC, hc, hx⟩⟩ := h
  · exact ⟨A, n, c, rfl, hb9, .inl h0⟩
  · exact ⟨_, n, c, rfl, hb9, .inr ⟨g, cur, rfl, hg, hC, (hb g hC).trans hc, hx⟩⟩
theorem RowU.wider {B B' C C' : Nat} {w : World} {v : Value} (h : RowU B C w v) (hB : B' ≤ B) (hC' : C ≤ C') : RowU B' C' w v := by
  obtain ⟨A, n, c, rfl, hb9, h0 | ⟨g, cur, rfl, hg, hC, hc, hx⟩⟩ := h
  · exact ⟨A, n, c, rfl, hb9, .inl h0⟩
  · exact ⟨_, n, c, rfl, hb9, .inr ⟨g, cur, rfl, by omega, by omega, hc, hx⟩⟩
theorem RowU.set {B C g j : Nat} {w : World} {v : Value} (h : RowU B C w v) (z : Nat) (hz : z < 4294967296) : RowU B C (w.setCell ⟨g, j, none⟩ (.int .u32 (z : Int))).drew v := by
  obtain ⟨A, n, c, rfl, hb9, h0 | ⟨g', cur, rfl, hg, hC, hc, hx⟩⟩ := h
  · exact ⟨A, n, c, rfl, hb9, .inl h0⟩
  · by_cases e : g' = g
    · subst e
      refine ⟨_, n, c, rfl, hb9, .inr ⟨g', cur.setIfInBounds j (.int .u32 (z : Int)), rfl, hg, hC, heap_setCell_same w g' j cur _ _ hc, fun i hi => ?_⟩⟩
      obtain ⟨y, hy, hy2⟩ := hx i hi
      rw [Array.getElem?_setIfInBounds]
      by_cases e2 : j = i
      · subst e2
        rw [if_pos rfl, if_pos (Array.getElem?_eq_some_iff.1 hy).1]
        exact ⟨z, rfl, hz⟩
      · rw [if_neg e2]; exact ⟨y, hy, hy2⟩
    · exact ⟨_, n, c, rfl, hb9, .inr ⟨g', cur, rfl, hg, hC, (heap_setCell_other w ⟨g, j, none⟩ g' _ e).trans hc, hx⟩⟩
end Go.Proofs.YtdmghakmhfhpiaaDoor
