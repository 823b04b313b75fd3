import Derived.Test.YtmajcjdhhnhmmaaDoorGVal
import Derived.Test.YtmajcjdhhnhmmaaDoorBigHelp
import Derived.Maps.AppendAt
/- litmuslaw02.all: what it returns. -/
namespace Go.Num
open Go Go.RowKit Go.Kp
/-- A row of whole numbers as they come in. -/
def CellsI (w : World) (A : Option Addr) (L : List (Bool × Value × List Nat)) : Prop := 0 < L.length → ∃ b o, A = some ⟨b, o, none⟩ ∧ ∀ j p, L[j]? = some p → w.cell? ⟨b, o + j * 2, none⟩ = some (.bool p.1) ∧ w.cell? ⟨b, o + j * 2 + 1, none⟩ = some p.2.1 ∧ Arg encU w p.2.1 p.2.2 ∧ Lim p.2.2 ∧ p.2.2.length ≤ 9223372036854775807
theorem CellsI.below {w w' : World} {A : Option Addr} {L : List (Bool × Value × List Nat)} (h : CellsI w A L) (hb : Below w.heap.size w w') : CellsI w' A L := fun h0 => by
  obtain ⟨b, o, e, hx⟩ := h h0
  refine ⟨b, o, e, fun j p hj => ?_⟩
  obtain ⟨h1, h2, h3, h4, h5⟩ := hx j p hj
  exact ⟨(hb.cell (World.block_lt_of_cell? w _ h1)).trans h1, (hb.cell (World.block_lt_of_cell? w _ h2)).trans h2, h3.below hb, h4, h5⟩
theorem CellsI.at_ {w : World} {A : Option Addr} {L : List (Bool × Value × List Nat)} (h : CellsI w A L) {j : Nat} {p : Bool × Value × List Nat} (hj : L[j]? = some p) : ∃ b o, A = some ⟨b, o, none⟩ ∧ w.cell? ⟨b, o + j * 2, none⟩ = some (.bool p.1) ∧ w.cell? ⟨b, o + j * 2 + 1, none⟩ = some p.2.1 ∧ Arg encU w p.2.1 p.2.2 ∧ Lim p.2.2 ∧ p.2.2.length ≤ 9223372036854775807 := by
  have hl : j < L.length := (List.getElem?_eq_some_iff.1 hj).1
  obtain ⟨b, o, e, hx⟩ := h (by omega)
  exact ⟨b, o, e, hx j p hj⟩
/-- What few makes of one. -/
def fewZ (k : Nat) (p : Bool × Value × List Nat) : Int := sg p.1 (val (p.2.2.take k))
/-- The cells of a row of pairs. -/
def flatZ (xs : List (Bool × Value)) : List Value := xs.flatMap fun t => [.bool t.1, t.2]
theorem flatZ_snoc (xs : List (Bool × Value)) (t : Bool × Value) : flatZ (xs ++ [t]) = flatZ xs ++ [.bool t.1, t.2] := by simp [flatZ]
theorem flatZ_get : ∀ {xs : List (Bool × Value)} {j : Nat} {t : Bool × Value}, xs[j]? = some t → (flatZ xs)[j * 2]? = some (.bool t.1) ∧ (flatZ xs)[j * 2 + 1]? = some t.2
  | x :: xs, 0, t, h => by
    obtain rfl : x = t := by simpa using h
    exact ⟨rfl, rfl⟩
  | x :: xs, j + 1, t, h => by
    have h1 := flatZ_get (xs := xs) (j := j) (t := t) (by simpa using h)
    have e : flatZ (x :: xs) = .bool x.1 :: x.2 :: flatZ xs := rfl
    rw [e, show (j + 1) * 2 = j * 2 + 1 + 1 by omega]
    exact ⟨by rw [List.getElem?_cons_succ, List.getElem?_cons_succ]; exact h1.1, by rw [show j * 2 + 1 + 1 + 1 = (j * 2 + 1) + 1 + 1 by omega, List.getElem?_cons_succ, List.getElem?_cons_succ]; exact h1.2⟩
theorem flatZ_length (xs : List (Bool × Value)) : (flatZ xs).length = xs.length * 2 := by
  induction xs with
  | nil => rfl
  | cons x xs ih =>
    have e : flatZ (x :: xs) = .bool x.1 :: x.2 :: flatZ xs := rfl
    rw [e, List.length_cons, List.length_cons, ih, List.length_cons]
    omega
theorem ownsRow_below {w w' : World} {base s n : Nat} {e : TypeId} {v : Value} {xs : List Value} (h : w.ownsRow base e s v n xs) (hb : Below w.heap.size w w') : w'.ownsRow base e s v n xs := by
  refine World.ownsRow.kept h (row := none) ⟨hb.os, hb.tape, hb.output, hb.size, fun k hk _ => hb.block k hk⟩ ?_
  rcases h.2 with ⟨rfl, _⟩ | ⟨g, cap, cur, rfl, _⟩
  · exact .inl rfl
  · exact .inr (by simp [Value.ownBlock])
theorem ownsRow_floor {w : World} {base s n : Nat} {e : TypeId} {v : Value} {xs : List Value} (h : w.ownsRow base e s v n xs) (k : Nat) (hk : v.ownBlock = some k) : base ≤ k := by
  rcases h.2 with ⟨rfl, _⟩ | ⟨g, cap, cur, rfl, hb, _⟩
  · simp [Value.ownBlock] at hk
  · have : g = k := by simpa [Value.ownBlock] using hk
    omega
/-- A row of its own of what stays. -/
theorem RowV.of_own {w0 w : World} {base n : Nat} {T : TypeId} {v : Value} {xs : List (Bool × Value)} {Z : List Int} (h : w.ownsRow base T 2 v n (flatZ xs)) (hb : Below w0.heap.size w0 w) (hn : Z.length = n) (hx : ∀ (j : Nat) (z : Int), Z[j]? = some z → ∃ t : Bool × Value, xs[j]? = some t ∧ Whole w0 t.1 t.2 z) : RowV w v Z := by
  rcases h.2 with ⟨rfl, h0⟩ | ⟨g, cap, cur, rfl, _⟩
  · exact ⟨none, 0, by rw [hn, h0], fun h1 => by omega⟩
  · refine ⟨some ⟨g, 0, none⟩, cap, by rw [hn], fun _ => ⟨g, 0, rfl, fun j z hj => ?_⟩⟩
    obtain ⟨t, ht, hw⟩ := hx j z hj
    obtain ⟨h1, h2⟩ := flatZ_get ht
    have hc := h.cells (g := g) rfl
    have ha : ∀ i, (⟨g, 0, none⟩ : Addr).add i = ⟨g, 0 + i, none⟩ := fun i => by
      unfold Addr.add
      split <;> simp_all
    exact ⟨t.1, t.2, by rw [← hc _ _ h1, ha], by rw [← hc _ _ h2, ha, Nat.add_assoc], hw.below hb⟩
theorem cells_new2 (w : World) (T : TypeId) (x y : Value) : ∀ j u, [x, y][j]? = some u → (w.alloc (.cells #[x, y] T)).cell? ((⟨w.heap.size, 0, none⟩ : Addr).add j) = some u := by
  intro j u hj
  have h : ∀ i, (w.alloc (.cells #[x, y] T)).cell? ⟨w.heap.size, i, none⟩ = #[x, y][i]? := fun i => cell_of_row _ _ _ _ _ _ (heap_alloc_new w _)
  rcases j with _ | _ | j
  · exact (h 0).trans hj
  · exact (h 1).trans hj
  · simp at hj
end Go.Num
namespace Go.Proofs.YtmajcjdhhnhmmaaDoor
open Go.RowKit Go.Num Go.Kp
attribute [local go_sem] Oper.semAt_some u64_mask
theorem infoZ : (Tryd.prog.info? 24).map (fun i => (i.zero, i.size, i.bytes)) = some (some (.agg #[.bool false, .slice none 0 0]), 2, 32) := by kernel_rfl
set_option maxHeartbeats 4000000 in
set_option maxRecDepth 100000 in
theorem all_any (w : World) (A : Option Addr) (c : Nat) (L : List (Bool × Value × List Nat)) (hc : CellsI w A L) (hL : L.length ≤ 9223372036854775807) :
    Calls Tryd.prog 32 #[.slice A L.length c, .int .i64 6, .int .i64 10] w fun e w' => ∃ r, e = .returned r ∧ RowV w' r ((L.take 6).map (fewZ 10)) ∧ Grows w w' := by
  obtain ⟨i0, hi, hz0, hz1, hz2⟩ := info_parts infoZ
  have HC := Lib.hid hc
  obtain ⟨ll, hll⟩ : ∃ n, L.length = n := ⟨_, rfl⟩
  rw [hll] at hL ⊢
  have HLL := Lib.hid hll
  clear hc hll
  go_enter Tryd.func32, Tryd.ntmps32
  go_wp2_with fail
  go_loopw [7, 8] (fun ov iv wr => ∃ (k : Nat) (xs : List (Bool × Value)), k ≤ ll ∧ k ≤ 6 ∧ iv = .int .i64 k ∧ Hid (xs.length = k ∧ wr.ownsRow w.heap.size 24 2 ov k (flatZ xs) ∧ Below w.heap.size w wr ∧ ∀ (j : Nat) (t : Bool × Value), xs[j]? = some t → ∃ p : Bool × Value × List Nat, L[j]? = some p ∧ Whole w t.1 t.2 (fewZ 10 p))) (fun _ iv _ => 6 - (intOf iv).toNat)
  case atStart => exact ⟨0, [], Nat.zero_le _, by decide, rfl, rfl, World.ownsRow_nil _ _ _ _, Below.refl _ _, fun j t h => by simp at h⟩
  case round =>
    obtain ⟨k, xs, hk, hk6, rfl, HI⟩ := hrel
    have fin : ∀ ov wr, (L.take 6).length = k → Hid (xs.length = k ∧ wr.ownsRow w.heap.size 24 2 ov k (flatZ xs) ∧ Below w.heap.size w wr ∧ ∀ (j : Nat) (t : Bool × Value), xs[j]? = some t → ∃ p : Bool × Value × List Nat, L[j]? = some p ∧ Whole w t.1 t.2 (fewZ 10 p)) → RowV wr ov ((L.take 6).map (fewZ 10)) := fun ov wr hl H => by
      obtain ⟨h1, h2, h3, h4⟩ := H.out
      refine RowV.of_own h2 h3 (by rw [List.length_map]; exact hl) fun j z hj => ?_
      have hjl : j < k := by
        have := (List.getElem?_eq_some_iff.1 hj).1
        rw [List.length_map] at this
        omega
      obtain ⟨t, ht⟩ : ∃ t, xs[j]? = some t := ⟨_, List.getElem?_eq_getElem (by omega)⟩
      obtain ⟨p, hp, hw⟩ := h4 j t ht
      rw [List.getElem?_map, List.getElem?_take, if_pos (by omega), hp] at hj
      obtain rfl : fewZ 10 p = z := by simpa using hj
      exact ⟨t, ht, hw⟩
    replace fin := Lib.hid fin
    by_cases hlt : k < ll
    · by_cases h6 : k < 6
      · obtain ⟨p, hp⟩ := get_some (l := L) (k := k) (by rw [HLL.out]; exact hlt)
        obtain ⟨b, o, rfl, hc0, hc1, harg, hlim, hlen⟩ := HC.out.at_ hp
        obtain ⟨n1, m1, l1⟩ := p
        have hd0 := (HI.out.2.2.1.cell (World.block_lt_of_cell? w _ hc0)).trans hc0
        have hd1 := (HI.out.2.2.1.cell (World.block_lt_of_cell? w _ hc1)).trans hc1
        replace hp := Lib.hid hp
        replace hlim := Lib.hid hlim
        replace hlen := Lib.hid hlen
        clear hc0 hc1
        simp only at hd0 hd1
        go_wp2_with fail
        refine (few_at w _ n1 m1 l1 10 harg hlim.out hlen.out (by decide)).mono ?_
        rintro e w1 ⟨A1, k1, c1, rfl, hnum, htk, hb1⟩
        have hW : Whole w n1 (.slice A1 k1 c1) (fewZ 10 (n1, m1, l1)) := ⟨_, _, hnum, Nat.le_trans htk (by decide), rfl⟩
        have hown1 := ownsRow_below HI.out.2.1 hb1
        have hbel1 := HI.out.2.2.1.trans (Below.mono hb1 HI.out.2.2.1.size)
        replace hW := Lib.hid hW
        replace hbel1 := Lib.hid hbel1
        replace hown1 := Lib.hid hown1
        clear hd0 hd1 hnum htk hb1 harg
        go_wp2_with (at_builtin; refine wpList_append_own _ rfl _ _ 45 rfl w.heap.size 24 i0 (.agg #[.bool false, .slice none 0 0]) 2 32 Tryd.underlying45 hi hz0 hz1 hz2 rfl (by decide) _ _ _ rfl (World.ownsRow.alloc hown1.out _) ⟨w1.heap.size, 0, none⟩ 1 1 [.bool n1, .slice A1 k1 c1] rfl rfl (cells_new2 _ _ _ _) (by simp [Value.oneCell']) ?c3 ?c4 ?c5 ?_)
        case c3 => unfold maxLen; omega
        case c4 => omega
        case c5 => have := hbel1.out.size; simp; omega
        intro v' w2 h1 hg1 _
        have h2 : w2.ownsRow w.heap.size 24 2 v' (k + 1) (flatZ (xs ++ [(n1, .slice A1 k1 c1)])) := by rw [flatZ_snoc]; exact h1
        have h3 : Below w.heap.size w w2 := (hbel1.out.alloc hbel1.out.size _).grown hg1 (by have := hbel1.out.size; simp; omega) (ownsRow_floor hown1.out)
        replace h2 := Lib.hid h2
        replace h3 := Lib.hid h3
        clear h1 hg1 fin
        go_wp2
        go_roundw
        case rel =>
          refine ⟨k + 1, xs ++ [(n1, .slice A1 k1 c1)], by omega, by omega, by go_num, Lib.hid ⟨by rw [List.length_append, HI.out.1]; rfl, h2.out, h3.out, fun j t hj => ?_⟩⟩
          rcases Nat.lt_or_ge j k with hj1 | hj1
          · rw [List.getElem?_append_left (by rw [HI.out.1]; exact hj1)] at hj
            exact HI.out.2.2.2 j t hj
          · have hjk : j = k := by
              have := (List.getElem?_eq_some_iff.1 hj).1
              rw [List.length_append, HI.out.1] at this
              simp at this
              omega
            subst hjk
            rw [List.getElem?_append_right (by rw [HI.out.1]; exact Nat.le_refl _), HI.out.1, Nat.sub_self] at hj
            obtain rfl : (n1, Value.slice A1 k1 c1) = t := by simpa using hj
            exact ⟨_, hp.out, hW.out⟩
        case measure => simp [intOf]; omega
      · obtain rfl : k = 6 := by omega
        go_wp2_with fail
        go_ret
        exact ⟨_, rfl, fin.out _ _ (by rw [List.length_take, HLL.out]; omega) HI, HI.out.2.2.1⟩
    · obtain rfl : k = ll := by omega
      go_wp2_with fail
      go_ret
      exact ⟨_, rfl, fin.out _ _ (by rw [List.length_take, HLL.out]; omega) HI, HI.out.2.2.1⟩
end Go.Proofs.YtmajcjdhhnhmmaaDoor
