import Derived.StillTailTactics
import Derived.OrdersIn
import Derived.TacticsIn
import Derived.RangeFuncNested
import Derived.RangeFuncBound
import Derived.RangeFuncCalls
import Derived.RangeFuncLeaves
import Derived.RangeFuncBox
import Derived.Shelf.Abstract
import Derived.Shelf.RegionOpen
import Derived.OwnWalkIn
import Derived.TacticsInMore
import Derived.LoopNIn
import Derived.LoopIn
import Derived.Laws.EntriesVeiled
import Derived.Test.YtbippecchpaleaaGreatDoorGNat
/- A region that draws its order, whose operations but a tail in one forced order only read or call quietly: one walk in the text's order serves, under the wide fence too (as Derived/StillTail.lean has it without a fence). -/
namespace Go.Num
open Go
section
variable {n : Nat} {P : Program} {ops : Array Oper} {md : Region.Mode} {w : World}

theorem wpOpIn_of_stOp {i : Nat} {a : Act} {K : Act → Prop} {K' : Act → World → Prop} {Q' : Exit → Act → World → Prop} (h : ∀ a, K a → K' a w) (hh : stOp P ops w i K a) : wpOpIn Fence.wide n P ops Q' i K' a w := by
  unfold stOp at hh
  unfold wpOpIn
  split
  · rename_i ho; simp only [ho] at hh; exact h _ hh
  · rename_i o ho
    simp only [ho] at hh
    split
    · rename_i hw
      simp only [hw, if_true] at hh
      unfold Oper.still at hh
      unfold Oper.wpIn
      refine ⟨fun _ _ => trivial, ?_⟩
      have hro : Fence.wide.round = none := rfl
      rw [hro, Oper.semAt_none]
      generalize (execOp a.eval o).run P w = r at *
      cases r with
      | ok nx w' =>
        cases nx <;> simp only [Oper.stillUpon] at hh <;> simp only [Oper.uponIn]
        case enter f args =>
          obtain ⟨rfl, v, hc, hn⟩ := hh
          refine ⟨fun hd => (by cases hd), callsIn_wide.2 (hc.mono fun e w'' ⟨he, hw⟩ => ?_)⟩
          subst he; subst hw; exact h _ hn
        all_goals (obtain ⟨rfl, h2⟩ := hh; exact h _ h2)
      | halt x w' => simp only [Oper.stillUpon] at hh
    · rename_i hw; simp only [hw] at hh; exact ⟨fun _ _ => trivial, h _ hh⟩

theorem wpAnyIn_of_head {k g : Nat} {L : Array Bool → Act → Prop} {Q' : Exit → Act → World → Prop} (hL : ∀ listed a, L listed a → wpAnyIn Fence.wide n P md ops Q' g listed a w) :
    ∀ (f : Nat) (listed : Array Bool) (a : Act), wpAnyL P md ops w k L f listed a → wpAnyIn Fence.wide n P md ops Q' (f + g) listed a w
  | 0, listed, a, h => by rw [Nat.zero_add]; exact hL _ _ h
  | f + 1, listed, a, h => by
    rw [show f + 1 + g = (f + g) + 1 by omega]
    exact ⟨fun h0 => absurd h0 h.1, fun i hi => wpOpIn_of_stOp (fun a' h' => wpAnyIn_of_head hL f _ a' h') (h.2 i hi).2⟩

theorem wpAnyIn_of_seq {Q' : Exit → Act → World → Prop} : ∀ (l : List Oper) (k : Nat) (listed : Array Bool) (a : Act) (w : World), (∀ j, l[j]? = ops[k + j]?) →
    Region.seqB md ops l.length k listed = true → wpListIn Fence.wide n P ops Q' l a w → wpAnyIn Fence.wide n P md ops Q' l.length listed a w
  | [], _, _, _, _, _, hB, h => ⟨by simpa [Region.seqB] using hB, h⟩
  | o :: l, k, listed, a, w, hl, hB, h => by
    have h0 : ops[k]? = some o := by simpa using (hl 0).symm
    simp only [List.length_cons, Region.seqB, Bool.and_eq_true, decide_eq_true_eq] at hB
    refine ⟨fun h1 => (by rw [hB.1] at h1; cases h1), fun i hi => ?_⟩
    rw [hB.1] at hi
    have hik : i = k := by simpa using hi
    subst hik
    have hw : wpOpIn Fence.wide n P ops Q' i (wpListIn Fence.wide n P ops Q' l) a w := by unfold wpOpIn; simp only [h0]; exact h
    exact wpOpIn_mono (fun a' w' h' => wpAnyIn_of_seq l (i + 1) _ a' w' (fun j => by have := hl (j + 1); simpa [Nat.add_assoc, Nat.add_comm 1 j] using this) hB.2 h') hw

theorem wpIn_region_still_tail {id : Nat} {Q : Exit → Act → World → Prop} {a : Act} {w : World} {l : List Oper} (k : Nat) (hm : P.follows .mixedOrders = true) (hB : Region.lexTailB .any l.toArray k = true)
    (h : wpStill P l.toArray { w with drawn := w.drawn + 1 } (fun a' => wpListIn Fence.wide n P l.toArray Q (l.drop k) a' { w with drawn := w.drawn + 1 }) (l.take k) a) : (Code.region id l.toArray true).wpIn Fence.wide n P Q a w := by
  simp only [Region.lexTailB, Bool.and_eq_true, decide_eq_true_eq] at hB
  obtain ⟨⟨⟨⟨hsel, hn⟩, hs⟩, hc⟩, hlex⟩ := hB
  have hn' : k < l.length := by simpa using hn
  have htl : (l.take k).length = k := by simp; omega
  have hdl : (l.drop k).length = l.toArray.size - k := by simp
  have inv0 : HeadInv .any l.toArray k (Array.replicate l.toArray.size false) :=
    ⟨by simp, fun j oj _ hl => (by rw [getD_replicate_false] at hl; cases hl), fun t _ ht => getD_in (by simpa using ht) (getD_replicate_false _ _)⟩
  have H := wpAnyL_lex (md := .any) (g := l.toArray.size - k) hsel hs hc hn (l.take k) 0 _ a (fun j hj => by
    have hj' : j < k := by rw [htl] at hj; exact hj
    simp [hj']) (by simpa using htl) inv0 (by rw [htl]; exact hlex) h
  refine wpIn_region_any hm ?_
  have := wpAnyIn_of_head (n := n) (Q' := Q) (g := l.toArray.size - k) (fun listed a' hL => by
    have := wpAnyIn_of_seq (n := n) (md := .any) (Q' := Q) (l.drop k) k listed a' { w with drawn := w.drawn + 1 } (fun j => by simp [List.getElem?_drop]) (by rw [hdl]; exact hL.1) hL.2
    rwa [hdl] at this) _ _ _ H
  rw [htl, show k + (l.toArray.size - k) = l.toArray.size by omega] at this
  exact this
end
end Go.Num
/- nat.pairs: the limbs of two numbers side by side, as an iterator. Conditions: rows of at most a hundred thousand limbs. -/
namespace Go.Num
open Go Go.RowKit
/-- The limb at a place; none: 0. -/
def limbAt (l : List Nat) (i : Nat) : Nat := l[i]?.getD 0
theorem limbAt_lt {l : List Nat} (h : Lim l) (i : Nat) : limbAt l i < 4294967296 := by
  unfold limbAt
  cases hx : l[i]? with
  | none => simp
  | some x => exact h.get hx
/-- Two limbs, as the iterator hands them on. -/
abbrev Lb := { p : Nat × Nat // p.1 < 4294967296 ∧ p.2 < 4294967296 }
abbrev encP (x : Lb) : Array Value := #[.int .u64 (x.1.1 : Int), .int .u64 (x.1.2 : Int)]
def pr {la lb : List Nat} (ha : Lim la) (hb : Lim lb) (i : Nat) : Lb := ⟨(limbAt la i, limbAt lb i), limbAt_lt ha i, limbAt_lt hb i⟩
/-- What has come after k rounds. -/
def ups {la lb : List Nat} (ha : Lim la) (hb : Lim lb) (k : Nat) : List Lb := (List.range k).map (pr ha hb)
theorem ups_succ {la lb : List Nat} (ha : Lim la) (hb : Lim lb) (k : Nat) : ups ha hb (k + 1) = ups ha hb k ++ [pr ha hb k] := by simp [ups, List.range_succ]
theorem ups_length {la lb : List Nat} (ha : Lim la) (hb : Lim lb) (k : Nat) : (ups ha hb k).length = k := by simp [ups]
def fsts (xs : List Lb) : List Nat := xs.map (·.1.1)
def snds (xs : List Lb) : List Nat := xs.map (·.1.2)
theorem pad_val (l : List Nat) (n : Nat) (h : l.length ≤ n) : val ((List.range n).map (limbAt l)) = val l := by
  have e : (List.range n).map (limbAt l) = l ++ List.replicate (n - l.length) 0 := by
    apply List.ext_getElem?
    intro i
    by_cases hi : i < n
    · rw [List.getElem?_map, List.getElem?_range hi]
      by_cases hl : i < l.length
      · rw [List.getElem?_append_left hl]
        simp [limbAt, hl]
      · rw [List.getElem?_append_right (by omega), List.getElem?_replicate, if_pos (by omega)]
        simp [limbAt, List.getElem?_eq_none (show l.length ≤ i by omega)]
    · rw [List.getElem?_eq_none (by simp; omega), List.getElem?_eq_none (by simp; omega)]
  rw [e, val_append, val_zeros]
  omega
theorem fsts_ups {la lb : List Nat} (ha : Lim la) (hb : Lim lb) (n : Nat) (h : la.length ≤ n) : val (fsts (ups ha hb n)) = val la := by
  rw [← pad_val la n h]
  unfold fsts ups
  rw [List.map_map]
  rfl
theorem snds_ups {la lb : List Nat} (ha : Lim la) (hb : Lim lb) (n : Nat) (h : lb.length ≤ n) : val (snds (ups ha hb n)) = val lb := by
  rw [← pad_val lb n h]
  unfold snds ups
  rw [List.map_map]
  rfl

/-- Below N all is as it was, but for the two variables of the loop. -/
structure KeepP (lo N : Nat) (w w' : World) : Prop where
  os : w'.os = w.os
  tape : w'.tape = w.tape
  output : w'.output = w.output
  size : w.heap.size ≤ w'.heap.size
  block : ∀ b, b < N → b ≠ lo → b ≠ lo + 1 → w'.heap[b]? = w.heap[b]?
theorem KeepP.refl (lo N : Nat) (w : World) : KeepP lo N w w := ⟨rfl, rfl, rfl, Nat.le_refl _, fun _ _ _ _ => rfl⟩
theorem KeepP.trans {lo N : Nat} {a b c : World} (h : KeepP lo N a b) (k : KeepP lo N b c) : KeepP lo N a c :=
  ⟨k.os.trans h.os, k.tape.trans h.tape, k.output.trans h.output, Nat.le_trans h.size k.size, fun i hi h1 h2 => (k.block i hi h1 h2).trans (h.block i hi h1 h2)⟩
theorem KeepP.grown {lo N : Nat} {w w' : World} {row : Option Nat} (hg : w.grownBy w' row) (hN : N ≤ w.heap.size) (hr : ∀ k, row = some k → N ≤ k ∨ k = lo ∨ k = lo + 1) : KeepP lo N w w' :=
  ⟨hg.os, hg.tape, hg.output, hg.size, fun b hb h1 h2 => hg.block b (by omega) (fun e => by rcases hr b e.symm with h | h | h <;> omega)⟩
theorem KeepP.putObj {lo N : Nat} {w : World} (hN : N ≤ w.heap.size) (W : World) (l : Nat) (o o' : Obj) (hl : w.heap.size ≤ l) (h : W.heap[l]? = some o) (_ : o.isCells = false) (_ : o.isWalk = false) : KeepP lo N W (W.putObj l o') :=
  KeepP.grown (grownBy_putObj' W l o') (by have := (Array.getElem?_eq_some_iff.1 h).1; omega) (fun k e => by cases e; exact .inl (by omega))
theorem KeepP.drew {lo N : Nat} {w w' : World} (h : KeepP lo N w w') : KeepP lo N w w'.drew := ⟨h.os, h.tape, h.output, h.size, h.block⟩
theorem KeepP.set {lo N : Nat} {w w' : World} (h : KeepP lo N w w') {p : Addr} (hp : p.block = lo ∨ p.block = lo + 1) (u : Value) : KeepP lo N w (w'.setCell p u) :=
  h.trans ⟨rfl, rfl, rfl, by simp [World.setCell], fun b _ h1 h2 => Below.heap_setCell w' p u b (by omega)⟩
theorem KeepP.below {N : Nat} {w0 w w' : World} (h : KeepP w0.heap.size N w w') (hN : w0.heap.size ≤ N) (hb : Below w0.heap.size w0 w) : Below w0.heap.size w0 w' :=
  hb.trans ⟨h.os, h.tape, h.output, h.size, fun k hk => h.block k (by omega) (by omega) (by omega)⟩
theorem KeepP.cell {lo N : Nat} {w w' : World} (h : KeepP lo N w w') {p : Addr} (hp : p.block < N) (h1 : p.block ≠ lo) (h2 : p.block ≠ lo + 1) : w'.cell? p = w.cell? p := World.cell?_of_block (w := w) (h.block p.block hp h1 h2)
end Go.Num

namespace Go.Proofs.YtbippecchpaleaaGreatDoor
open Go.RowKit Go.Num Go.Shelf
attribute [local go_sem] Oper.semAt_some

set_option maxHeartbeats 1000000 in
/-- nat.pairs's closure 'limb'. -/
theorem limb_any (w : World) (A : Option Addr) (c : Nat) (l : List Nat) (i : Nat) (h : Cells encU w A l) (hl : Lim l) (_hb : l.length ≤ 1000000) :
    Calls Tryz.prog 155 #[.slice A l.length c, .int .i64 i] w fun e w' => e = .returned (.int .u64 (limbAt l i : Nat)) ∧ w' = w := by
  by_cases hi : i < l.length
  · obtain ⟨x, hx⟩ := get_some hi
    obtain ⟨b, o, rfl, hc⟩ := h.at_ hx
    have hx32 := hl.get hx
    have Hx := Lib.hid hx
    clear hx hl
    go_enter Tryz.func155, Tryz.ntmps155
    go_wp2
    go_ret
    exact ⟨by unfold limbAt; rw [Hx.out]; rfl, rfl⟩
  · go_enter Tryz.func155, Tryz.ntmps155
    go_wp2
    go_ret
    exact ⟨by unfold limbAt; rw [List.getElem?_eq_none (by omega)]; rfl, rfl⟩

set_option maxHeartbeats 1000000 in
theorem pairs_any (w : World) (A1 A2 : Option Addr) (n1 n2 c1 c2 : Nat) :
    Calls Tryz.prog 144 #[.slice A1 n1 c1, .slice A2 n2 c2] w fun e w' => e = .returned (.func (.func 156) #[] #[.pointer (some ⟨w.heap.size, 0, none⟩), .pointer (some ⟨w.heap.size + 1, 0, none⟩), .pointer (some ⟨w.heap.size + 2, 0, none⟩)]) ∧
      w' = ((w.alloc (.cells #[.slice A1 n1 c1] 22)).alloc (.cells #[.slice A2 n2 c2] 22)).alloc (.cells #[.func (.func 155) #[] #[]] 142) := by
  go_enter Tryz.func144, Tryz.ntmps144
  go_wp2
  go_ret
  exact ⟨rfl, rfl⟩

/-- One of two, as a Bool says. -/
def Said (b : Bool) (p q : Prop) : Prop := match b with | true => p | false => q

set_option maxHeartbeats 4000000 in
set_option maxRecDepth 100000 in
/-- THE ITERATOR's CONTRACT: it hands on the limbs side by side, whatever the loop does that keeps all but its two variables. -/
theorem pairs_stops (n : Nat) (lo N : Nat) (A1 A2 : Option Addr) (c1 c2 : Nat) (la lb : List Nat) (ha : Lim la) (hb : Lim lb) (hla : la.length ≤ 1000000) (hlb : lb.length ≤ 1000000) (w : World)
    (B : Nat) (hB : lo + 2 ≤ B) (hN : B + 3 = N) (hNw : N ≤ w.heap.size)
    (hcA : Cells encU w A1 la) (hcB : Cells encU w A2 lb) (hA1 : 0 < la.length → ∀ a, A1 = some a → a.block < lo) (hA2 : 0 < lb.length → ∀ a, A2 = some a → a.block < lo)
    (h0 : w.cell? ⟨B, 0, none⟩ = some (.slice A1 la.length c1)) (h1 : w.cell? ⟨B + 1, 0, none⟩ = some (.slice A2 lb.length c2)) (h2 : w.cell? ⟨B + 2, 0, none⟩ = some (.func (.func 155) #[] #[])) :
    SeqStopsK Fence.wide n Tryz.prog 156 #[.pointer (some ⟨B, 0, none⟩), .pointer (some ⟨B + 1, 0, none⟩), .pointer (some ⟨B + 2, 0, none⟩)] encP (KeepP lo N)
      (fun xs => xs = ups ha hb (max la.length lb.length)) (fun _ => False ∨ True) (max la.length lb.length) w := fun l J Jx W hW hJ hJx hY hJ0 => by
  have hK0 : ∀ W', KeepP lo N W W' → (W'.cell? ⟨B, 0, none⟩ = some (.slice A1 la.length c1) ∧ W'.cell? ⟨B + 1, 0, none⟩ = some (.slice A2 lb.length c2) ∧ W'.cell? ⟨B + 2, 0, none⟩ = some (.func (.func 155) #[] #[])) ∧ Cells encU W' A1 la ∧ Cells encU W' A2 lb := by
    intro W' hk
    refine ⟨⟨?_, ?_, ?_⟩, ?_, ?_⟩
    · exact (hk.cell (p := ⟨B, 0, none⟩) (by show B < N; omega) (by show B ≠ lo; omega) (by show B ≠ lo + 1; omega)).trans ((hW.cell (p := ⟨B, 0, none⟩) (by show B < w.heap.size; omega)).trans h0)
    · exact (hk.cell (p := ⟨B + 1, 0, none⟩) (by show B + 1 < N; omega) (by show B + 1 ≠ lo; omega) (by show B + 1 ≠ lo + 1; omega)).trans ((hW.cell (p := ⟨B + 1, 0, none⟩) (by show B + 1 < w.heap.size; omega)).trans h1)
    · exact (hk.cell (p := ⟨B + 2, 0, none⟩) (by show B + 2 < N; omega) (by show B + 2 ≠ lo; omega) (by show B + 2 ≠ lo + 1; omega)).trans ((hW.cell (p := ⟨B + 2, 0, none⟩) (by show B + 2 < w.heap.size; omega)).trans h2)
    · intro hp
      obtain ⟨b, o, e, hx⟩ := (hcA.below hW) hp
      have := hA1 hp _ e
      exact ⟨b, o, e, fun j x hj => (hk.cell (p := ⟨b, o + j, none⟩) (by show b < N; simp at this; omega) (by show b ≠ lo; simp at this; omega) (by show b ≠ lo + 1; simp at this; omega)).trans (hx j x hj)⟩
    · intro hp
      obtain ⟨b, o, e, hx⟩ := (hcB.below hW) hp
      have := hA2 hp _ e
      exact ⟨b, o, e, fun j x hj => (hk.cell (p := ⟨b, o + j, none⟩) (by show b < N; simp at this; omega) (by show b ≠ lo; simp at this; omega) (by show b ≠ lo + 1; simp at this; omega)).trans (hx j x hj)⟩
  have HK := Lib.hid hK0
  obtain ⟨⟨g0, g1, g2⟩, _, _⟩ := hK0 W (KeepP.refl _ _ _)
  clear hK0 h0 h1 h2 hcA hcB hA1 hA2
  refine callsIn_of_wp Tryz.func156 rfl trivial ?_ rfl
  simp only [Tryz.ntmps156, List.size_toArray, List.length_cons, List.length_nil, Nat.reduceAdd, Nat.reduceSub, Array.replicate_succ, Array.replicate_zero, List.push_toArray, List.append_toArray, List.nil_append, List.cons_append]
  gi_wp2
  all_goals
    gi_loopw [11] (fun i wr => ∃ k : Nat, k ≤ max la.length lb.length ∧ i = .int .i64 k ∧ J (ups ha hb k) wr ∧ KeepP lo N W wr)
      (fun i _ => max la.length lb.length - (intOf i).toNat)
    case atStart => exact ⟨0, Nat.zero_le _, rfl, hJ0, KeepP.refl _ _ _⟩
    case round =>
      clear g0 g1 g2
      obtain ⟨k, hk, rfl, hJs, hnx⟩ := hrel
      obtain ⟨⟨g0, g1, g2⟩, hca, hcb⟩ := HK.out wr hnx
      by_cases hlt : k < max la.length lb.length
      · have hJd : J (ups ha hb k) wr.drew := hJ _ _ _ none hJs ⟨rfl, rfl, rfl, Nat.le_refl _, fun _ _ _ => rfl⟩ (fun r e => by cases e)
        obtain ⟨fn, tmps, assign, body, hy, hR0⟩ := hY _ (pr ha hb k) wr.drew hJd (by rw [ups_length]; exact hlt)
        have hR := hR0.mono (R' := fun e W' => ∃ bv : Bool, e = .returned (.bool bv) ∧ Said bv (J (ups ha hb k ++ [pr ha hb k]) W' ∧ KeepP lo N wr.drew W') (Jx (ups ha hb k ++ [pr ha hb k]) W')) (by
          rintro e W' (⟨rfl, h⟩ | ⟨rfl, h⟩)
          · exact ⟨true, rfl, h⟩
          · exact ⟨false, rfl, h⟩)
        clear hR0
        have hmix : Tryz.prog.follows .mixedOrders = true := by kernel_rfl
        have e1 : (pr ha hb k).1.1 = limbAt la k := rfl
        have e2 : (pr ha hb k).1.2 = limbAt lb k := rfl
        dsimp only [encP] at hy
        rw [e1, e2] at hy
        clear e1 e2
        gi_wp2_with fail
        refine wpIn_region_still_tail 9 (by kernel_rfl) (by kernel_rfl) ?_
        simp only [List.take_succ_cons, List.take_zero, List.drop_succ_cons, List.drop_zero]
        repeat still_step
        still_call (limb_any _ A1 c1 la k hca.drew ha hla)
        repeat still_step
        still_call (limb_any _ A2 c2 lb k hcb.drew hb hlb)
        refine wpStill_nil ?_
        change wpListIn _ _ _ _ _ _ _ wr.drew
        gi_wp2_with fail
        refine ⟨(fun hd => by cases hd), ?_⟩
        refine hR.mono ?_
        rintro e W3 ⟨bv, rfl, hpost⟩
        clear hR hy hJd hJs g0 g1 g2 hca hcb
        cases bv with
        | true =>
          obtain ⟨hJ3, hk3⟩ := hpost
          gi_wp2
          go_roundw
          case rel => exact ⟨k + 1, by omega, by go_num, by rw [ups_succ]; exact hJ3, hnx.drew.trans hk3⟩
          case measure => simp [intOf]; omega
        | false =>
          have hJ3 : Jx (ups ha hb k ++ [pr ha hb k]) W3 := hpost
          gi_wp2
          refine bodyPost_ret (results_none rfl _ _ _) rfl ?_
          exact ⟨⟨_, rfl⟩, .inr ⟨_, .inr trivial, hJ3⟩⟩
      · have hkm : k = max la.length lb.length := by omega
        have Hk := Lib.hid hkm
        clear hkm
        gi_wp2_with fail
        go_end0
        exact ⟨⟨_, rfl⟩, .inl ⟨_, rfl, by rw [← Hk.out]; exact hJs⟩⟩
end Go.Proofs.YtbippecchpaleaaGreatDoor
/- What one round over two numbers' limbs does to its two variables (a slice that is appended to, a number). No program in sight. -/
namespace Go.Num
open Go Go.RowKit
section
variable {W w1 : World} {lo N : Nat} {t1 t2 e : TypeId} {size : Nat} {v v' u u' : Value} {k m : Nat} {xs ys : List Value} {tmp : Obj}
theorem box_push (hbo : Boxed W lo t1 v) (hbc : Boxed W (lo + 1) t2 u) (h1 : t1 ≠ e) (h2 : t2 ≠ e) (hrow : W.ownsRow N e size v k xs) (hN : N ≤ W.heap.size) (hgrow : (W.alloc tmp).grownBy w1 v.ownBlock) :
    Boxed w1 lo t1 v ∧ Boxed w1 (lo + 1) t2 u ∧ KeepP lo N W w1 ∧ KeepsOthers W w1 := by
  refine ⟨(hbo.alloc tmp).kept hgrow (hbo.not_row h1 hrow), (hbc.alloc tmp).kept hgrow (hbc.not_row h2 hrow), ?_, ?_⟩
  · refine (KeepP.grown (World.grownBy_alloc W tmp none) hN (fun k h => by cases h)).trans (KeepP.grown hgrow (by simp; omega) fun j ej => .inl ?_)
    exact (World.ownsRow.lt hrow j ej).1
  · refine (KeepsOthers.alloc W tmp).trans (KeepsOthers.of_grownBy hgrow fun j o ej hj => ?_)
    rcases (hrow.alloc tmp).2 with ⟨rfl, _⟩ | ⟨g, cap, cur, rfl, _, hgb, _⟩
    · simp [Value.ownBlock] at ej
    · obtain rfl : g = j := by simpa [Value.ownBlock] using ej
      rw [hgb] at hj; cases hj; rfl
theorem box_store (hbo : Boxed w1 lo t1 v) (hbc : Boxed w1 (lo + 1) t2 u) (h1 : t1 ≠ e) (h2 : t2 ≠ e) (hrow : w1.ownsRow N e size v' k xs) :
    Boxed ((w1.setCell ⟨lo, 0, none⟩ v').setCell ⟨lo + 1, 0, none⟩ u') lo t1 v' ∧ Boxed ((w1.setCell ⟨lo, 0, none⟩ v').setCell ⟨lo + 1, 0, none⟩ u') (lo + 1) t2 u' ∧
      ((w1.setCell ⟨lo, 0, none⟩ v').setCell ⟨lo + 1, 0, none⟩ u').ownsRow N e size v' k xs ∧ KeepP lo N w1 ((w1.setCell ⟨lo, 0, none⟩ v').setCell ⟨lo + 1, 0, none⟩ u') ∧
      KeepsOthers w1 ((w1.setCell ⟨lo, 0, none⟩ v').setCell ⟨lo + 1, 0, none⟩ u') := by
  have a1 : Boxed (w1.setCell ⟨lo, 0, none⟩ v') lo t1 v' := hbo.set v'
  have a2 : Boxed (w1.setCell ⟨lo, 0, none⟩ v') (lo + 1) t2 u := hbc.kept (grownBy_setCell' w1 lo v') (fun e => by have := Option.some.inj e; omega)
  have a3 : (w1.setCell ⟨lo, 0, none⟩ v').ownsRow N e size v' k xs := hrow.kept (grownBy_setCell' w1 lo v') (.inr (hbo.not_row h1 hrow).symm)
  refine ⟨a1.kept (grownBy_setCell' _ (lo + 1) u') (fun e => by have := Option.some.inj e; omega), a2.set u', a3.kept (grownBy_setCell' _ (lo + 1) u') (.inr (a2.not_row h2 a3).symm), ?_, (KeepsOthers.setCell _ _ _).trans (KeepsOthers.setCell _ _ _)⟩
  exact ((KeepP.refl lo N w1).set (p := ⟨lo, 0, none⟩) (.inl rfl) v').set (p := ⟨lo + 1, 0, none⟩) (.inr rfl) u'

/-- The state between two rounds abides the turn of a block that is no cells and lies beyond. -/
theorem box_own (β : Type) (n0 : Nat) (W0 : World) (lo N : Nat) (t1 t2 e : TypeId) (G : β → Value → List Nat → Nat → Prop) (hN : N ≤ n0) (hn : n0 ≤ W0.heap.size) :
    OwnFrom n0 (fun (s : β) W => ∃ v r c, Boxed W lo t1 v ∧ Boxed W (lo + 1) t2 (.int .u64 (c : Nat)) ∧ W.ownsRow N e 1 v r.length (r.map encU) ∧ KeepP lo N W0 W ∧ G s v r c) := by
  rintro s X Y row ⟨v, r, c, h1, h2, h3, h4, hG⟩ hg hr
  refine ⟨v, r, c, h1.kept hg (fun e' => ?_), h2.kept hg (fun e' => ?_), h3.kept hg ?_, h4.trans (KeepP.grown hg (Nat.le_trans (Nat.le_trans hN hn) h4.size) fun k ek => .inl (by have := (hr k ek).1; omega)), hG⟩
  · obtain ⟨_, o, ho, hc⟩ := hr lo e'.symm
    rw [show X.heap[lo]? = _ from h1] at ho; cases ho; cases hc
  · obtain ⟨_, o, ho, hc⟩ := hr (lo + 1) e'.symm
    rw [show X.heap[lo + 1]? = _ from h2] at ho; cases ho; cases hc
  · rcases h3.2 with ⟨rfl, _⟩ | ⟨g, cap, cur, rfl, _, hgb, _⟩
    · exact .inl rfl
    · refine .inr fun e' => ?_
      obtain ⟨_, o, ho, hc⟩ := hr g (by simpa [Value.ownBlock] using e'.symm)
      rw [hgb] at ho; cases ho; cases hc
end

/-- The highest bit of a number of 64 bits. -/
def hi63 (n : Nat) : Nat := n / 9223372036854775808
theorem shr63 (n : Nat) : (n : Int) / 9223372036854775808 = (hi63 n : Int) := by unfold hi63; simp
/-- A difference of 64 bits, with a borrow. -/
theorem sub64 (x y c : Nat) (hx : x < 4294967296) (hy : y < 4294967296) (hc : c ≤ 1) :
    ∃ D : Nat, IntKind.u64.wrap (IntKind.u64.wrap ((x : Int) - (y : Int)) - (c : Int)) = (D : Int) ∧ D / 4294967296 < 4294967296 ∧ hi63 D ≤ 1 ∧ x + 4294967296 * hi63 D = D % 4294967296 + y + c := by
  by_cases h : y + c ≤ x
  · refine ⟨x - y - c, ?_, ?_, ?_, ?_⟩
    · rw [IntKind.wrap_u64, IntKind.wrap_u64]; omega
    · omega
    · unfold hi63; omega
    · unfold hi63; omega
  · refine ⟨x + 18446744073709551616 - y - c, ?_, ?_, ?_, ?_⟩
    · rw [IntKind.wrap_u64, IntKind.wrap_u64]; omega
    · omega
    · unfold hi63; omega
    · unfold hi63; omega
theorem row_snoc {w : World} {base : Nat} {e : TypeId} {v u : Value} {r : List Nat} {d : Nat} (h : w.ownsRow base e 1 v (r.length + 1) (r.map encU ++ [u])) (hu : u = encU d) : w.ownsRow base e 1 v (r ++ [d]).length ((r ++ [d]).map encU) := by
  subst hu
  rw [List.length_append, List.map_append]
  exact h
theorem KeepP.under {lo N n0 : Nat} {w0 w w' : World} (h : KeepP lo N w w') (h1 : n0 ≤ lo) (h2 : n0 ≤ N) (hb : Below n0 w0 w) : Below n0 w0 w' :=
  hb.trans ⟨h.os, h.tape, h.output, h.size, fun k hk => h.block k (by omega) (by omega) (by omega)⟩
/-- Behind the function's return: the block for the rounds' deferred calls. -/
theorem Gives.putObj {α : Type} {enc : α → Value} {e : TypeId} {w w5 : World} {v : Value} {l : List α} (h : Gives e enc w w5 v l) {D : Nat} {o : Obj} (o' : Obj) (hD : w.heap.size ≤ D) (hK : w5.heap[D]? = some o) (ho : o.isCells = false) : Gives e enc w (w5.putObj D o') v l :=
  ⟨ownsRow_putObj h.own o' hK ho, h.below.grown (grownBy_putObj' w5 D o') (Nat.le_trans h.below.size (Nat.le_refl _)) (fun k ek => by cases ek; exact hD)⟩
end Go.Num

