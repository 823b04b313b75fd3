import Derived.RangeFuncNested
import Derived.RangeFuncBound
import Derived.RangeFuncCalls
import Derived.RangeFuncLeaves
import Derived.RangeFuncBox
import Derived.Shelf.Abstract
import Derived.Shelf.RegionOpen
import Derived.OwnWalkIn
import Derived.TacticsInMore
import Derived.LoopNIn
import Derived.LoopIn
import Derived.Laws.EntriesVeiled
import Derived.Test.YtmajcjdhhnhmmaaDoorMul
import Derived.Test.YtmajcjdhhnhmmaaDoorStill
/- nat.pairs: the limbs of two numbers side by side, as an iterator. Conditions: rows of at most a hundred thousand limbs. -/
namespace Go.Num
open Go Go.RowKit
/-- The limb at a place; none: 0. -/
def limbAt (l : List Nat) (i : Nat) : Nat := l[i]?.getD 0
theorem limbAt_lt {l : List Nat} (h : Lim l) (i : Nat) : limbAt l i < 4294967296 := by
  unfold limbAt
  cases hx : l[i]? with
  | none => simp
  | some x => exact h.get hx
/-- Two limbs, as the iterator hands them on. -/
abbrev Lb := { p : Nat × Nat // p.1 < 4294967296 ∧ p.2 < 4294967296 }
abbrev encP (x : Lb) : Array Value := #[.int .u64 (x.1.1 : Int), .int .u64 (x.1.2 : Int)]
def pr {la lb : List Nat} (ha : Lim la) (hb : Lim lb) (i : Nat) : Lb := ⟨(limbAt la i, limbAt lb i), limbAt_lt ha i, limbAt_lt hb i⟩
/-- What has come after k rounds. -/
def ups {la lb : List Nat} (ha : Lim la) (hb : Lim lb) (k : Nat) : List Lb := (List.range k).map (pr ha hb)
theorem ups_succ {la lb : List Nat} (ha : Lim la) (hb : Lim lb) (k : Nat) : ups ha hb (k + 1) = ups ha hb k ++ [pr ha hb k] := by simp [ups, List.range_succ]
theorem ups_length {la lb : List Nat} (ha : Lim la) (hb : Lim lb) (k : Nat) : (ups ha hb k).length = k := by simp [ups]
def fsts (xs : List Lb) : List Nat := xs.map (·.1.1)
def snds (xs : List Lb) : List Nat := xs.map (·.1.2)
theorem pad_val (l : List Nat) (n : Nat) (h : l.length ≤ n) : val ((List.range n).map (limbAt l)) = val l := by
  have e : (List.range n).map (limbAt l) = l ++ List.replicate (n - l.length) 0 := by
    apply List.ext_getElem?
    intro i
    by_cases hi : i < n
    · rw [List.getElem?_map, List.getElem?_range hi]
      by_cases hl : i < l.length
      · rw [List.getElem?_append_left hl]
        simp [limbAt, hl]
      · rw [List.getElem?_append_right (by omega), List.getElem?_replicate, if_pos (by omega)]
        simp [limbAt, List.getElem?_eq_none (show l.length ≤ i by omega)]
    · rw [List.getElem?_eq_none (by simp; omega), List.getElem?_eq_none (by simp; omega)]
  rw [e, val_append, val_zeros]
  omega
theorem fsts_ups {la lb : List Nat} (ha : Lim la) (hb : Lim lb) (n : Nat) (h : la.length ≤ n) : val (fsts (ups ha hb n)) = val la := by
  rw [← pad_val la n h]
  unfold fsts ups
  rw [List.map_map]
  rfl
theorem snds_ups {la lb : List Nat} (ha : Lim la) (hb : Lim lb) (n : Nat) (h : lb.length ≤ n) : val (snds (ups ha hb n)) = val lb := by
  rw [← pad_val lb n h]
  unfold snds ups
  rw [List.map_map]
  rfl

/-- Below N all is as it was, but for the two variables of the loop. -/
structure KeepP (lo N : Nat) (w w' : World) : Prop where
  os : w'.os = w.os
  tape : w'.tape = w.tape
  output : w'.output = w.output
  size : w.heap.size ≤ w'.heap.size
  block : ∀ b, b < N → b ≠ lo → b ≠ lo + 1 → w'.heap[b]? = w.heap[b]?
theorem KeepP.refl (lo N : Nat) (w : World) : KeepP lo N w w := ⟨rfl, rfl, rfl, Nat.le_refl _, fun _ _ _ _ => rfl⟩
theorem KeepP.trans {lo N : Nat} {a b c : World} (h : KeepP lo N a b) (k : KeepP lo N b c) : KeepP lo N a c :=
  ⟨k.os.trans h.os, k.tape.trans h.tape, k.output.trans h.output, Nat.le_trans h.size k.size, fun i hi h1 h2 => (k.block i hi h1 h2).trans (h.block i hi h1 h2)⟩
theorem KeepP.grown {lo N : Nat} {w w' : World} {row : Option Nat} (hg : w.grownBy w' row) (hN : N ≤ w.heap.size) (hr : ∀ k, row = some k → N ≤ k ∨ k = lo ∨ k = lo + 1) : KeepP lo N w w' :=
  ⟨hg.os, hg.tape, hg.output, hg.size, fun b hb h1 h2 => hg.block b (by omega) (fun e => by rcases hr b e.symm with h | h | h <;> omega)⟩
theorem KeepP.putObj {lo N : Nat} {w : World} (hN : N ≤ w.heap.size) (W : World) (l : Nat) (o o' : Obj) (hl : w.heap.size ≤ l) (h : W.heap[l]? = some o) (_ : o.isCells = false) (_ : o.isWalk = false) : KeepP lo N W (W.putObj l o') :=
  KeepP.grown (grownBy_putObj' W l o') (by have := (Array.getElem?_eq_some_iff.1 h).1; omega) (fun k e => by cases e; exact .inl (by omega))
theorem KeepP.drew {lo N : Nat} {w w' : World} (h : KeepP lo N w w') : KeepP lo N w w'.drew := ⟨h.os, h.tape, h.output, h.size, h.block⟩
theorem KeepP.set {lo N : Nat} {w w' : World} (h : KeepP lo N w w') {p : Addr} (hp : p.block = lo ∨ p.block = lo + 1) (u : Value) : KeepP lo N w (w'.setCell p u) :=
  h.trans ⟨rfl, rfl, rfl, by simp [World.setCell], fun b _ h1 h2 => Below.heap_setCell w' p u b (by omega)⟩
theorem KeepP.below {N : Nat} {w0 w w' : World} (h : KeepP w0.heap.size N w w') (hN : w0.heap.size ≤ N) (hb : Below w0.heap.size w0 w) : Below w0.heap.size w0 w' :=
  hb.trans ⟨h.os, h.tape, h.output, h.size, fun k hk => h.block k (by omega) (by omega) (by omega)⟩
theorem KeepP.cell {lo N : Nat} {w w' : World} (h : KeepP lo N w w') {p : Addr} (hp : p.block < N) (h1 : p.block ≠ lo) (h2 : p.block ≠ lo + 1) : w'.cell? p = w.cell? p := World.cell?_of_block (w := w) (h.block p.block hp h1 h2)
end Go.Num

namespace Go.Proofs.YtmajcjdhhnhmmaaDoor
open Go.RowKit Go.Num Go.Shelf
attribute [local go_sem] Oper.semAt_some

set_option maxHeartbeats 1000000 in
/-- nat.pairs's closure 'limb'. -/
theorem limb_any (w : World) (A : Option Addr) (c : Nat) (l : List Nat) (i : Nat) (h : Cells encU w A l) (hl : Lim l) (_hb : l.length ≤ 1000000) :
    Calls Tryd.prog 107 #[.slice A l.length c, .int .i64 i] w fun e w' => e = .returned (.int .u64 (limbAt l i : Nat)) ∧ w' = w := by
  by_cases hi : i < l.length
  · obtain ⟨x, hx⟩ := get_some hi
    obtain ⟨b, o, rfl, hc⟩ := h.at_ hx
    have hx32 := hl.get hx
    have Hx := Lib.hid hx
    clear hx hl
    go_enter Tryd.func107, Tryd.ntmps107
    go_wp2
    go_ret
    exact ⟨by unfold limbAt; rw [Hx.out]; rfl, rfl⟩
  · go_enter Tryd.func107, Tryd.ntmps107
    go_wp2
    go_ret
    exact ⟨by unfold limbAt; rw [List.getElem?_eq_none (by omega)]; rfl, rfl⟩

set_option maxHeartbeats 1000000 in
theorem pairs_any (w : World) (A1 A2 : Option Addr) (n1 n2 c1 c2 : Nat) :
    Calls Tryd.prog 96 #[.slice A1 n1 c1, .slice A2 n2 c2] w fun e w' => e = .returned (.func (.func 108) #[] #[.pointer (some ⟨w.heap.size, 0, none⟩), .pointer (some ⟨w.heap.size + 1, 0, none⟩), .pointer (some ⟨w.heap.size + 2, 0, none⟩)]) ∧
      w' = ((w.alloc (.cells #[.slice A1 n1 c1] 22)).alloc (.cells #[.slice A2 n2 c2] 22)).alloc (.cells #[.func (.func 107) #[] #[]] 119) := by
  go_enter Tryd.func96, Tryd.ntmps96
  go_wp2
  go_ret
  exact ⟨rfl, rfl⟩

/-- One of two, as a Bool says. -/
def Said (b : Bool) (p q : Prop) : Prop := match b with | true => p | false => q

set_option maxHeartbeats 4000000 in
set_option maxRecDepth 100000 in
/-- THE ITERATOR's CONTRACT: it hands on the limbs side by side, whatever the loop does that keeps all but its two variables. -/
theorem pairs_stops (n : Nat) (lo N : Nat) (A1 A2 : Option Addr) (c1 c2 : Nat) (la lb : List Nat) (ha : Lim la) (hb : Lim lb) (hla : la.length ≤ 1000000) (hlb : lb.length ≤ 1000000) (w : World)
    (B : Nat) (hB : lo + 2 ≤ B) (hN : B + 3 = N) (hNw : N ≤ w.heap.size)
    (hcA : Cells encU w A1 la) (hcB : Cells encU w A2 lb) (hA1 : 0 < la.length → ∀ a, A1 = some a → a.block < lo) (hA2 : 0 < lb.length → ∀ a, A2 = some a → a.block < lo)
    (h0 : w.cell? ⟨B, 0, none⟩ = some (.slice A1 la.length c1)) (h1 : w.cell? ⟨B + 1, 0, none⟩ = some (.slice A2 lb.length c2)) (h2 : w.cell? ⟨B + 2, 0, none⟩ = some (.func (.func 107) #[] #[])) :
    SeqStopsK Fence.wide n Tryd.prog 108 #[.pointer (some ⟨B, 0, none⟩), .pointer (some ⟨B + 1, 0, none⟩), .pointer (some ⟨B + 2, 0, none⟩)] encP (KeepP lo N)
      (fun xs => xs = ups ha hb (max la.length lb.length)) (fun _ => False ∨ True) (max la.length lb.length) w := fun l J Jx W hW hJ hJx hY hJ0 => by
  have hK0 : ∀ W', KeepP lo N W W' → (W'.cell? ⟨B, 0, none⟩ = some (.slice A1 la.length c1) ∧ W'.cell? ⟨B + 1, 0, none⟩ = some (.slice A2 lb.length c2) ∧ W'.cell? ⟨B + 2, 0, none⟩ = some (.func (.func 107) #[] #[])) ∧ Cells encU W' A1 la ∧ Cells encU W' A2 lb := by
    intro W' hk
    refine ⟨⟨?_, ?_, ?_⟩, ?_, ?_⟩
    · exact (hk.cell (p := ⟨B, 0, none⟩) (by show B < N; omega) (by show B ≠ lo; omega) (by show B ≠ lo + 1; omega)).trans ((hW.cell (p := ⟨B, 0, none⟩) (by show B < w.heap.size; omega)).trans h0)
    · exact (hk.cell (p := ⟨B + 1, 0, none⟩) (by show B + 1 < N; omega) (by show B + 1 ≠ lo; omega) (by show B + 1 ≠ lo + 1; omega)).trans ((hW.cell (p := ⟨B + 1, 0, none⟩) (by show B + 1 < w.heap.size; omega)).trans h1)
    · exact (hk.cell (p := ⟨B + 2, 0, none⟩) (by show B + 2 < N; omega) (by show B + 2 ≠ lo; omega) (by show B + 2 ≠ lo + 1; omega)).trans ((hW.cell (p := ⟨B + 2, 0, none⟩) (by show B + 2 < w.heap.size; omega)).trans h2)
    · intro hp
      obtain ⟨b, o, e, hx⟩ := (hcA.below hW) hp
      have := hA1 hp _ e
      exact ⟨b, o, e, fun j x hj => (hk.cell (p := ⟨b, o + j, none⟩) (by show b < N; simp at this; omega) (by show b ≠ lo; simp at this; omega) (by show b ≠ lo + 1; simp at this; omega)).trans (hx j x hj)⟩
    · intro hp
      obtain ⟨b, o, e, hx⟩ := (hcB.below hW) hp
      have := hA2 hp _ e
      exact ⟨b, o, e, fun j x hj => (hk.cell (p := ⟨b, o + j, none⟩) (by show b < N; simp at this; omega) (by show b ≠ lo; simp at this; omega) (by show b ≠ lo + 1; simp at this; omega)).trans (hx j x hj)⟩
  have HK := Lib.hid hK0
  obtain ⟨⟨g0, g1, g2⟩, _, _⟩ := hK0 W (KeepP.refl _ _ _)
  clear hK0 h0 h1 h2 hcA hcB hA1 hA2
  refine callsIn_of_wp Tryd.func108 rfl trivial ?_ rfl
  simp only [Tryd.ntmps108, List.size_toArray, List.length_cons, List.length_nil, Nat.reduceAdd, Nat.reduceSub, Array.replicate_succ, Array.replicate_zero, List.push_toArray, List.append_toArray, List.nil_append, List.cons_append]
  gi_wp2
  all_goals
    gi_loopw [11] (fun i wr => ∃ k : Nat, k ≤ max la.length lb.length ∧ i = .int .i64 k ∧ J (ups ha hb k) wr ∧ KeepP lo N W wr)
      (fun i _ => max la.length lb.length - (intOf i).toNat)
    case atStart => exact ⟨0, Nat.zero_le _, rfl, hJ0, KeepP.refl _ _ _⟩
    case round =>
      clear g0 g1 g2
      obtain ⟨k, hk, rfl, hJs, hnx⟩ := hrel
      obtain ⟨⟨g0, g1, g2⟩, hca, hcb⟩ := HK.out wr hnx
      by_cases hlt : k < max la.length lb.length
      · have hJd : J (ups ha hb k) wr.drew := hJ _ _ _ none hJs ⟨rfl, rfl, rfl, Nat.le_refl _, fun _ _ _ => rfl⟩ (fun r e => by cases e)
        obtain ⟨fn, tmps, assign, body, hy, hR0⟩ := hY _ (pr ha hb k) wr.drew hJd (by rw [ups_length]; exact hlt)
        have hR := hR0.mono (R' := fun e W' => ∃ bv : Bool, e = .returned (.bool bv) ∧ Said bv (J (ups ha hb k ++ [pr ha hb k]) W' ∧ KeepP lo N wr.drew W') (Jx (ups ha hb k ++ [pr ha hb k]) W')) (by
          rintro e W' (⟨rfl, h⟩ | ⟨rfl, h⟩)
          · exact ⟨true, rfl, h⟩
          · exact ⟨false, rfl, h⟩)
        clear hR0
        have hmix : Tryd.prog.follows .mixedOrders = true := by kernel_rfl
        have e1 : (pr ha hb k).1.1 = limbAt la k := rfl
        have e2 : (pr ha hb k).1.2 = limbAt lb k := rfl
        dsimp only [encP] at hy
        rw [e1, e2] at hy
        clear e1 e2
        gi_wp2_with fail
        refine wpIn_region_still_tail 9 (by kernel_rfl) (by kernel_rfl) ?_
        simp only [List.take_succ_cons, List.take_zero, List.drop_succ_cons, List.drop_zero]
        repeat still_step
        still_call (limb_any _ A1 c1 la k hca.drew ha hla)
        repeat still_step
        still_call (limb_any _ A2 c2 lb k hcb.drew hb hlb)
        refine wpStill_nil ?_
        change wpListIn _ _ _ _ _ _ _ wr.drew
        gi_wp2_with fail
        refine ⟨(fun hd => by cases hd), ?_⟩
        refine hR.mono ?_
        rintro e W3 ⟨bv, rfl, hpost⟩
        clear hR hy hJd hJs g0 g1 g2 hca hcb
        cases bv with
        | true =>
          obtain ⟨hJ3, hk3⟩ := hpost
          gi_wp2
          go_roundw
          case rel => exact ⟨k + 1, by omega, by go_num, by rw [ups_succ]; exact hJ3, hnx.drew.trans hk3⟩
          case measure => simp [intOf]; omega
        | false =>
          have hJ3 : Jx (ups ha hb k ++ [pr ha hb k]) W3 := hpost
          gi_wp2
          refine bodyPost_ret (results_none rfl _ _ _) rfl ?_
          exact ⟨⟨_, rfl⟩, .inr ⟨_, .inr trivial, hJ3⟩⟩
      · have hkm : k = max la.length lb.length := by omega
        have Hk := Lib.hid hkm
        clear hkm
        gi_wp2_with fail
        go_end0
        exact ⟨⟨_, rfl⟩, .inl ⟨_, rfl, by rw [← Hk.out]; exact hJs⟩⟩
end Go.Proofs.YtmajcjdhhnhmmaaDoor
