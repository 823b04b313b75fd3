import Derived.Handy
import Derived.WalkSpells
import Derived.Laws.BitsAllLaws
import Derived.Lib.Hide
import Derived.Maps.AppendAt
import Derived.Deep.Draws
import Derived.Deep.QuietTactic
import Derived.BigQuiet
import Derived.Test.YtmajcjdhhnhmmaaDoorDec
import Derived.Test.YtmajcjdhhnhmmaaDoorBit
import Derived.Test.YtmajcjdhhnhmmaaDoorDiv
/- Rows in memory: a slice value that reads as a list; what a call leaves. No program in sight. -/
namespace Go.Num
open Go Go.RowKit

theorem below_drewN {B : Nat} {a w : World} (h : Below B a w) (n : Nat) : Below B a (w.drewN n) := ⟨h.os, h.tape, h.output, h.size, h.block⟩
/-- A limb's cell, a byte's, a bit's, a number's. -/
abbrev encU (x : Nat) : Value := .int .u32 (x : Int)
abbrev encY (x : UInt8) : Value := .int .u8 (x.toNat : Int)
abbrev encB (x : Bool) : Value := .bool x
abbrev encI (x : Nat) : Value := .int .i64 (x : Int)

section
variable {α : Type} {enc : α → Value} {w w' : World} {v : Value} {l : List α}

/-- The slice value v reads as l. -/
def Arg (enc : α → Value) (w : World) (v : Value) (l : List α) : Prop :=
  ∃ A c, v = .slice A l.length c ∧ l.length ≤ c ∧ (0 < l.length → ∃ b o, A = some ⟨b, o, none⟩ ∧ ∀ j x, l[j]? = some x → w.cell? ⟨b, o + j, none⟩ = some (enc x))

theorem Arg.keep (h : Arg enc w v l) (hk : ∀ p : Addr, p.block < w.heap.size → w'.cell? p = w.cell? p) : Arg enc w' v l := by
  obtain ⟨A, c, rfl, hc, hr⟩ := h
  refine ⟨A, c, rfl, hc, fun h0 => ?_⟩
  obtain ⟨b, o, rfl, hx⟩ := hr h0
  exact ⟨b, o, rfl, fun j x hj => (hk _ (World.block_lt_of_cell? w _ (hx j x hj))).trans (hx j x hj)⟩
theorem Arg.below (h : Arg enc w v l) (hb : Below w.heap.size w w') : Arg enc w' v l := h.keep fun _ hp => hb.cell hp
theorem Arg.drew (h : Arg enc w v l) : Arg enc w.drew v l := h
theorem Arg.drewN (h : Arg enc w v l) (n : Nat) : Arg enc (w.drewN n) v l := h
theorem Arg.alloc (h : Arg enc w v l) (o : Obj) : Arg enc (w.alloc o) v l := h.keep fun p hp => World.cell?_alloc_lt w o p hp
theorem Arg.nil_ (enc : α → Value) (w : World) (c : Nat) (A : Option Addr) : Arg enc w (.slice A 0 c) ([] : List α) := ⟨A, c, rfl, Nat.zero_le _, fun h => absurd h (by simp)⟩

/-- What Arg says of the memory, apart from the value's shape. -/
def Cells (enc : α → Value) (w : World) (A : Option Addr) (l : List α) : Prop :=
  0 < l.length → ∃ b o, A = some ⟨b, o, none⟩ ∧ ∀ j x, l[j]? = some x → w.cell? ⟨b, o + j, none⟩ = some (enc x)
theorem Arg.mk_ {A : Option Addr} {n c : Nat} (hn : n = l.length) (hc : n ≤ c) (h : Cells enc w A l) : Arg enc w (.slice A n c) l := ⟨A, c, by rw [hn], by omega, h⟩
theorem Arg.open_ (h : Arg enc w v l) : ∃ A c, v = .slice A l.length c ∧ l.length ≤ c ∧ Cells enc w A l := h
theorem Cells.take {A : Option Addr} (h : Cells enc w A l) (k : Nat) : Cells enc w A (l.take k) := fun h0 => by
  obtain ⟨b, o, e, hx⟩ := h (by rw [List.length_take] at h0; omega)
  exact ⟨b, o, e, fun j x hj => hx j x (by rw [List.getElem?_take] at hj; split at hj; exact hj; cases hj)⟩
theorem Cells.keep {A : Option Addr} (h : Cells enc w A l) (hk : ∀ p : Addr, p.block < w.heap.size → w'.cell? p = w.cell? p) : Cells enc w' A l := fun h0 => by
  obtain ⟨b, o, e, hx⟩ := h h0
  exact ⟨b, o, e, fun j x hj => (hk _ (World.block_lt_of_cell? w _ (hx j x hj))).trans (hx j x hj)⟩
theorem Cells.below {A : Option Addr} (h : Cells enc w A l) (hb : Below w.heap.size w w') : Cells enc w' A l := h.keep fun _ hp => hb.cell hp
theorem Cells.alloc {A : Option Addr} (h : Cells enc w A l) (o : Obj) : Cells enc (w.alloc o) A l := h.keep fun p hp => World.cell?_alloc_lt w o p hp
theorem Cells.nil_ (enc : α → Value) (w : World) (A : Option Addr) : Cells enc w A ([] : List α) := fun h => absurd h (by simp)
theorem Cells.drewN {A : Option Addr} (h : Cells enc w A l) (n : Nat) : Cells enc (w.drewN n) A l := h
theorem Cells.drew {A : Option Addr} (h : Cells enc w A l) : Cells enc w.drew A l := h
/-- The cell of one element. -/
theorem Cells.at_ {A : Option Addr} (h : Cells enc w A l) {k : Nat} {x : α} (hx : l[k]? = some x) : ∃ b o, A = some ⟨b, o, none⟩ ∧ w.cell? ⟨b, o + k, none⟩ = some (enc x) := by
  obtain ⟨b, o, e, hc⟩ := h (by have := len_of_get hx; omega)
  exact ⟨b, o, e, hc k x hx⟩

/-- What a call leaves: a row of its own that reads as l; nothing that was there has turned. -/
structure Gives (e : TypeId) (enc : α → Value) (w w' : World) (v : Value) (l : List α) : Prop where
  own : w'.ownsRow w.heap.size e 1 v l.length (l.map enc)
  below : Below w.heap.size w w'

theorem ownsRow_arg {base : Nat} {e : TypeId} (h : w.ownsRow base e 1 v l.length (l.map enc)) : Arg enc w v l := by
  rcases h.2 with ⟨rfl, h0⟩ | ⟨g, cap, cur, rfl, _, _, hnc, _⟩
  · exact ⟨none, 0, by rw [h0], by omega, fun hn => by omega⟩
  · refine ⟨_, cap, rfl, hnc, fun _ => ⟨g, 0, rfl, fun j x hj => ?_⟩⟩
    have hl := len_of_get hj
    rw [Nat.zero_add, h.cellAt j (by omega), List.getElem?_map, hj]
    rfl
theorem Gives.arg {e : TypeId} (h : Gives e enc w w' v l) : Arg enc w' v l := ownsRow_arg h.own
end

section
variable {α : Type} {enc : α → Value} {w w' w1 : World} {v : Value} {l : List α}
theorem ownsRow_base {base base' : Nat} {e : TypeId} {size n : Nat} {xs : List Value} (h : w.ownsRow base e size v n xs) (hb : base' ≤ base) : w.ownsRow base' e size v n xs := by
  refine ⟨h.1, ?_⟩
  rcases h.2 with h0 | ⟨g, cap, cur, e1, hg, rest⟩
  · exact .inl h0
  · exact .inr ⟨g, cap, cur, e1, Nat.le_trans hb hg, rest⟩
theorem Gives.after {e : TypeId} (h : Gives e enc w1 w' v l) (hb : Below w.heap.size w w1) : Gives e enc w w' v l := ⟨ownsRow_base h.own hb.size, hb.trans (h.below.mono hb.size)⟩
/-- A slice literal, laid in a block of its own. -/
theorem arg_lit (w : World) (cs : Array Value) (T : TypeId) (n : Nat) (l : List α) (hn : n = l.length) (h : cs.toList = l.map enc) : Arg enc (w.alloc (.cells cs T)) (.slice (some ⟨w.heap.size, 0, none⟩) n n) l := by
  refine Arg.mk_ hn (Nat.le_refl _) fun _ => ⟨w.heap.size, 0, rfl, fun j x hj => ?_⟩
  rw [Nat.zero_add, cell_of_row _ _ _ _ _ _ (heap_alloc_new w _), ← Array.getElem?_toList, h, List.getElem?_map, hj]
  rfl
end

/-- The value v reads as limbs that are worth n. -/
structure Num (w : World) (v : Value) (l : List Nat) (n : Nat) : Prop where
  arg : Arg encU w v l
  lim : Lim l
  len : l.length ≤ 100000
  val : val l = n
theorem Num.below {w w' : World} {v : Value} {l : List Nat} {n : Nat} (h : Num w v l n) (hb : Below w.heap.size w w') : Num w' v l n := ⟨h.arg.below hb, h.lim, h.len, h.val⟩
theorem Num.keep {w w' : World} {v : Value} {l : List Nat} {n : Nat} (h : Num w v l n) (hk : ∀ p : Addr, p.block < w.heap.size → w'.cell? p = w.cell? p) : Num w' v l n := ⟨h.arg.keep hk, h.lim, h.len, h.val⟩
theorem Num.alloc {w : World} {v : Value} {l : List Nat} {n : Nat} (h : Num w v l n) (o : Obj) : Num (w.alloc o) v l n := ⟨h.arg.alloc o, h.lim, h.len, h.val⟩
theorem Num.drew {w : World} {v : Value} {l : List Nat} {n : Nat} (h : Num w v l n) : Num w.drew v l n := ⟨h.arg, h.lim, h.len, h.val⟩

/-- How many limbs a number has. -/
def sz (n : Nat) : Nat := (limbs n).length
theorem sz_le {n k : Nat} (h : n < 4294967296 ^ k) : sz n ≤ k := (limbs_length_le n k).2 h
theorem lt_sz (n : Nat) : n < 4294967296 ^ sz n := (limbs_length_le n (sz n)).1 (Nat.le_refl _)
theorem sz_mono {a b : Nat} (h : a ≤ b) : sz a ≤ sz b := sz_le (Nat.lt_of_le_of_lt h (lt_sz b))
theorem sz_val {l : List Nat} (h : Lim l) : sz (val l) ≤ l.length := sz_le (val_lt h)
theorem sz_num {w : World} {v : Value} {l : List Nat} {n : Nat} (h : Num w v l n) : sz n ≤ l.length := by rw [← h.val]; exact sz_val h.lim
theorem sz_add (a b : Nat) : sz (a + b) ≤ max (sz a) (sz b) + 1 := by
  refine sz_le ?_
  have ha := lt_sz a
  have hb := lt_sz b
  have h1 : 4294967296 ^ sz a ≤ 4294967296 ^ max (sz a) (sz b) := Nat.pow_le_pow_right (by decide) (Nat.le_max_left _ _)
  have h2 : 4294967296 ^ sz b ≤ 4294967296 ^ max (sz a) (sz b) := Nat.pow_le_pow_right (by decide) (Nat.le_max_right _ _)
  rw [Nat.pow_succ]
  omega
theorem sz_mul (a b : Nat) : sz (a * b) ≤ sz a + sz b := by
  refine sz_le ?_
  rw [Nat.pow_add]
  exact Nat.mul_lt_mul'' (lt_sz a) (lt_sz b)
theorem sz_div (a b : Nat) : sz (a / b) ≤ sz a := sz_mono (Nat.div_le_self _ _)
theorem sz_mod (a b : Nat) : sz (a % b) ≤ sz a := sz_mono (Nat.mod_le _ _)
theorem sz_sub (a b : Nat) : sz (a - b) ≤ sz a := sz_mono (Nat.sub_le _ _)

theorem Gives.num {e : TypeId} {w w' : World} {v : Value} {n : Nat} (h : Gives e encU w w' v (limbs n)) (hn : sz n ≤ 100000) : Num w' v (limbs n) n := ⟨h.arg, limbs_lim n, hn, val_limbs n⟩

/-! Numbers of 64 bits as the walk writes them. -/
theorem u64_mask (n : Int) : Go.bits .and .u64 n 4294967295 = n % 4294967296 := by
  show IntKind.u64.wrap ((BitVec.ofInt 64 n &&& BitVec.ofInt 64 4294967295).toNat : Int) = _
  have h1 : (BitVec.ofInt 64 n &&& BitVec.ofInt 64 4294967295).toNat = (BitVec.ofInt 64 n).toNat % 4294967296 := by
    rw [BitVec.toNat_and]
    have : (BitVec.ofInt 64 4294967295).toNat = 2 ^ 32 - 1 := by decide
    rw [this, Nat.and_two_pow_sub_one_eq_mod]
  rw [h1, BitVec.toNat_ofInt, IntKind.wrap_u64]
  omega
theorem u64_or_lo (s x i : Nat) (hs : s < 2 ^ i) (hx : x * 2 ^ i + s < 18446744073709551616) : Go.bits .or .u64 (s : Int) ((x * 2 ^ i : Nat) : Int) = ((x * 2 ^ i + s : Nat) : Int) := by
  rw [u64_or_nat _ _ (by omega) (by omega), Nat.or_comm]
  congr 1
  rw [← Nat.shiftLeft_eq]
  exact (Nat.shiftLeft_add_eq_or_of_lt hs x).symm
theorem u64_or_hi (s x i : Nat) (hs : s < 2 ^ i) (hx : x * 2 ^ i + s < 18446744073709551616) : Go.bits .or .u64 ((x * 2 ^ i : Nat) : Int) (s : Int) = ((x * 2 ^ i + s : Nat) : Int) := by
  rw [u64_or_nat _ _ (by omega) (by omega)]
  congr 1
  rw [← Nat.shiftLeft_eq]
  exact (Nat.shiftLeft_add_eq_or_of_lt hs x).symm
/-- A limb laid above another one. -/
theorem u64_join (a s : Nat) (ha : a < 4294967296) (hs : s < 4294967296) : Go.bits .or .u64 ((a : Int) * 4294967296) (s : Int) = (a : Int) * 4294967296 + (s : Int) := by
  have h := u64_or_hi s a 32 (by omega) (by omega)
  have e : ((a * 2 ^ 32 : Nat) : Int) = (a : Int) * 4294967296 := by simp
  have e2 : ((a * 2 ^ 32 + s : Nat) : Int) = (a : Int) * 4294967296 + (s : Int) := by simp
  rw [e, e2] at h
  exact h
/-- The k-th limb of two, laid above those below. -/
theorem small_step (k x s : Nat) (hk : k < 2) (hx : x < 4294967296) (hs : s < 4294967296 ^ k) : Go.bits .or .u64 (s : Int) (IntKind.u64.wrap ((x : Int) * 2 ^ (32 * k))) = ((s + 4294967296 ^ k * x : Nat) : Int) := by
  have hw : IntKind.u64.wrap ((x : Int) * 2 ^ (32 * k)) = ((x * 2 ^ (32 * k) : Nat) : Int) := by
    have e : ((x * 2 ^ (32 * k) : Nat) : Int) = (x : Int) * 2 ^ (32 * k) := by simp
    rw [← e]
    refine IntWalk.u64_in _ ?_
    have : k = 0 ∨ k = 1 := by omega
    rcases this with rfl | rfl
    · simp; omega
    · simp; omega
  have e : 4294967296 ^ k = 2 ^ (32 * k) := by rw [Nat.pow_mul]
  have hb : x * 2 ^ (32 * k) + s < 18446744073709551616 := by
    have : k = 0 ∨ k = 1 := by omega
    rcases this with rfl | rfl
    · simp at hs ⊢; omega
    · simp at hs ⊢; omega
  rw [hw, u64_or_lo s x (32 * k) (by rw [← e]; exact hs) hb, e, Nat.mul_comm x, Nat.add_comm]

/-- The state of a slice of limbs that a call builds by append: it is the call's own, its cells are l. -/
def Own (e : TypeId) (base : Nat) (w : World) (v : Value) (l : List Nat) : Prop := w.ownsRow base e 1 v l.length (l.map encU)
theorem Own.gives {e : TypeId} {w w' : World} {v : Value} {l : List Nat} (h : Own e w.heap.size w' v l) (hb : Below w.heap.size w w') : Gives e encU w w' v l := ⟨h, hb⟩
theorem Own.arg {e : TypeId} {base : Nat} {w : World} {v : Value} {l : List Nat} (h : Own e base w v l) : Arg encU w v l := ownsRow_arg h
theorem Own.nil_ (e : TypeId) (base : Nat) (w : World) : Own e base w (.slice none 0 0) [] := World.ownsRow_nil _ _ _ _
theorem Own.row {e : TypeId} {base : Nat} {w : World} {v : Value} {l : List Nat} (h : Own e base w v l) : w.ownsRow base e 1 v l.length (l.map encU) := h
/-- What an append of one limb leaves. -/
theorem Own.pushed {e : TypeId} {w wr w' : World} {v v' : Value} {r : List Nat} {o : Obj} {u : Value} {d : Nat} (h : Own e w.heap.size wr v r) (hb : Below w.heap.size w wr)
    (h' : w'.ownsRow w.heap.size e 1 v' (r.length + 1) (r.map encU ++ [u])) (hg : (wr.alloc o).grownBy w' v.ownBlock) (hu : u = encU d) : Own e w.heap.size w' v' (r ++ [d]) ∧ Below w.heap.size w w' := by
  subst hu
  refine ⟨?_, (hb.alloc hb.size o).grown hg (Nat.le_trans hb.size (by simp)) (fun k hk => (World.ownsRow.lt h k hk).1)⟩
  unfold Own
  rw [List.length_append, List.map_append]
  exact h'
end Go.Num
