import Derived.Test.YtdmghakmhfhpiaaDoorTrim
import Derived.LoopIn
import Derived.Deep.RegionHeld
/- litmusref01.trim, at: what each returns. -/
namespace Go.Proofs.YtdmghakmhfhpiaaDoor
open Go.RowKit Go.Num
attribute [local go_sem] Oper.semAt_some

theorem infoB : (Tryd.prog.info? 4).map (fun i => (i.zero, i.size, i.bytes)) = some (some (.bool false), 1, 1) := by kernel_rfl
def lenOf (v : Value) : Nat := match v with | .slice _ n _ => n | _ => 0

/-- The slice v lies in no block below B. -/
def Far (B : Nat) (v : Value) : Prop := ∀ a n c, v = .slice (some a) n c → B ≤ a.block
theorem Far.same {B : Nat} {A : Option Addr} {n c m d : Nat} (h : Far B (.slice A n c)) : Far B (.slice A m d) := fun a _ _ e => by
  cases e
  exact h a n c rfl
theorem Far.nil_ (B n c : Nat) : Far B (.slice none n c) := fun _ _ _ e => by cases e
theorem Far.mono {B B' : Nat} {v : Value} (h : Far B v) (hb : B' ≤ B) : Far B' v := fun a n c e => Nat.le_trans hb (h a n c e)
theorem Arg.setFar {α : Type} {enc : α → Value} {w : World} {v : Value} {l : List α} {B g j : Nat} {u : Value} (h : Arg enc w v l) (hf : Far B v) (hg : g < B) : Arg enc (w.setCell ⟨g, j, none⟩ u) v l := by
  obtain ⟨A, c, rfl, hc, hr⟩ := h
  refine ⟨A, c, rfl, hc, fun h0 => ?_⟩
  obtain ⟨b, o, rfl, hx⟩ := hr h0
  refine ⟨b, o, rfl, fun i x hi => ?_⟩
  have hb : B ≤ b := hf ⟨b, o, none⟩ l.length c rfl
  rw [World.cell?_setCell_far _ _ _ _ (by show g ≠ b; omega)]
  exact hx i x hi

set_option maxHeartbeats 1000000 in
theorem rtrim_far (w : World) (v : Value) (l : List Bool) (h : Arg encB w v l) (hb : l.length ≤ 100000000) :
    Calls Tryd.prog 60 #[v] w fun e w' => ∃ v', e = .returned v' ∧ w' = w ∧ Arg encB w v' (btz l) ∧ (∀ B, Far B v → Far B v') := by
  obtain ⟨A, c, rfl, hc, hr⟩ := h.open_
  clear h
  have fin : ∀ k, k ≤ l.length → Hid (∀ i x, k ≤ i → l[i]? = some x → x = false) → (∀ x, 0 < k → l[k - 1]? = some x → x = true) → l.take k = btz l := fun k hk Hz hx => btake_tz hk Hz.out hx
  have Hfin := Lib.hid fin
  clear fin
  go_enter Tryd.func60, Tryd.ntmps60
  go_wp2
  go_loop [0] (fun s => ∃ k : Nat, k ≤ l.length ∧ s = .slice A k c ∧ Hid (∀ i x, k ≤ i → l[i]? = some x → x = false)) (fun s => lenOf s)
  case atStart => exact ⟨l.length, Nat.le_refl _, rfl, fun i x hi hx => by have := len_of_get hx; omega⟩
  case round =>
    obtain ⟨k, hk, rfl, Hz⟩ := hrel
    rcases Nat.eq_zero_or_pos k with h0 | h0
    · subst h0
      go_wp2_with fail
      go_ret
      exact ⟨_, rfl, rfl, Arg.mk_ (by rw [← Hfin.out 0 (by omega) Hz (fun x h => by omega)]; simp) (by omega) (by rw [← Hfin.out 0 (by omega) Hz (fun x h => by omega)]; exact hr.take 0), fun B hB => hB.same⟩
    · obtain ⟨x, hx⟩ := get_some (l := l) (k := k - 1) (by omega)
      obtain ⟨b, o, rfl, hc1⟩ := hr.at_ hx
      have Hx := Lib.hid hx
      clear hx
      cases x with
      | false =>
        go_wp2_with fail
        go_round
        case rel =>
          refine ⟨k - 1, by omega, by go_num, fun i y hi hy => ?_⟩
          by_cases e : i = k - 1
          · rw [e, Hx.out] at hy; simpa using hy.symm
          · exact Hz.out i y (by omega) hy
        case measure => simp [lenOf]; omega
      | true =>
        go_wp2_with fail
        go_ret
        have e := Hfin.out k hk Hz (fun y _ hy => by rw [Hx.out] at hy; cases hy; rfl)
        exact ⟨_, rfl, rfl, Arg.mk_ (by rw [← e, List.length_take]; omega) (by omega) (by rw [← e]; exact hr.take k), fun B hB => hB.same⟩

theorem rtrim_any (w : World) (v : Value) (l : List Bool) (h : Arg encB w v l) (hb : l.length ≤ 100000000) :
    Calls Tryd.prog 60 #[v] w fun e w' => ∃ v', e = .returned v' ∧ w' = w ∧ Arg encB w v' (btz l) :=
  (rtrim_far w v l h hb).mono fun _ _ ⟨v', h1, h2, h3, _⟩ => ⟨v', h1, h2, h3⟩

set_option maxHeartbeats 1000000 in
theorem at_any (w : World) (v : Value) (l : List Bool) (i : Nat) (h : Arg encB w v l) (_hb : l.length ≤ 100000000) :
    Calls Tryd.prog 70 #[v, .int .i64 i] w fun e w' => e = .returned (.bool (l[i]?.getD false)) ∧ w' = w := by
  obtain ⟨A, c, rfl, hc, hr⟩ := h.open_
  by_cases hi : i < l.length
  · obtain ⟨x, hx⟩ := get_some hi
    obtain ⟨b, o, rfl, hc1⟩ := hr.at_ hx
    rw [hx]
    clear hr h hx
    go_enter Tryd.func70, Tryd.ntmps70
    go_wp2_with fail
    go_ret
    exact ⟨rfl, rfl⟩
  · rw [List.getElem?_eq_none (by omega)]
    clear hr h
    go_enter Tryd.func70, Tryd.ntmps70
    go_wp2_with fail
    go_ret
    exact ⟨rfl, rfl⟩

/-- A row of bits that a call builds by append. -/
def OwnB (e : TypeId) (base : Nat) (w : World) (v : Value) (l : List Bool) : Prop := w.ownsRow base e 1 v l.length (l.map encB)
theorem OwnB.arg {e : TypeId} {base : Nat} {w : World} {v : Value} {l : List Bool} (h : OwnB e base w v l) : Arg encB w v l := ownsRow_arg h
theorem OwnB.far {e : TypeId} {base : Nat} {w : World} {v : Value} {l : List Bool} (h : OwnB e base w v l) : Far base v := fun a n c ev => by
  subst ev
  exact (World.ownsRow.lt h a.block (by rcases h.2 with ⟨e0, _⟩ | ⟨g, cap, cur, e0, _⟩ <;> cases e0; rfl)).1
theorem OwnB.nil_ (e : TypeId) (base : Nat) (w : World) : OwnB e base w (.slice none 0 0) [] := World.ownsRow_nil _ _ _ _
theorem OwnB.row {e : TypeId} {base : Nat} {w : World} {v : Value} {l : List Bool} (h : OwnB e base w v l) : w.ownsRow base e 1 v l.length (l.map encB) := h
theorem OwnB.pushed {e : TypeId} {w wr w' : World} {v v' : Value} {r : List Bool} {o : Obj} {u : Value} {d : Bool} (h : OwnB e w.heap.size wr v r) (hb : Below w.heap.size w wr)
    (h' : w'.ownsRow w.heap.size e 1 v' (r.length + 1) (r.map encB ++ [u])) (hg : (wr.alloc o).grownBy w' v.ownBlock) (hu : u = encB d) : OwnB e w.heap.size w' v' (r ++ [d]) ∧ Below w.heap.size w w' := by
  subst hu
  refine ⟨?_, (hb.alloc hb.size o).grown hg (Nat.le_trans hb.size (by simp)) (fun k hk => (World.ownsRow.lt h k hk).1)⟩
  unfold OwnB
  rw [List.length_append, List.map_append]
  exact h'
end Go.Proofs.YtdmghakmhfhpiaaDoor
