import Derived.Test.YtbippecchpaleaaGreatDoorOwn
import Derived.Test.YtbippecchpaleaaGreatDoorLate
import Derived.Test.YtbippecchpaleaaGreatDoorGAr
import Derived.BigRegion
import Derived.RegionTactic
import Derived.Deep.Upon
/- Words for litmuslaw02.BigShares: answers whose rows are their own, a row of twelve of them; a row copied. -/
namespace Go.Proofs.YtbippecchpaleaaGreatDoor
open Go Go.RowKit Go.Num Go.Kp
attribute [local go_sem] Oper.semAt_some u64_mask ev_const ev_func ev_global
/-- A whole number whose row is the answer's own, whatever it is. -/
def OZ (B : Nat) (w : World) (v : Value) : Prop := ∃ n A k c, v = .agg #[.bool n, .slice A k c] ∧ RowO B w (.slice A k c)
/-- A sign and a row, read by the row. -/
def XV (w : World) (v : Value) (n : Bool) (l : List Nat) (x : Nat) : Prop := ∃ A c, v = .agg #[.bool n, .slice A l.length c] ∧ Num w (.slice A l.length c) l x
/-- Twelve of them, in block b. -/
def OutC (B : Nat) (w : World) (b : Nat) (cs : Array Value) : Prop := BoxN w b 24 cs ∧ ∀ i, i < 12 → ∃ n A k c, cs[i * 2]? = some (.bool n) ∧ cs[i * 2 + 1]? = some (.slice A k c) ∧ RowO B w (.slice A k c)
def OutV (B : Nat) (w : World) (v : Value) : Prop := ∃ b cs, v = .slice (some ⟨b, 0, none⟩) 12 12 ∧ OutC B w b cs
section
variable {B : Nat} {w w' : World} {v : Value} {n : Bool} {l : List Nat} {x : Nat}
theorem OZ.grow (h : OZ B w v) (hb : Grows w w') : OZ B w' v := by
  obtain ⟨n, A, k, c, e, o⟩ := h
  exact ⟨n, A, k, c, e, o.grow hb⟩
theorem XV.grow (h : XV w v n l x) (hb : Grows w w') : XV w' v n l x := by
  obtain ⟨A, c, e, s⟩ := h
  exact ⟨A, c, e, s.below hb⟩
theorem OutC.grow {b : Nat} {cs : Array Value} (h : OutC B w b cs) (hb : Grows w w') : OutC B w' b cs := by
  refine ⟨BoxN.below h.1 hb, fun i hi => ?_⟩
  obtain ⟨n, A, k, c, e1, e2, o⟩ := h.2 i hi
  exact ⟨n, A, k, c, e1, e2, o.grow hb⟩
theorem OutV.grow (h : OutV B w v) (hb : Grows w w') : OutV B w' v := by
  obtain ⟨b, cs, e, o⟩ := h
  exact ⟨b, cs, e, o.grow hb⟩
theorem OutC.set {b g j : Nat} {cs : Array Value} (h : OutC B w b cs) (hg : g ≠ b) (z : Nat) (hz : z < 4294967296) : OutC B (w.setCell ⟨g, j, none⟩ (.int .u32 (z : Int))).drew b cs := by
  refine ⟨?_, fun i hi => ?_⟩
  · show (w.setCell ⟨g, j, none⟩ _).heap[b]? = _
    rw [heap_setCell_other w ⟨g, j, none⟩ b _ (Ne.symm hg)]
    exact h.1
  · obtain ⟨n, A, k, c, e1, e2, o⟩ := h.2 i hi
    exact ⟨n, A, k, c, e1, e2, (o.set z hz).drew⟩
theorem OutC.apart {b g : Nat} {cs cur : Array Value} (h : OutC B w b cs) (hg : w.heap[g]? = some (.cells cur 43 (0, 0))) : g ≠ b := fun e => by
  subst e
  have h1 := hg.symm.trans h.1
  simp only [Option.some.injEq, Obj.cells.injEq] at h1
  exact absurd h1.2.1 (by decide)
theorem Num.putB {g : Nat} {T : TypeId} {m : Bool} {A : Option Addr} {k c : Nat} (h : Num w v l x) (hb : Box2 w g T (.bool m) (.slice A k c)) (u t : Value) : Num (put2 w g u t) v l x := ⟨h.arg.put hb u t, h.lim, h.len, h.val⟩
theorem XV.put {g : Nat} {T : TypeId} {m : Bool} {A : Option Addr} {k c : Nat} (h : XV w v n l x) (hb : Box2 w g T (.bool m) (.slice A k c)) (u t : Value) : XV (put2 w g u t) v n l x := by
  obtain ⟨A', c', e, s⟩ := h
  exact ⟨A', c', e, Num.putB s hb u t⟩
end
/-- append([]uint32{}, row...): a copy. -/
theorem run_copy (w : World) (b : Addr) {A : Option Addr} {c : Nat} {l : List Nat} {x : Nat} (ty : TypeId) (h : Num w (.slice A l.length c) l x) (hl : l.length ≤ 1000) :
    ∃ v w', (Builtin.append_ #[22, 22] ty #[.slice (some b) 0 0, .slice A l.length c]).run Tryz.prog w = .ok v w' ∧ LV w' v l x ∧ Grows w w' := by
  obtain ⟨i0, hi, hz0, hz1, hz2⟩ := info_parts infoU
  have ht : Tryz.prog.underlying 22 = some (.slice 43) := Tryz.underlying22
  rcases Nat.eq_zero_or_pos l.length with h0 | h0
  · have hl0 : l = [] := List.length_eq_zero_iff.1 h0
    subst hl0
    refine ⟨.slice (some b) 0 0, w, ?_, ⟨some b, 0, rfl, ⟨Arg.nil_ _ _ _ _, h.lim, h.len, h.val⟩⟩, Grows.refl w⟩
    cases A <;> simp [Builtin.append_, run_underlying ht, sizeOf, typeInfo, hi, Builtin.lenOf, Builtin.firstCells, loadCells, loadCellsFrom, storeCells]
  · obtain ⟨A', c', e, hc, hr⟩ := h.arg.open_
    cases e
    obtain ⟨g, o, rfl, hx⟩ := hr h0
    have hnews : ∀ (j : Nat) (v : Value), (l.map encU)[j]? = some v → w.cell? ((⟨g, o, none⟩ : Addr).add j) = some v := fun j v hj => by
      rw [List.getElem?_map] at hj
      cases hq : l[j]? with
      | none => rw [hq] at hj; cases hj
      | some y =>
        rw [hq] at hj
        cases hj
        rw [Addr.add_lit]
        exact hx j y hq
    have hrun := run_append_grow (P := Tryz.prog) (w := w) 22 ty 43 i0 (.int .u32 0) ht hi hz0 b 0 0 [] (by simp) (fun j v hj => by simp at hj) ⟨g, o, none⟩ l.length c (l.map encU) (by rw [List.length_map, hz1, Nat.mul_one]) hnews (by omega) (by omega) (by rw [hz2]; exact growslice_fits (by omega) (by omega))
    refine ⟨_, _, hrun, ?_, (Grows.refl w).drew.alloc _⟩
    simp only [Nat.zero_add]
    refine ⟨_, _, rfl, ⟨Arg.mk_ rfl ?_ fun _ => ⟨_, 0, rfl, fun j y hj => ?_⟩, h.lim, h.len, h.val⟩⟩
    · exact grownCap_ge w l.length 0 43
    · have hj2 := len_of_get hj
      have hnew := heap_alloc_new w.drew (.cells (([] : List Value).toArray ++ (l.map encU).toArray ++ Builtin.zeroCells (Value.cells (.int .u32 0)) (grownCap w l.length 0 43 - l.length)) 43)
      rw [Nat.zero_add]
      refine (cell_of_row _ _ _ _ _ _ hnew).trans ?_
      simp only [Array.empty_append]
      rw [Array.getElem?_append_left (by simpa using hj2)]
      simp [hj]
theorem op_copy {a : Act} {w : World} {d : Option Tmp} {ty : TypeId} {pos : String} {af : Array Edge} {gu : Option (Nat × Bool)} (t t' : Nat) (b : Addr) {A : Option Addr} {c : Nat} {l : List Nat} {x : Nat} (he : ev a (.tmp t) = .slice (some b) 0 0) (he' : ev a (.tmp t') = .slice A l.length c) (h : Num w (.slice A l.length c) l x) (hl : l.length ≤ 1000) :
    ∃ v w', (execOp (ev a) ⟨d, .call { callee := .builtin .append, args := #[.tmp t, .tmp t'], argTypes := #[22, 22] }, ty, pos, af, gu⟩).run Tryz.prog w = .ok (.value v) w' ∧ LV w' v l x ∧ Grows w w' := by
  obtain ⟨v, w', hr, h1, h2⟩ := run_copy w b ty h hl
  refine ⟨v, w', ?_, h1, h2⟩
  unfold execOp
  simp only [resolve, invoke, builtin, Sem.run_bind, Sem.run_pure, Result.andThen_ok, List.map_toArray, List.map_cons, List.map_nil, he, he', hr]
theorem OutV.of {B : Nat} {w : World} {n0 : Bool} {A0 : Option Addr} {k0 c0 : Nat} {n1 : Bool} {A1 : Option Addr} {k1 c1 : Nat} {n2 : Bool} {A2 : Option Addr} {k2 c2 : Nat} {n3 : Bool} {A3 : Option Addr} {k3 c3 : Nat} {n4 : Bool} {A4 : Option Addr} {k4 c4 : Nat} {n5 : Bool} {A5 : Option Addr} {k5 c5 : Nat} {n6 : Bool} {A6 : Option Addr} {k6 c6 : Nat} {n7 : Bool} {A7 : Option Addr} {k7 c7 : Nat} {n8 : Bool} {A8 : Option Addr} {k8 c8 : Nat} {n9 : Bool} {A9 : Option Addr} {k9 c9 : Nat} {n10 : Bool} {A10 : Option Addr} {k10 c10 : Nat} {n11 : Bool} {A11 : Option Addr} {k11 c11 : Nat} (r0 : RowO B w (.slice A0 k0 c0)) (r1 : RowO B w (.slice A1 k1 c1)) (r2 : RowO B w (.slice A2 k2 c2)) (r3 : RowO B w (.slice A3 k3 c3)) (r4 : RowO B w (.slice A4 k4 c4)) (r5 : RowO B w (.slice A5 k5 c5)) (r6 : RowO B w (.slice A6 k6 c6)) (r7 : RowO B w (.slice A7 k7 c7)) (r8 : RowO B w (.slice A8 k8 c8)) (r9 : RowO B w (.slice A9 k9 c9)) (r10 : RowO B w (.slice A10 k10 c10)) (r11 : RowO B w (.slice A11 k11 c11)) : OutV B (w.alloc (.cells #[.bool n0, .slice A0 k0 c0, .bool n1, .slice A1 k1 c1, .bool n2, .slice A2 k2 c2, .bool n3, .slice A3 k3 c3, .bool n4, .slice A4 k4 c4, .bool n5, .slice A5 k5 c5, .bool n6, .slice A6 k6 c6, .bool n7, .slice A7 k7 c7, .bool n8, .slice A8 k8 c8, .bool n9, .slice A9 k9 c9, .bool n10, .slice A10 k10 c10, .bool n11, .slice A11 k11 c11] 24)) (.slice (some ⟨w.heap.size, 0, none⟩) 12 12) := by
  refine ⟨w.heap.size, _, rfl, BoxN.new w _ _, fun i hi => ?_⟩
  have hg : Grows w (w.alloc (.cells #[.bool n0, .slice A0 k0 c0, .bool n1, .slice A1 k1 c1, .bool n2, .slice A2 k2 c2, .bool n3, .slice A3 k3 c3, .bool n4, .slice A4 k4 c4, .bool n5, .slice A5 k5 c5, .bool n6, .slice A6 k6 c6, .bool n7, .slice A7 k7 c7, .bool n8, .slice A8 k8 c8, .bool n9, .slice A9 k9 c9, .bool n10, .slice A10 k10 c10, .bool n11, .slice A11 k11 c11] 24)) := (Grows.refl _).alloc _
  rcases i with _ | _ | _ | _ | _ | _ | _ | _ | _ | _ | _ | _ | i
  · exact ⟨_, _, _, _, rfl, rfl, r0.grow hg⟩
  · exact ⟨_, _, _, _, rfl, rfl, r1.grow hg⟩
  · exact ⟨_, _, _, _, rfl, rfl, r2.grow hg⟩
  · exact ⟨_, _, _, _, rfl, rfl, r3.grow hg⟩
  · exact ⟨_, _, _, _, rfl, rfl, r4.grow hg⟩
  · exact ⟨_, _, _, _, rfl, rfl, r5.grow hg⟩
  · exact ⟨_, _, _, _, rfl, rfl, r6.grow hg⟩
  · exact ⟨_, _, _, _, rfl, rfl, r7.grow hg⟩
  · exact ⟨_, _, _, _, rfl, rfl, r8.grow hg⟩
  · exact ⟨_, _, _, _, rfl, rfl, r9.grow hg⟩
  · exact ⟨_, _, _, _, rfl, rfl, r10.grow hg⟩
  · exact ⟨_, _, _, _, rfl, rfl, r11.grow hg⟩
  · omega
end Go.Proofs.YtbippecchpaleaaGreatDoor

