import Derived.Test.YtbippecchpaleaaGreatDoorGRatF
import Derived.Test.YtbippecchpaleaaGreatDoorKept3
/- litmuslaw03.RatTexts returns true. -/
namespace Go.Num
open Go Go.RowKit Go.Kp
/-- The value is right, and is some fraction. -/
def AnyR (w : World) (v : Value) : Prop := ∃ q, RV w v q
theorem AnyR.grow {w w' : World} {v : Value} (h : AnyR w v) (hb : Grows w w') : AnyR w' v := by
  obtain ⟨q, h⟩ := h
  exact ⟨q, h.grow hb⟩
theorem RV.below {w w' : World} {v : Value} {q : Rat} (h : RV w v q) (hb : Below w.heap.size w w') : RV w' v q := h.grow hb
/-- Six fractions in one value. -/
def SixV (P : World → Value → Prop) (w : World) (v : Value) : Prop := ∃ L : Nat → Bool × Option Addr × Nat × Nat × Option Addr × Nat × Nat, v = .agg #[.bool (L 0).1, .slice (L 0).2.1 (L 0).2.2.1 (L 0).2.2.2.1, .slice (L 0).2.2.2.2.1 (L 0).2.2.2.2.2.1 (L 0).2.2.2.2.2.2, .bool (L 1).1, .slice (L 1).2.1 (L 1).2.2.1 (L 1).2.2.2.1, .slice (L 1).2.2.2.2.1 (L 1).2.2.2.2.2.1 (L 1).2.2.2.2.2.2, .bool (L 2).1, .slice (L 2).2.1 (L 2).2.2.1 (L 2).2.2.2.1, .slice (L 2).2.2.2.2.1 (L 2).2.2.2.2.2.1 (L 2).2.2.2.2.2.2, .bool (L 3).1, .slice (L 3).2.1 (L 3).2.2.1 (L 3).2.2.2.1, .slice (L 3).2.2.2.2.1 (L 3).2.2.2.2.2.1 (L 3).2.2.2.2.2.2, .bool (L 4).1, .slice (L 4).2.1 (L 4).2.2.1 (L 4).2.2.2.1, .slice (L 4).2.2.2.2.1 (L 4).2.2.2.2.2.1 (L 4).2.2.2.2.2.2, .bool (L 5).1, .slice (L 5).2.1 (L 5).2.2.1 (L 5).2.2.2.1, .slice (L 5).2.2.2.2.1 (L 5).2.2.2.2.2.1 (L 5).2.2.2.2.2.2] ∧ ∀ i, i < 6 → P w (.agg #[.bool (L i).1, .slice (L i).2.1 (L i).2.2.1 (L i).2.2.2.1, .slice (L i).2.2.2.2.1 (L i).2.2.2.2.2.1 (L i).2.2.2.2.2.2])
theorem SixV.grow {P : World → Value → Prop} {w w' : World} {v : Value} (hP : ∀ w w' v, P w v → Grows w w' → P w' v) (h : SixV P w v) (hb : Grows w w') : SixV P w' v := by
  obtain ⟨L, e, h⟩ := h
  exact ⟨L, e, fun i hi => hP _ _ _ (h i hi) hb⟩
theorem SixV.of {P : World → Value → Prop} {w : World} {n0 : Bool} {A0 B0 : Option Addr} {k0 c0 j0 d0 : Nat} {n1 : Bool} {A1 B1 : Option Addr} {k1 c1 j1 d1 : Nat} {n2 : Bool} {A2 B2 : Option Addr} {k2 c2 j2 d2 : Nat} {n3 : Bool} {A3 B3 : Option Addr} {k3 c3 j3 d3 : Nat} {n4 : Bool} {A4 B4 : Option Addr} {k4 c4 j4 d4 : Nat} {n5 : Bool} {A5 B5 : Option Addr} {k5 c5 j5 d5 : Nat} (h0 : P w (.agg #[.bool n0, .slice A0 k0 c0, .slice B0 j0 d0])) (h1 : P w (.agg #[.bool n1, .slice A1 k1 c1, .slice B1 j1 d1])) (h2 : P w (.agg #[.bool n2, .slice A2 k2 c2, .slice B2 j2 d2])) (h3 : P w (.agg #[.bool n3, .slice A3 k3 c3, .slice B3 j3 d3])) (h4 : P w (.agg #[.bool n4, .slice A4 k4 c4, .slice B4 j4 d4])) (h5 : P w (.agg #[.bool n5, .slice A5 k5 c5, .slice B5 j5 d5])) : SixV P w (.agg #[.bool n0, .slice A0 k0 c0, .slice B0 j0 d0, .bool n1, .slice A1 k1 c1, .slice B1 j1 d1, .bool n2, .slice A2 k2 c2, .slice B2 j2 d2, .bool n3, .slice A3 k3 c3, .slice B3 j3 d3, .bool n4, .slice A4 k4 c4, .slice B4 j4 d4, .bool n5, .slice A5 k5 c5, .slice B5 j5 d5]) := by
  refine ⟨fun i => match i with | 0 => (n0, A0, k0, c0, B0, j0, d0) | 1 => (n1, A1, k1, c1, B1, j1, d1) | 2 => (n2, A2, k2, c2, B2, j2, d2) | 3 => (n3, A3, k3, c3, B3, j3, d3) | 4 => (n4, A4, k4, c4, B4, j4, d4) | _ => (n5, A5, k5, c5, B5, j5, d5), rfl, fun i hi => ?_⟩
  match i, hi with
  | 0, _ => exact h0
  | 1, _ => exact h1
  | 2, _ => exact h2
  | 3, _ => exact h3
  | 4, _ => exact h4
  | 5, _ => exact h5
end Go.Num
namespace Go.Proofs.YtbippecchpaleaaGreatDoor
open Go.RowKit Go.Num Go.Kp
attribute [local go_sem] Oper.semAt_some u64_mask ev_const ev_func ev_global
section
variable {a : Act} {w : World} {d : Option Tmp} {ty : TypeId} {pos : String} {af : Array Edge} {gu : Option (Nat × Bool)}
set_option maxRecDepth 100000 in
theorem op_six (t0 t1 t2 t3 t4 t5 : Nat) {n0 : Bool} {A0 B0 : Option Addr} {k0 c0 j0 d0 : Nat} {n1 : Bool} {A1 B1 : Option Addr} {k1 c1 j1 d1 : Nat} {n2 : Bool} {A2 B2 : Option Addr} {k2 c2 j2 d2 : Nat} {n3 : Bool} {A3 B3 : Option Addr} {k3 c3 j3 d3 : Nat} {n4 : Bool} {A4 B4 : Option Addr} {k4 c4 j4 d4 : Nat} {n5 : Bool} {A5 B5 : Option Addr} {k5 c5 j5 d5 : Nat} (he0 : ev a (.tmp t0) = .agg #[.bool n0, .slice A0 k0 c0, .slice B0 j0 d0]) (he1 : ev a (.tmp t1) = .agg #[.bool n1, .slice A1 k1 c1, .slice B1 j1 d1]) (he2 : ev a (.tmp t2) = .agg #[.bool n2, .slice A2 k2 c2, .slice B2 j2 d2]) (he3 : ev a (.tmp t3) = .agg #[.bool n3, .slice A3 k3 c3, .slice B3 j3 d3]) (he4 : ev a (.tmp t4) = .agg #[.bool n4, .slice A4 k4 c4, .slice B4 j4 d4]) (he5 : ev a (.tmp t5) = .agg #[.bool n5, .slice A5 k5 c5, .slice B5 j5 d5]) :
    (execOp (ev a) ⟨d, .build 55 #[(0, .tmp t0), (1, .tmp t1), (2, .tmp t2), (3, .tmp t3), (4, .tmp t4), (5, .tmp t5)], ty, pos, af, gu⟩).run Tryz.prog w = .ok (.value (.agg #[.bool n0, .slice A0 k0 c0, .slice B0 j0 d0, .bool n1, .slice A1 k1 c1, .slice B1 j1 d1, .bool n2, .slice A2 k2 c2, .slice B2 j2 d2, .bool n3, .slice A3 k3 c3, .slice B3 j3 d3, .bool n4, .slice A4 k4 c4, .slice B4 j4 d4, .bool n5, .slice A5 k5 c5, .slice B5 j5 d5])) w := by
  have h := run_build (P := Tryz.prog) w 55 #[(0, .agg #[.bool n0, .slice A0 k0 c0, .slice B0 j0 d0]), (1, .agg #[.bool n1, .slice A1 k1 c1, .slice B1 j1 d1]), (2, .agg #[.bool n2, .slice A2 k2 c2, .slice B2 j2 d2]), (3, .agg #[.bool n3, .slice A3 k3 c3, .slice B3 j3 d3]), (4, .agg #[.bool n4, .slice A4 k4 c4, .slice B4 j4 d4]), (5, .agg #[.bool n5, .slice A5 k5 c5, .slice B5 j5 d5])] #[.bool n0, .slice A0 k0 c0, .slice B0 j0 d0, .bool n1, .slice A1 k1 c1, .slice B1 j1 d1, .bool n2, .slice A2 k2 c2, .slice B2 j2 d2, .bool n3, .slice A3 k3 c3, .slice B3 j3 d3, .bool n4, .slice A4 k4 c4, .slice B4 j4 d4, .bool n5, .slice A5 k5 c5, .slice B5 j5 d5] (by kernel_rfl)
  simp only [execOp, List.map_toArray, List.map_cons, List.map_nil, he0, he1, he2, he3, he4, he5, go_sem]
  go_simp
set_option maxRecDepth 100000 in
theorem op_index6 (t t' k : Nat) (hk : k < 6) {L : Nat → Bool × Option Addr × Nat × Nat × Option Addr × Nat × Nat} (he : ev a (.tmp t) = .agg #[.bool (L 0).1, .slice (L 0).2.1 (L 0).2.2.1 (L 0).2.2.2.1, .slice (L 0).2.2.2.2.1 (L 0).2.2.2.2.2.1 (L 0).2.2.2.2.2.2, .bool (L 1).1, .slice (L 1).2.1 (L 1).2.2.1 (L 1).2.2.2.1, .slice (L 1).2.2.2.2.1 (L 1).2.2.2.2.2.1 (L 1).2.2.2.2.2.2, .bool (L 2).1, .slice (L 2).2.1 (L 2).2.2.1 (L 2).2.2.2.1, .slice (L 2).2.2.2.2.1 (L 2).2.2.2.2.2.1 (L 2).2.2.2.2.2.2, .bool (L 3).1, .slice (L 3).2.1 (L 3).2.2.1 (L 3).2.2.2.1, .slice (L 3).2.2.2.2.1 (L 3).2.2.2.2.2.1 (L 3).2.2.2.2.2.2, .bool (L 4).1, .slice (L 4).2.1 (L 4).2.2.1 (L 4).2.2.2.1, .slice (L 4).2.2.2.2.1 (L 4).2.2.2.2.2.1 (L 4).2.2.2.2.2.2, .bool (L 5).1, .slice (L 5).2.1 (L 5).2.2.1 (L 5).2.2.2.1, .slice (L 5).2.2.2.2.1 (L 5).2.2.2.2.2.1 (L 5).2.2.2.2.2.2]) (he' : ev a (.tmp t') = .int .i64 k) :
    (execOp (ev a) ⟨d, .index 55 (.tmp t) (.tmp t'), ty, pos, af, gu⟩).run Tryz.prog w = .ok (.value (.agg #[.bool (L k).1, .slice (L k).2.1 (L k).2.2.1 (L k).2.2.2.1, .slice (L k).2.2.2.2.1 (L k).2.2.2.2.2.1 (L k).2.2.2.2.2.2])) w := by
  match k, hk with
  | 0, _ =>
    have h : ∀ w : World, (Instr.index 55 (.agg #[.bool (L 0).1, .slice (L 0).2.1 (L 0).2.2.1 (L 0).2.2.2.1, .slice (L 0).2.2.2.2.1 (L 0).2.2.2.2.2.1 (L 0).2.2.2.2.2.2, .bool (L 1).1, .slice (L 1).2.1 (L 1).2.2.1 (L 1).2.2.2.1, .slice (L 1).2.2.2.2.1 (L 1).2.2.2.2.2.1 (L 1).2.2.2.2.2.2, .bool (L 2).1, .slice (L 2).2.1 (L 2).2.2.1 (L 2).2.2.2.1, .slice (L 2).2.2.2.2.1 (L 2).2.2.2.2.2.1 (L 2).2.2.2.2.2.2, .bool (L 3).1, .slice (L 3).2.1 (L 3).2.2.1 (L 3).2.2.2.1, .slice (L 3).2.2.2.2.1 (L 3).2.2.2.2.2.1 (L 3).2.2.2.2.2.2, .bool (L 4).1, .slice (L 4).2.1 (L 4).2.2.1 (L 4).2.2.2.1, .slice (L 4).2.2.2.2.1 (L 4).2.2.2.2.2.1 (L 4).2.2.2.2.2.2, .bool (L 5).1, .slice (L 5).2.1 (L 5).2.2.1 (L 5).2.2.2.1, .slice (L 5).2.2.2.2.1 (L 5).2.2.2.2.2.1 (L 5).2.2.2.2.2.2]) (.int .i64 0)).run Tryz.prog w = .ok (.agg #[.bool (L 0).1, .slice (L 0).2.1 (L 0).2.2.1 (L 0).2.2.2.1, .slice (L 0).2.2.2.2.1 (L 0).2.2.2.2.2.1 (L 0).2.2.2.2.2.2]) w := fun w => by kernel_rfl
    go_simp
  | 1, _ =>
    have h : ∀ w : World, (Instr.index 55 (.agg #[.bool (L 0).1, .slice (L 0).2.1 (L 0).2.2.1 (L 0).2.2.2.1, .slice (L 0).2.2.2.2.1 (L 0).2.2.2.2.2.1 (L 0).2.2.2.2.2.2, .bool (L 1).1, .slice (L 1).2.1 (L 1).2.2.1 (L 1).2.2.2.1, .slice (L 1).2.2.2.2.1 (L 1).2.2.2.2.2.1 (L 1).2.2.2.2.2.2, .bool (L 2).1, .slice (L 2).2.1 (L 2).2.2.1 (L 2).2.2.2.1, .slice (L 2).2.2.2.2.1 (L 2).2.2.2.2.2.1 (L 2).2.2.2.2.2.2, .bool (L 3).1, .slice (L 3).2.1 (L 3).2.2.1 (L 3).2.2.2.1, .slice (L 3).2.2.2.2.1 (L 3).2.2.2.2.2.1 (L 3).2.2.2.2.2.2, .bool (L 4).1, .slice (L 4).2.1 (L 4).2.2.1 (L 4).2.2.2.1, .slice (L 4).2.2.2.2.1 (L 4).2.2.2.2.2.1 (L 4).2.2.2.2.2.2, .bool (L 5).1, .slice (L 5).2.1 (L 5).2.2.1 (L 5).2.2.2.1, .slice (L 5).2.2.2.2.1 (L 5).2.2.2.2.2.1 (L 5).2.2.2.2.2.2]) (.int .i64 1)).run Tryz.prog w = .ok (.agg #[.bool (L 1).1, .slice (L 1).2.1 (L 1).2.2.1 (L 1).2.2.2.1, .slice (L 1).2.2.2.2.1 (L 1).2.2.2.2.2.1 (L 1).2.2.2.2.2.2]) w := fun w => by kernel_rfl
    go_simp
  | 2, _ =>
    have h : ∀ w : World, (Instr.index 55 (.agg #[.bool (L 0).1, .slice (L 0).2.1 (L 0).2.2.1 (L 0).2.2.2.1, .slice (L 0).2.2.2.2.1 (L 0).2.2.2.2.2.1 (L 0).2.2.2.2.2.2, .bool (L 1).1, .slice (L 1).2.1 (L 1).2.2.1 (L 1).2.2.2.1, .slice (L 1).2.2.2.2.1 (L 1).2.2.2.2.2.1 (L 1).2.2.2.2.2.2, .bool (L 2).1, .slice (L 2).2.1 (L 2).2.2.1 (L 2).2.2.2.1, .slice (L 2).2.2.2.2.1 (L 2).2.2.2.2.2.1 (L 2).2.2.2.2.2.2, .bool (L 3).1, .slice (L 3).2.1 (L 3).2.2.1 (L 3).2.2.2.1, .slice (L 3).2.2.2.2.1 (L 3).2.2.2.2.2.1 (L 3).2.2.2.2.2.2, .bool (L 4).1, .slice (L 4).2.1 (L 4).2.2.1 (L 4).2.2.2.1, .slice (L 4).2.2.2.2.1 (L 4).2.2.2.2.2.1 (L 4).2.2.2.2.2.2, .bool (L 5).1, .slice (L 5).2.1 (L 5).2.2.1 (L 5).2.2.2.1, .slice (L 5).2.2.2.2.1 (L 5).2.2.2.2.2.1 (L 5).2.2.2.2.2.2]) (.int .i64 2)).run Tryz.prog w = .ok (.agg #[.bool (L 2).1, .slice (L 2).2.1 (L 2).2.2.1 (L 2).2.2.2.1, .slice (L 2).2.2.2.2.1 (L 2).2.2.2.2.2.1 (L 2).2.2.2.2.2.2]) w := fun w => by kernel_rfl
    go_simp
  | 3, _ =>
    have h : ∀ w : World, (Instr.index 55 (.agg #[.bool (L 0).1, .slice (L 0).2.1 (L 0).2.2.1 (L 0).2.2.2.1, .slice (L 0).2.2.2.2.1 (L 0).2.2.2.2.2.1 (L 0).2.2.2.2.2.2, .bool (L 1).1, .slice (L 1).2.1 (L 1).2.2.1 (L 1).2.2.2.1, .slice (L 1).2.2.2.2.1 (L 1).2.2.2.2.2.1 (L 1).2.2.2.2.2.2, .bool (L 2).1, .slice (L 2).2.1 (L 2).2.2.1 (L 2).2.2.2.1, .slice (L 2).2.2.2.2.1 (L 2).2.2.2.2.2.1 (L 2).2.2.2.2.2.2, .bool (L 3).1, .slice (L 3).2.1 (L 3).2.2.1 (L 3).2.2.2.1, .slice (L 3).2.2.2.2.1 (L 3).2.2.2.2.2.1 (L 3).2.2.2.2.2.2, .bool (L 4).1, .slice (L 4).2.1 (L 4).2.2.1 (L 4).2.2.2.1, .slice (L 4).2.2.2.2.1 (L 4).2.2.2.2.2.1 (L 4).2.2.2.2.2.2, .bool (L 5).1, .slice (L 5).2.1 (L 5).2.2.1 (L 5).2.2.2.1, .slice (L 5).2.2.2.2.1 (L 5).2.2.2.2.2.1 (L 5).2.2.2.2.2.2]) (.int .i64 3)).run Tryz.prog w = .ok (.agg #[.bool (L 3).1, .slice (L 3).2.1 (L 3).2.2.1 (L 3).2.2.2.1, .slice (L 3).2.2.2.2.1 (L 3).2.2.2.2.2.1 (L 3).2.2.2.2.2.2]) w := fun w => by kernel_rfl
    go_simp
  | 4, _ =>
    have h : ∀ w : World, (Instr.index 55 (.agg #[.bool (L 0).1, .slice (L 0).2.1 (L 0).2.2.1 (L 0).2.2.2.1, .slice (L 0).2.2.2.2.1 (L 0).2.2.2.2.2.1 (L 0).2.2.2.2.2.2, .bool (L 1).1, .slice (L 1).2.1 (L 1).2.2.1 (L 1).2.2.2.1, .slice (L 1).2.2.2.2.1 (L 1).2.2.2.2.2.1 (L 1).2.2.2.2.2.2, .bool (L 2).1, .slice (L 2).2.1 (L 2).2.2.1 (L 2).2.2.2.1, .slice (L 2).2.2.2.2.1 (L 2).2.2.2.2.2.1 (L 2).2.2.2.2.2.2, .bool (L 3).1, .slice (L 3).2.1 (L 3).2.2.1 (L 3).2.2.2.1, .slice (L 3).2.2.2.2.1 (L 3).2.2.2.2.2.1 (L 3).2.2.2.2.2.2, .bool (L 4).1, .slice (L 4).2.1 (L 4).2.2.1 (L 4).2.2.2.1, .slice (L 4).2.2.2.2.1 (L 4).2.2.2.2.2.1 (L 4).2.2.2.2.2.2, .bool (L 5).1, .slice (L 5).2.1 (L 5).2.2.1 (L 5).2.2.2.1, .slice (L 5).2.2.2.2.1 (L 5).2.2.2.2.2.1 (L 5).2.2.2.2.2.2]) (.int .i64 4)).run Tryz.prog w = .ok (.agg #[.bool (L 4).1, .slice (L 4).2.1 (L 4).2.2.1 (L 4).2.2.2.1, .slice (L 4).2.2.2.2.1 (L 4).2.2.2.2.2.1 (L 4).2.2.2.2.2.2]) w := fun w => by kernel_rfl
    go_simp
  | 5, _ =>
    have h : ∀ w : World, (Instr.index 55 (.agg #[.bool (L 0).1, .slice (L 0).2.1 (L 0).2.2.1 (L 0).2.2.2.1, .slice (L 0).2.2.2.2.1 (L 0).2.2.2.2.2.1 (L 0).2.2.2.2.2.2, .bool (L 1).1, .slice (L 1).2.1 (L 1).2.2.1 (L 1).2.2.2.1, .slice (L 1).2.2.2.2.1 (L 1).2.2.2.2.2.1 (L 1).2.2.2.2.2.2, .bool (L 2).1, .slice (L 2).2.1 (L 2).2.2.1 (L 2).2.2.2.1, .slice (L 2).2.2.2.2.1 (L 2).2.2.2.2.2.1 (L 2).2.2.2.2.2.2, .bool (L 3).1, .slice (L 3).2.1 (L 3).2.2.1 (L 3).2.2.2.1, .slice (L 3).2.2.2.2.1 (L 3).2.2.2.2.2.1 (L 3).2.2.2.2.2.2, .bool (L 4).1, .slice (L 4).2.1 (L 4).2.2.1 (L 4).2.2.2.1, .slice (L 4).2.2.2.2.1 (L 4).2.2.2.2.2.1 (L 4).2.2.2.2.2.2, .bool (L 5).1, .slice (L 5).2.1 (L 5).2.2.1 (L 5).2.2.2.1, .slice (L 5).2.2.2.2.1 (L 5).2.2.2.2.2.1 (L 5).2.2.2.2.2.2]) (.int .i64 5)).run Tryz.prog w = .ok (.agg #[.bool (L 5).1, .slice (L 5).2.1 (L 5).2.2.1 (L 5).2.2.2.1, .slice (L 5).2.2.2.2.1 (L 5).2.2.2.2.2.1 (L 5).2.2.2.2.2.2]) w := fun w => by kernel_rfl
    go_simp
end
theorem qtext_len {q : Rat} (h : Qsz q 4) : (qtext q).length ≤ 200 := by
  have h1 := ztext_len h.1
  have h2 := dec_short h.2
  unfold qtext
  split
  · omega
  · rw [List.length_append, List.length_cons]; omega
theorem text_alikeQ (a b : Rat) : ((ByteArray.mk (qtext a).toArray).toList == (ByteArray.mk (qtext b).toArray).toList) = decide (a = b) := by
  rw [ByteArray.toList_mk, ByteArray.toList_mk]
  by_cases h : a = b
  · subst h; simp
  · rw [decide_eq_false h]; exact beq_eq_false_iff_ne.2 fun e => h (qtext_inj e)
end Go.Proofs.YtbippecchpaleaaGreatDoor
namespace Go.Proofs.YtbippecchpaleaaGreatDoor
open Go.RowKit Go.Num Go.Kp
attribute [local go_sem] Oper.semAt_some u64_mask ev_const ev_func ev_global
theorem add_none (a : Rat) : a = a + ((0 : Int) : Rat) := by
  have : ((0 : Int) : Rat) = 0 := rfl
  grind
set_option maxHeartbeats 16000000 in
set_option maxRecDepth 100000 in
theorem ratTexts_any (w : World) (nP0 : Bool) (mP0 pP0 : Value) (lP0 rP0 : List Nat) (nP1 : Bool) (mP1 pP1 : Value) (lP1 rP1 : List Nat) (hlen : HasLen w) (hP0 : Arg encU w mP0 lP0) (kP0 : Arg encU w pP0 rP0) (hL0 : Lim lP0) (hM0 : Lim rP0) (hN0 : lP0.length ≤ 9223372036854775807) (hO0 : rP0.length ≤ 9223372036854775807) (hP1 : Arg encU w mP1 lP1) (kP1 : Arg encU w pP1 rP1) (hL1 : Lim lP1) (hM1 : Lim rP1) (hN1 : lP1.length ≤ 9223372036854775807) (hO1 : rP1.length ≤ 9223372036854775807) : Calls Tryz.prog 11 #[.agg #[.bool nP0, mP0, pP0], .agg #[.bool nP1, mP1, pP1]] w fun e w' => e = .returned (.bool true) ∧ Below w.heap.size w w' := by
  obtain ⟨fP0, hf0⟩ : ∃ f, lP0.take 4 = f := ⟨_, rfl⟩
  obtain ⟨gP0, hg0⟩ : ∃ g, rP0.take 4 = g := ⟨_, rfl⟩
  obtain ⟨a, hq0⟩ : ∃ q, lrat nP0 fP0 gP0 = q := ⟨_, rfl⟩
  have hs0 : Qsz a 4 := hq0 ▸ few_qsz nP0 4 hf0 hg0 hL0 hM0 (by decide)
  have hlim0 := Lib.hid hL0
  have hlimd0 := Lib.hid hM0
  have hlen0 := Lib.hid hN0
  have hlend0 := Lib.hid hO0
  obtain ⟨AP0, cP0, eP0, -, -⟩ := hP0.open_
  subst eP0
  obtain ⟨BP0, dP0, eP0, -, -⟩ := kP0.open_
  subst eP0
  clear hL0 hM0 hN0 hO0
  obtain ⟨fP1, hf1⟩ : ∃ f, lP1.take 4 = f := ⟨_, rfl⟩
  obtain ⟨gP1, hg1⟩ : ∃ g, rP1.take 4 = g := ⟨_, rfl⟩
  obtain ⟨b, hq1⟩ : ∃ q, lrat nP1 fP1 gP1 = q := ⟨_, rfl⟩
  have hs1 : Qsz b 4 := hq1 ▸ few_qsz nP1 4 hf1 hg1 hL1 hM1 (by decide)
  have hlim1 := Lib.hid hL1
  have hlimd1 := Lib.hid hM1
  have hlen1 := Lib.hid hN1
  have hlend1 := Lib.hid hO1
  obtain ⟨AP1, cP1, eP1, -, -⟩ := hP1.open_
  subst eP1
  obtain ⟨BP1, dP1, eP1, -, -⟩ := kP1.open_
  subst eP1
  clear hL1 hM1 hN1 hO1
  go_enter Tryz.func11, Tryz.ntmps11
  go_upto_region 1 with fail
  have HB := Below.refl w.heap.size w
  have z0 : w.heap.size = w.heap.size := rfl
  have D0 := Box3.new w 26 (.bool nP0) (.slice AP0 lP0.length cP0) (.slice BP0 rP0.length dP0)
  rw [z0] at D0
  replace HB := HB.alloc (by rw [z0]; omega) (.cells #[.bool nP0, .slice AP0 lP0.length cP0, .slice BP0 rP0.length dP0] 26)
  have z1 : (w.alloc (.cells #[.bool nP0, .slice AP0 lP0.length cP0, .slice BP0 rP0.length dP0] 26)).heap.size = w.heap.size + 1 := by rw [World.size_alloc, z0]
  generalize w.alloc (.cells #[.bool nP0, .slice AP0 lP0.length cP0, .slice BP0 rP0.length dP0] 26) = u0 at *
  have D1 := Box3.new u0 26 (.bool nP1) (.slice AP1 lP1.length cP1) (.slice BP1 rP1.length dP1)
  rw [z1] at D1
  replace D0 := D0.alloc (.cells #[.bool nP1, .slice AP1 lP1.length cP1, .slice BP1 rP1.length dP1] 26)
  replace HB := HB.alloc (by rw [z1]; omega) (.cells #[.bool nP1, .slice AP1 lP1.length cP1, .slice BP1 rP1.length dP1] 26)
  have z2 : (u0.alloc (.cells #[.bool nP1, .slice AP1 lP1.length cP1, .slice BP1 rP1.length dP1] 26)).heap.size = w.heap.size + 1 + 1 := by rw [World.size_alloc, z1]
  generalize u0.alloc (.cells #[.bool nP1, .slice AP1 lP1.length cP1, .slice BP1 rP1.length dP1] 26) = u1 at *
  clear z0 z1 z2
  replace HB := Lib.hid HB
  replace D0 := Lib.hid D0
  have SN0 := Lib.hid (hP0.below HB.out)
  have SD0 := Lib.hid (kP0.below HB.out)
  clear hP0 kP0
  replace D1 := Lib.hid D1
  have SN1 := Lib.hid (hP1.below HB.out)
  have SD1 := Lib.hid (kP1.below HB.out)
  clear hP1 kP1
  have HL := Lib.hid hlen
  clear hlen
  refine wp_region_calm 2 [] ([fun vq _ => vq = .bool true,
      fun vq _ => vq = .bool false]) (by kernel_rfl) (by decide) ?_ ?_ ?_
  · intro j hj; cases hj
  · refine po rfl (fun lq aq wq hk hr K hK => ?_) ?_
    · exact cc hK (by go_simp) (qworks_v wq (HL.out.below (HB.out.trans (Below.mono hk.ext HB.out.size)))) (fun u w1 hu w2 h2 => hu)
    refine po rfl (fun lq aq wq hk hr K hK => ?_) ?_
    · have E0 : ev aq (.tmp 12) = .bool true := hk.dc hr 0 (by kernel_rfl) fun _ w h => h w (Grows.refl w)
      exact vc hK (by go_simp) (fun w2 h2 => rfl)
    exact AllOps.nil
  intro V x1 hG hV hap
  have r1 : (V 1) = .bool false := hV 1 (by decide)
  clear hV hap
  simp only [List.take_succ_cons, List.take_nil, List.drop_succ_cons, List.drop_nil, putAll, Act.put, List.setIfInBounds_toArray, List.set_cons_zero, List.set_cons_succ]
  have hb := (show Below _ _ _ from hG)
  replace D0 := Lib.hid (D0.out.below hb)
  replace SN0 := Lib.hid (SN0.out.below hb)
  replace SD0 := Lib.hid (SD0.out.below hb)
  replace D1 := Lib.hid (D1.out.below hb)
  replace SN1 := Lib.hid (SN1.out.below hb)
  replace SD1 := Lib.hid (SD1.out.below hb)
  replace HB := Lib.hid (HB.out.trans (Below.mono hb HB.out.size))
  clear hb hG
  rw [r1]
  clear r1
  go_upto_region 3 with fail
  refine wp_region_going 4 [] ([fun vq _ => vq = .agg #[.bool nP0, .slice AP0 lP0.length cP0, .slice BP0 rP0.length dP0],
      fun vq wq => QL wq vq nP0 fP0 gP0,
      fun vq _ => vq = .agg #[.bool nP1, .slice AP1 lP1.length cP1, .slice BP1 rP1.length dP1],
      fun vq wq => QL wq vq nP1 fP1 gP1]) (by kernel_rfl) (by kernel_rfl) (by decide) (by kernel_rfl) (by kernel_rfl) ?_ ?_ ?_
  · intro j hj; cases hj
  · refine po rfl (fun lq aq wq hk hr K hK => ?_) ?_
    · have B2 : ev aq (.tmp 2) = .pointer (some ⟨w.heap.size, 0, none⟩) := hk.base 2 (by kernel_rfl) rfl
      have hb := grows_of hk.ext
      exact vc hK (op_load3 2 _ B2 (D0.out.below hb)) (fun w2 h2 => rfl)
    refine po rfl (fun lq aq wq hk hr K hK => ?_) ?_
    · have E0 : ev aq (.tmp 14) = .agg #[.bool nP0, .slice AP0 lP0.length cP0, .slice BP0 rP0.length dP0] := hk.dc hr 0 (by kernel_rfl) fun _ w h => h w (Grows.refl w)
      exact cc hK (by go_simp) (few3_v wq 4 (i := 4) rfl (SN0.out.below (grows_of hk.ext)) (SD0.out.below (grows_of hk.ext)) hlim0.out hlen0.out hlimd0.out hlend0.out (by decide) hf0 hg0) (fun u w1 hu w2 h2 => (hu).grow h2)
    refine po rfl (fun lq aq wq hk hr K hK => ?_) ?_
    · have B3 : ev aq (.tmp 3) = .pointer (some ⟨w.heap.size + 1, 0, none⟩) := hk.base 3 (by kernel_rfl) rfl
      have hb := grows_of hk.ext
      exact vc hK (op_load3 3 _ B3 (D1.out.below hb)) (fun w2 h2 => rfl)
    refine po rfl (fun lq aq wq hk hr K hK => ?_) ?_
    · have E2 : ev aq (.tmp 16) = .agg #[.bool nP1, .slice AP1 lP1.length cP1, .slice BP1 rP1.length dP1] := hk.dc hr 2 (by kernel_rfl) fun _ w h => h w (Grows.refl w)
      exact cc hK (by go_simp) (few3_v wq 4 (i := 4) rfl (SN1.out.below (grows_of hk.ext)) (SD1.out.below (grows_of hk.ext)) hlim1.out hlen1.out hlimd1.out hlend1.out (by decide) hf1 hg1) (fun u w1 hu w2 h2 => (hu).grow h2)
    exact AllOps.nil
  intro V x2 hG hV hap
  have r1 : QL x2 (V 1) nP0 fP0 gP0 := hV 1 (by decide)
  have r3 : QL x2 (V 3) nP1 fP1 gP1 := hV 3 (by decide)
  clear hV hap
  simp only [List.take_succ_cons, List.take_zero, List.drop_succ_cons, List.drop_zero, putAll, Act.put, List.setIfInBounds_toArray, List.set_cons_zero, List.set_cons_succ]
  have hb := grows_of hG
  obtain ⟨Am3, cm3, Bm3, dm3, em3, sm3, tm3, hlm3, hmm3⟩ := r1
  simp only [em3]
  clear em3
  obtain ⟨Am4, cm4, Bm4, dm4, em4, sm4, tm4, hlm4, hmm4⟩ := r3
  simp only [em4]
  clear em4
  clear hG
  replace D0 := D0.out.below hb
  refine wpList_of_skip rfl (op_store3 2 15 _ rfl rfl D0) ?_
  replace D1 := Lib.hid (put3_far (x' := .bool nP0) (y' := .slice Am3 fP0.length cm3) (z' := .slice Bm3 gP0.length dm3) (D1.out.below hb) (show w.heap.size + 1 ≠ w.heap.size by omega))
  replace SN1 := Lib.hid ((SN1.out.below hb).put3 D0 (.bool nP0) (.slice Am3 fP0.length cm3) (.slice Bm3 gP0.length dm3))
  replace SD1 := Lib.hid ((SD1.out.below hb).put3 D0 (.bool nP0) (.slice Am3 fP0.length cm3) (.slice Bm3 gP0.length dm3))
  replace sm4 := sm4.put3 D0 (.bool nP0) (.slice Am3 fP0.length cm3) (.slice Bm3 gP0.length dm3)
  replace tm4 := tm4.put3 D0 (.bool nP0) (.slice Am3 fP0.length cm3) (.slice Bm3 gP0.length dm3)
  replace SN0 := Lib.hid (sm3.put3 D0 (.bool nP0) (.slice Am3 fP0.length cm3) (.slice Bm3 gP0.length dm3))
  replace SD0 := Lib.hid (tm3.put3 D0 (.bool nP0) (.slice Am3 fP0.length cm3) (.slice Bm3 gP0.length dm3))
  replace HB := Lib.hid (put3_below (x' := .bool nP0) (y' := .slice Am3 fP0.length cm3) (z' := .slice Bm3 gP0.length dm3) (HB.out.trans (Below.mono hb HB.out.size)) (show w.heap.size ≤ w.heap.size by omega))
  replace D0 := Lib.hid (put3_own (x' := .bool nP0) (y' := .slice Am3 fP0.length cm3) (z' := .slice Bm3 gP0.length dm3) D0)
  clear hb sm3 tm3
  generalize put3 x2 w.heap.size (.bool nP0) (.slice Am3 fP0.length cm3) (.slice Bm3 gP0.length dm3) = y5 at *
  have hkm3 : szz (sg nP0 (val fP0)) ≤ 1000 := by unfold szz; rw [sg_natAbs]; exact Nat.le_trans (sz_num SN0.out) hlm3
  have hb := Below.refl (y5).heap.size (y5)
  replace D1 := D1.out.below hb
  refine wpList_of_skip rfl (op_store3 3 17 _ rfl rfl D1) ?_
  replace D0 := Lib.hid (put3_far (x' := .bool nP1) (y' := .slice Am4 fP1.length cm4) (z' := .slice Bm4 gP1.length dm4) (D0.out.below hb) (show w.heap.size ≠ w.heap.size + 1 by omega))
  replace SN0 := Lib.hid ((SN0.out.below hb).put3 D1 (.bool nP1) (.slice Am4 fP1.length cm4) (.slice Bm4 gP1.length dm4))
  replace SD0 := Lib.hid ((SD0.out.below hb).put3 D1 (.bool nP1) (.slice Am4 fP1.length cm4) (.slice Bm4 gP1.length dm4))
  replace SN1 := Lib.hid (sm4.put3 D1 (.bool nP1) (.slice Am4 fP1.length cm4) (.slice Bm4 gP1.length dm4))
  replace SD1 := Lib.hid (tm4.put3 D1 (.bool nP1) (.slice Am4 fP1.length cm4) (.slice Bm4 gP1.length dm4))
  replace HB := Lib.hid (put3_below (x' := .bool nP1) (y' := .slice Am4 fP1.length cm4) (z' := .slice Bm4 gP1.length dm4) (HB.out.trans (Below.mono hb HB.out.size)) (show w.heap.size ≤ w.heap.size + 1 by omega))
  replace D1 := Lib.hid (put3_own (x' := .bool nP1) (y' := .slice Am4 fP1.length cm4) (z' := .slice Bm4 gP1.length dm4) D1)
  clear hb sm4 tm4
  generalize put3 y5 (w.heap.size + 1) (.bool nP1) (.slice Am4 fP1.length cm4) (.slice Bm4 gP1.length dm4) = y6 at *
  have hkm4 : szz (sg nP1 (val fP1)) ≤ 1000 := by unfold szz; rw [sg_natAbs]; exact Nat.le_trans (sz_num SN1.out) hlm4
  obtain ⟨s, hs9⟩ : ∃ s, ByteArray.mk (qtext a).toArray = s := ⟨_, rfl⟩
  obtain ⟨sb, hsb⟩ : ∃ sb, ByteArray.mk (qtext b).toArray = sb := ⟨_, rfl⟩
  obtain ⟨t, ht⟩ : ∃ t, decide (a = b) = t := ⟨_, rfl⟩
  have hst : (s.toList == sb.toList) = t := by rw [← hs9, ← hsb, text_alikeQ, ht]
  obtain ⟨k, hkc⟩ : ∃ k, qs (a - b) = k := ⟨_, rfl⟩
  have hkt : (k == 0) = t := by rw [← hkc, qs_alike, ht]
  have hln := Lib.hid (qtext_len hs0)
  have hrd := Lib.hid (show ReadsQ (qtext a) a true from .inl ⟨rfl, rfl, hs0.mono (by decide)⟩)
  replace hs9 := Lib.hid hs9
  replace hsb := Lib.hid hsb
  replace hkc := Lib.hid hkc
  clear ht
  go_upto_region 4 with fail
  refine wp_region_calm 2 [] ([fun vq wq => QL wq vq nP0 fP0 gP0,
      fun vq _ => vq = .string s]) (by kernel_rfl) (by decide) ?_ ?_ ?_
  · intro j hj; cases hj
  · refine po rfl (fun lq aq wq hk hr K hK => ?_) ?_
    · have B2 : ev aq (.tmp 2) = .pointer (some ⟨w.heap.size, 0, none⟩) := hk.base 2 (by kernel_rfl) rfl
      have hb : Below _ _ _ := hk.ext
      exact vc hK (op_load3 2 _ B2 (D0.out.below hb)) (fun w2 h2 => QL.grow ⟨_, _, _, _, rfl, (SN0.out.below hb), (SD0.out.below hb), hlm3, hmm3⟩ h2)
    refine po rfl (fun lq aq wq hk hr K hK => ?_) ?_
    · obtain ⟨v0, E0, r0⟩ := hk.dp hr 0 18 (by kernel_rfl)
      have r0 : QL wq v0 nP0 fP0 gP0 := r0 wq (Grows.refl wq)
      exact cc hK (by go_simp) (qtext_v wq ((r0).qv.to hq0) (s := s) hs9.out) (fun u w1 hu w2 h2 => hu)
    exact AllOps.nil
  intro V x7 hG hV hap
  have r1 : (V 1) = .string s := hV 1 (by decide)
  clear hV hap
  simp only [List.take_succ_cons, List.take_zero, List.drop_succ_cons, List.drop_zero, putAll, Act.put, List.setIfInBounds_toArray, List.set_cons_zero, List.set_cons_succ]
  have hb := (show Below _ _ _ from hG)
  replace D0 := Lib.hid (D0.out.below hb)
  replace SN0 := Lib.hid (SN0.out.below hb)
  replace SD0 := Lib.hid (SD0.out.below hb)
  replace D1 := Lib.hid (D1.out.below hb)
  replace SN1 := Lib.hid (SN1.out.below hb)
  replace SD1 := Lib.hid (SD1.out.below hb)
  replace HB := Lib.hid (HB.out.trans (Below.mono hb HB.out.size))
  clear hb hG
  rw [r1]
  clear r1
  go_upto_region 5 with fail
  have lw0 := D0.out.lt
  have lw1 := D1.out.lt
  refine wp_region_calm 6 [5] ([fun vq _ => vq = .string s,
      fun vq wq => ∃ u0, vq = .tuple #[u0, .bool true] ∧ RV wq u0 a,
      fun vq wq => ∃ u0, vq = .tuple #[u0, .bool true] ∧ RV wq u0 a,
      fun vq wq => RV wq vq a,
      fun vq _ => vq = .bool true,
      fun vq wq => ∃ bq, vq = .pointer (some ⟨bq, 0, none⟩) ∧ BoxN wq bq 26 #[.bool false, .slice none 0 0, .slice none 0 0] ∧ (x7).heap.size ≤ bq]) (by kernel_rfl) (by decide) ?_ ?_ ?_
  · intro j hj v w h
    simp only [List.mem_cons, List.not_mem_nil, or_false] at hj
    subst hj
    all_goals (obtain ⟨b, rfl, hB, _⟩ := h; exact hB.lt)
  · refine po rfl (fun lq aq wq hk hr K hK => ?_) ?_
    · have B5 : ev aq (.tmp 5) = .string s := hk.base 5 (by kernel_rfl) rfl
      exact vc hK (by go_simp) (fun w2 h2 => rfl)
    refine po rfl (fun lq aq wq hk hr K hK => ?_) ?_
    · have E0 : ev aq (.tmp 21) = .string s := hk.dc hr 0 (by kernel_rfl) fun _ w h => h w (Grows.refl w)
      exact cc hK (by go_simp) (qparse_v wq (HL.out.below (HB.out.trans (Below.mono hk.ext HB.out.size))) hrd.out hln.out hs9.out) (fun u w1 hu w2 h2 => (let ⟨u0, e0, h0⟩ := hu; ⟨u0, e0, (h0).grow h2⟩))
    refine po rfl (fun lq aq wq hk hr K hK => ?_) ?_
    · obtain ⟨v1, E1, r1⟩ := hk.dp hr 1 22 (by kernel_rfl)
      have r1 : ∃ u0, v1 = .tuple #[u0, .bool true] ∧ RV wq u0 a := r1 wq (Grows.refl wq)
      exact vc hK (by go_simp) (fun w2 h2 => (let ⟨u0, e0, h0⟩ := r1; ⟨u0, e0, (h0).grow h2⟩))
    refine po rfl (fun lq aq wq hk hr K hK => ?_) ?_
    · obtain ⟨v2, E2, r2⟩ := hk.dp hr 2 20 (by kernel_rfl)
      have r2 : ∃ u0, v2 = .tuple #[u0, .bool true] ∧ RV wq u0 a := r2 wq (Grows.refl wq)
      obtain ⟨u0, rfl, h0⟩ := r2
      exact vc hK (by go_simp) (fun w2 h2 => (h0).grow h2)
    refine po rfl (fun lq aq wq hk hr K hK => ?_) ?_
    · obtain ⟨v2, E2, r2⟩ := hk.dp hr 2 20 (by kernel_rfl)
      have r2 : ∃ u0, v2 = .tuple #[u0, .bool true] ∧ RV wq u0 a := r2 wq (Grows.refl wq)
      obtain ⟨u0, rfl, h0⟩ := r2
      exact vc hK (by go_simp) (fun w2 h2 => rfl)
    refine po rfl (fun lq aq wq hk hr K hK => ?_) ?_
    · exact wp_of_value (by go_simp) (hK.out _ _ ((Grows.refl _).alloc _) (fun w2 h2 => ⟨_, rfl, (BoxN.new wq 26 _).below h2, hk.ext.size⟩) (fun _ => Nat.le_refl _))
    exact AllOps.nil
  intro V x8 hG hV hap
  have r3 : RV x8 (V 3) a := hV 3 (by decide)
  have r4 : (V 4) = .bool true := hV 4 (by decide)
  have r5 : ∃ bq, (V 5) = .pointer (some ⟨bq, 0, none⟩) ∧ BoxN x8 bq 26 #[.bool false, .slice none 0 0, .slice none 0 0] ∧ (x7).heap.size ≤ bq := hV 5 (by decide)
  clear hV
  simp only [List.take_succ_cons, List.take_zero, List.drop_succ_cons, List.drop_zero, putAll, Act.put, List.setIfInBounds_toArray, List.set_cons_zero, List.set_cons_succ]
  have hb := (show Below _ _ _ from hG)
  obtain ⟨bx, ex, Dx, gx⟩ := r5
  obtain ⟨nx, Ax, kx, cx, Bx, jx, dx, ex9, sx, tx, hdx⟩ := r3
  simp only [ex, ex9, r4]
  clear ex ex9 hap hG r4
  replace Dx : Box3 _ bx 26 (.bool false) (.slice none 0 0) (.slice none 0 0) := Dx
  refine wpList_of_skip rfl (op_store3 6 23 _ rfl rfl Dx) ?_
  have hB := put3_below (x' := .bool nx) (y' := .slice Ax kx cx) (z' := .slice Bx jx dx) hb gx
  replace sx := sx.put3 Dx (.bool nx) (.slice Ax kx cx) (.slice Bx jx dx)
  replace tx := tx.put3 Dx (.bool nx) (.slice Ax kx cx) (.slice Bx jx dx)
  replace Dx := put3_own (x' := .bool nx) (y' := .slice Ax kx cx) (z' := .slice Bx jx dx) Dx
  clear hb
  generalize put3 x8 bx (.bool nx) (.slice Ax kx cx) (.slice Bx jx dx) = y9 at *
  replace D0 := Lib.hid (D0.out.below hB)
  replace SN0 := Lib.hid (SN0.out.below hB)
  replace SD0 := Lib.hid (SD0.out.below hB)
  replace D1 := Lib.hid (D1.out.below hB)
  replace SN1 := Lib.hid (SN1.out.below hB)
  replace SD1 := Lib.hid (SD1.out.below hB)
  replace HB := Lib.hid (HB.out.trans (Below.mono hB HB.out.size))
  replace lw0 := Nat.lt_of_lt_of_le lw0 gx
  replace lw1 := Nat.lt_of_lt_of_le lw1 gx
  replace Dx := Lib.hid Dx
  have SNx := Lib.hid sx
  have SDx := Lib.hid tx
  clear hB gx sx tx
  go_upto_region 6 with fail
  refine wp_region_going 26 [] ([fun vq _ => vq = .bool true,
      fun vq _ => vq = .bool false,
      fun vq _ => vq = .bool false,
      fun vq wq => RV wq vq a,
      fun vq wq => QL wq vq nP0 fP0 gP0,
      fun vq wq => RV wq vq (((0 : Int) : Rat)),
      fun vq wq => RV wq vq ((a + ((0 : Int) : Rat))),
      fun vq _ => vq = .bool true,
      fun vq _ => vq = .bool false,
      fun vq _ => vq = .bool false,
      fun vq _ => vq = .bool false,
      fun vq wq => RV wq vq a,
      fun vq _ => vq = .bool true,
      fun vq _ => vq = .bool false,
      fun vq _ => vq = .bool false,
      fun vq _ => vq = .bool false,
      fun vq _ => vq = .string s,
      fun vq wq => QL wq vq nP1 fP1 gP1,
      fun vq _ => vq = .string sb,
      fun vq _ => vq = .bool t,
      fun vq wq => QL wq vq nP0 fP0 gP0,
      fun vq wq => QL wq vq nP1 fP1 gP1,
      fun vq _ => vq = .int .i64 k,
      fun vq _ => vq = .bool t,
      fun vq _ => vq = .bool false,
      fun vq _ => vq = .bool false]) (by kernel_rfl) (by kernel_rfl) (by decide) (by kernel_rfl) (by kernel_rfl) ?_ ?_ ?_
  · intro j hj; cases hj
  · refine po rfl (fun lq aq wq hk hr K hK => ?_) ?_
    · have B7 : ev aq (.tmp 7) = .bool true := hk.base 7 (by kernel_rfl) rfl
      exact vc hK (by go_simp) (fun w2 h2 => rfl)
    refine po rfl (fun lq aq wq hk hr K hK => ?_) ?_
    · have E0 : ev aq (.tmp 25) = .bool true := hk.dc hr 0 (by kernel_rfl) fun _ w h => h w (Grows.refl w)
      exact vc hK (by go_simp) (fun w2 h2 => rfl)
    refine po rfl (fun lq aq wq hk hr K hK => ?_) ?_
    · have E1 : ev aq (.tmp 26) = .bool false := hk.dc hr 1 (by kernel_rfl) fun _ w h => h w (Grows.refl w)
      exact vc hK (by go_simp) (fun w2 h2 => rfl)
    refine AllOps.cons (Does.lets (g := 2) (d := 27) (t := false) rfl (by kernel_rfl) (by kernel_rfl) (fun vq wq h => h wq (Grows.refl wq)) fun lq aq wq hk hr K hK => ?_) ?_
    · have B6 : ev aq (.tmp 6) = .pointer (some ⟨bx, 0, none⟩) := hk.base 6 (by kernel_rfl) rfl
      have hb := grows_of hk.ext
      exact vc hK (op_load3 6 _ B6 (Dx.out.below hb)) (fun w2 h2 => RV.grow ⟨_, _, _, _, _, _, _, rfl, (SNx.out.below hb), (SDx.out.below hb), hdx⟩ h2)
    refine AllOps.cons (Does.lets (g := 2) (d := 27) (t := false) rfl (by kernel_rfl) (by kernel_rfl) (fun vq wq h => h wq (Grows.refl wq)) fun lq aq wq hk hr K hK => ?_) ?_
    · have B2 : ev aq (.tmp 2) = .pointer (some ⟨w.heap.size, 0, none⟩) := hk.base 2 (by kernel_rfl) rfl
      have hb := grows_of hk.ext
      exact vc hK (op_load3 2 _ B2 (D0.out.below hb)) (fun w2 h2 => QL.grow ⟨_, _, _, _, rfl, (SN0.out.below hb), (SD0.out.below hb), hlm3, hmm3⟩ h2)
    refine AllOps.cons (Does.lets (g := 2) (d := 27) (t := false) rfl (by kernel_rfl) (by kernel_rfl) (fun vq wq h => h wq (Grows.refl wq)) fun lq aq wq hk hr K hK => ?_) ?_
    · exact cc hK (by go_simp) (rfrom_v wq 0 (by decide) (by decide)) (fun u w1 hu w2 h2 => (hu).grow h2)
    refine AllOps.cons (Does.lets (g := 2) (d := 27) (t := false) rfl (by kernel_rfl) (by kernel_rfl) (fun vq wq h => h wq (Grows.refl wq)) fun lq aq wq hk hr K hK => ?_) ?_
    · obtain ⟨v4, E4, r4⟩ := hk.dp hr 4 29 (by kernel_rfl)
      have r4 : QL wq v4 nP0 fP0 gP0 := r4 wq (Grows.refl wq)
      obtain ⟨v5, E5, r5⟩ := hk.dp hr 5 30 (by kernel_rfl)
      have r5 : RV wq v5 (((0 : Int) : Rat)) := r5 wq (Grows.refl wq)
      exact cc hK (by go_simp) (qadd_v wq ((r4).qv.to hq0) (r5).qv (hs0.mono (by decide)) ((Qsz.int (szz_i64 (by decide) (by decide)) (by decide)).mono (by decide))) (fun u w1 hu w2 h2 => (hu).grow h2)
    refine AllOps.cons (Does.lets (g := 2) (d := 27) (t := false) rfl (by kernel_rfl) (by kernel_rfl) (fun vq wq h => h wq (Grows.refl wq)) fun lq aq wq hk hr K hK => ?_) ?_
    · obtain ⟨v3, E3, r3⟩ := hk.dp hr 3 28 (by kernel_rfl)
      have r3 : RV wq v3 a := r3 wq (Grows.refl wq)
      obtain ⟨v6, E6, r6⟩ := hk.dp hr 6 31 (by kernel_rfl)
      have r6 : RV wq v6 ((a + ((0 : Int) : Rat))) := r6 wq (Grows.refl wq)
      exact cc hK (by go_simp) (lsameR_v wq r3 r6 (t := true) (decide_eq_true (add_none a))) (fun u w1 hu w2 h2 => hu)
    refine AllOps.cons (Does.lets (g := 2) (d := 27) (t := false) rfl (by kernel_rfl) (by kernel_rfl) (fun vq wq h => h wq (Grows.refl wq)) fun lq aq wq hk hr K hK => ?_) ?_
    · have E7 : ev aq (.tmp 32) = .bool true := hk.dc hr 7 (by kernel_rfl) fun _ w h => h w (Grows.refl w)
      exact vc hK (by go_simp) (fun w2 h2 => rfl)
    refine po rfl (fun lq aq wq hk hr K hK => ?_) ?_
    · have E2 : ev aq (.tmp 27) = .bool false := hk.dc hr 2 (by kernel_rfl) fun _ w h => h w (Grows.refl w)
      have E8 : ev aq (.tmp 33) = .bool false := hk.dc hr 8 (by kernel_rfl) fun _ w h => h w (Grows.refl w)
      exact vc hK (by go_simp) (fun w2 h2 => rfl)
    refine po rfl (fun lq aq wq hk hr K hK => ?_) ?_
    · have E9 : ev aq (.tmp 34) = .bool false := hk.dc hr 9 (by kernel_rfl) fun _ w h => h w (Grows.refl w)
      exact vc hK (by go_simp) (fun w2 h2 => rfl)
    refine AllOps.cons (Does.lets (g := 10) (d := 35) (t := false) rfl (by kernel_rfl) (by kernel_rfl) (fun vq wq h => h wq (Grows.refl wq)) fun lq aq wq hk hr K hK => ?_) ?_
    · have B6 : ev aq (.tmp 6) = .pointer (some ⟨bx, 0, none⟩) := hk.base 6 (by kernel_rfl) rfl
      have hb := grows_of hk.ext
      exact vc hK (op_load3 6 _ B6 (Dx.out.below hb)) (fun w2 h2 => RV.grow ⟨_, _, _, _, _, _, _, rfl, (SNx.out.below hb), (SDx.out.below hb), hdx⟩ h2)
    refine AllOps.cons (Does.lets (g := 10) (d := 35) (t := false) rfl (by kernel_rfl) (by kernel_rfl) (fun vq wq h => h wq (Grows.refl wq)) fun lq aq wq hk hr K hK => ?_) ?_
    · obtain ⟨v11, E11, r11⟩ := hk.dp hr 11 36 (by kernel_rfl)
      have r11 : RV wq v11 a := r11 wq (Grows.refl wq)
      exact cc hK (by go_simp) (qright_v wq (r11).ql (lright_own _)) (fun u w1 hu w2 h2 => hu)
    refine AllOps.cons (Does.lets (g := 10) (d := 35) (t := false) rfl (by kernel_rfl) (by kernel_rfl) (fun vq wq h => h wq (Grows.refl wq)) fun lq aq wq hk hr K hK => ?_) ?_
    · have E12 : ev aq (.tmp 37) = .bool true := hk.dc hr 12 (by kernel_rfl) fun _ w h => h w (Grows.refl w)
      exact vc hK (by go_simp) (fun w2 h2 => rfl)
    refine po rfl (fun lq aq wq hk hr K hK => ?_) ?_
    · have E10 : ev aq (.tmp 35) = .bool false := hk.dc hr 10 (by kernel_rfl) fun _ w h => h w (Grows.refl w)
      have E13 : ev aq (.tmp 38) = .bool false := hk.dc hr 13 (by kernel_rfl) fun _ w h => h w (Grows.refl w)
      exact vc hK (by go_simp) (fun w2 h2 => rfl)
    refine po rfl (fun lq aq wq hk hr K hK => ?_) ?_
    · have E14 : ev aq (.tmp 39) = .bool false := hk.dc hr 14 (by kernel_rfl) fun _ w h => h w (Grows.refl w)
      exact vc hK (by go_simp) (fun w2 h2 => rfl)
    refine AllOps.cons (Does.lets (g := 15) (d := 40) (t := false) rfl (by kernel_rfl) (by kernel_rfl) (fun vq wq h => h wq (Grows.refl wq)) fun lq aq wq hk hr K hK => ?_) ?_
    · have B5 : ev aq (.tmp 5) = .string s := hk.base 5 (by kernel_rfl) rfl
      exact vc hK (by go_simp) (fun w2 h2 => rfl)
    refine AllOps.cons (Does.lets (g := 15) (d := 40) (t := false) rfl (by kernel_rfl) (by kernel_rfl) (fun vq wq h => h wq (Grows.refl wq)) fun lq aq wq hk hr K hK => ?_) ?_
    · have B3 : ev aq (.tmp 3) = .pointer (some ⟨w.heap.size + 1, 0, none⟩) := hk.base 3 (by kernel_rfl) rfl
      have hb := grows_of hk.ext
      exact vc hK (op_load3 3 _ B3 (D1.out.below hb)) (fun w2 h2 => QL.grow ⟨_, _, _, _, rfl, (SN1.out.below hb), (SD1.out.below hb), hlm4, hmm4⟩ h2)
    refine AllOps.cons (Does.lets (g := 15) (d := 40) (t := false) rfl (by kernel_rfl) (by kernel_rfl) (fun vq wq h => h wq (Grows.refl wq)) fun lq aq wq hk hr K hK => ?_) ?_
    · obtain ⟨v17, E17, r17⟩ := hk.dp hr 17 42 (by kernel_rfl)
      have r17 : QL wq v17 nP1 fP1 gP1 := r17 wq (Grows.refl wq)
      exact cc hK (by go_simp) (qtext_v wq ((r17).qv.to hq1) (s := sb) hsb.out) (fun u w1 hu w2 h2 => hu)
    refine AllOps.cons (Does.lets (g := 15) (d := 40) (t := false) rfl (by kernel_rfl) (by kernel_rfl) (fun vq wq h => h wq (Grows.refl wq)) fun lq aq wq hk hr K hK => ?_) ?_
    · have E16 : ev aq (.tmp 41) = .string s := hk.dc hr 16 (by kernel_rfl) fun _ w h => h w (Grows.refl w)
      have E18 : ev aq (.tmp 43) = .string sb := hk.dc hr 18 (by kernel_rfl) fun _ w h => h w (Grows.refl w)
      exact vc hK (by go_simp) (fun w2 h2 => rfl)
    refine AllOps.cons (Does.lets (g := 15) (d := 40) (t := false) rfl (by kernel_rfl) (by kernel_rfl) (fun vq wq h => h wq (Grows.refl wq)) fun lq aq wq hk hr K hK => ?_) ?_
    · have B2 : ev aq (.tmp 2) = .pointer (some ⟨w.heap.size, 0, none⟩) := hk.base 2 (by kernel_rfl) rfl
      have hb := grows_of hk.ext
      exact vc hK (op_load3 2 _ B2 (D0.out.below hb)) (fun w2 h2 => QL.grow ⟨_, _, _, _, rfl, (SN0.out.below hb), (SD0.out.below hb), hlm3, hmm3⟩ h2)
    refine AllOps.cons (Does.lets (g := 15) (d := 40) (t := false) rfl (by kernel_rfl) (by kernel_rfl) (fun vq wq h => h wq (Grows.refl wq)) fun lq aq wq hk hr K hK => ?_) ?_
    · have B3 : ev aq (.tmp 3) = .pointer (some ⟨w.heap.size + 1, 0, none⟩) := hk.base 3 (by kernel_rfl) rfl
      have hb := grows_of hk.ext
      exact vc hK (op_load3 3 _ B3 (D1.out.below hb)) (fun w2 h2 => QL.grow ⟨_, _, _, _, rfl, (SN1.out.below hb), (SD1.out.below hb), hlm4, hmm4⟩ h2)
    refine AllOps.cons (Does.lets (g := 15) (d := 40) (t := false) rfl (by kernel_rfl) (by kernel_rfl) (fun vq wq h => h wq (Grows.refl wq)) fun lq aq wq hk hr K hK => ?_) ?_
    · obtain ⟨v20, E20, r20⟩ := hk.dp hr 20 45 (by kernel_rfl)
      have r20 : QL wq v20 nP0 fP0 gP0 := r20 wq (Grows.refl wq)
      obtain ⟨v21, E21, r21⟩ := hk.dp hr 21 46 (by kernel_rfl)
      have r21 : QL wq v21 nP1 fP1 gP1 := r21 wq (Grows.refl wq)
      exact cc hK (by go_simp) (qcmp_v wq ((r20).qv.to hq0) ((r21).qv.to hq1) (hs0.mono (by decide)) (hs1.mono (by decide)) (k := k) hkc.out) (fun u w1 hu w2 h2 => hu)
    refine AllOps.cons (Does.lets (g := 15) (d := 40) (t := false) rfl (by kernel_rfl) (by kernel_rfl) (fun vq wq h => h wq (Grows.refl wq)) fun lq aq wq hk hr K hK => ?_) ?_
    · have E22 : ev aq (.tmp 47) = .int .i64 k := hk.dc hr 22 (by kernel_rfl) fun _ w h => h w (Grows.refl w)
      exact vc hK (by go_simp) (fun w2 h2 => rfl)
    refine AllOps.cons (Does.lets (g := 15) (d := 40) (t := false) rfl (by kernel_rfl) (by kernel_rfl) (fun vq wq h => h wq (Grows.refl wq)) fun lq aq wq hk hr K hK => ?_) ?_
    · have E19 : ev aq (.tmp 44) = .bool t := hk.dc hr 19 (by kernel_rfl) fun _ w h => h w (Grows.refl w)
      have E23 : ev aq (.tmp 48) = .bool t := hk.dc hr 23 (by kernel_rfl) fun _ w h => h w (Grows.refl w)
      exact vc hK (by go_simp) (fun w2 h2 => rfl)
    refine po rfl (fun lq aq wq hk hr K hK => ?_) ?_
    · have E15 : ev aq (.tmp 40) = .bool false := hk.dc hr 15 (by kernel_rfl) fun _ w h => h w (Grows.refl w)
      have E24 : ev aq (.tmp 49) = .bool false := hk.dc hr 24 (by kernel_rfl) fun _ w h => h w (Grows.refl w)
      exact vc hK (by go_simp) (fun w2 h2 => rfl)
    exact AllOps.nil
  intro V x10 hG hV hap
  have r0 : (V 0) = .bool true := hV 0 (by decide)
  have r25 : (V 25) = .bool false := hV 25 (by decide)
  clear hV hap
  simp only [List.take_succ_cons, List.take_nil, List.drop_succ_cons, List.drop_nil, putAll, Act.put, List.setIfInBounds_toArray, List.set_cons_zero, List.set_cons_succ]
  have hb := grows_of hG
  replace D0 := Lib.hid (D0.out.below hb)
  replace SN0 := Lib.hid (SN0.out.below hb)
  replace SD0 := Lib.hid (SD0.out.below hb)
  replace D1 := Lib.hid (D1.out.below hb)
  replace SN1 := Lib.hid (SN1.out.below hb)
  replace SD1 := Lib.hid (SD1.out.below hb)
  replace Dx := Lib.hid (Dx.out.below hb)
  replace SNx := Lib.hid (SNx.out.below hb)
  replace SDx := Lib.hid (SDx.out.below hb)
  replace HB := Lib.hid (HB.out.trans (Below.mono hb HB.out.size))
  clear hb hG
  rw [r25]
  clear r25 hst hkt hln hrd hs9 hsb hkc
  go_upto_region 8 with fail
  rcases Decidable.em (b.num = 0) with hb0 | hb0
  · skip
    have lw0 := D0.out.lt
    have lw1 := D1.out.lt
    have lwx := Dx.out.lt
    refine wp_region_calm 7 [6] ([fun vq wq => QL wq vq nP0 fP0 gP0,
        fun vq wq => QL wq vq nP1 fP1 gP1,
        fun vq wq => ∃ u0, vq = .tuple #[u0, .int .i64 3] ∧ RV wq u0 (((0 : Int) : Rat)),
        fun vq wq => ∃ u0, vq = .tuple #[u0, .int .i64 3] ∧ RV wq u0 (((0 : Int) : Rat)),
        fun vq wq => RV wq vq (((0 : Int) : Rat)),
        fun vq _ => vq = .int .i64 3,
        fun vq wq => ∃ bq, vq = .pointer (some ⟨bq, 0, none⟩) ∧ BoxN wq bq 26 #[.bool false, .slice none 0 0, .slice none 0 0] ∧ (x10).heap.size ≤ bq]) (by kernel_rfl) (by decide) ?_ ?_ ?_
    · intro j hj v w h
      simp only [List.mem_cons, List.not_mem_nil, or_false] at hj
      subst hj
      all_goals (obtain ⟨b, rfl, hB, _⟩ := h; exact hB.lt)
    · refine po rfl (fun lq aq wq hk hr K hK => ?_) ?_
      · have B2 : ev aq (.tmp 2) = .pointer (some ⟨w.heap.size, 0, none⟩) := hk.base 2 (by kernel_rfl) rfl
        have hb : Below _ _ _ := hk.ext
        exact vc hK (op_load3 2 _ B2 (D0.out.below hb)) (fun w2 h2 => QL.grow ⟨_, _, _, _, rfl, (SN0.out.below hb), (SD0.out.below hb), hlm3, hmm3⟩ h2)
      refine po rfl (fun lq aq wq hk hr K hK => ?_) ?_
      · have B3 : ev aq (.tmp 3) = .pointer (some ⟨w.heap.size + 1, 0, none⟩) := hk.base 3 (by kernel_rfl) rfl
        have hb : Below _ _ _ := hk.ext
        exact vc hK (op_load3 3 _ B3 (D1.out.below hb)) (fun w2 h2 => QL.grow ⟨_, _, _, _, rfl, (SN1.out.below hb), (SD1.out.below hb), hlm4, hmm4⟩ h2)
      refine po rfl (fun lq aq wq hk hr K hK => ?_) ?_
      · obtain ⟨v0, E0, r0⟩ := hk.dp hr 0 52 (by kernel_rfl)
        have r0 : QL wq v0 nP0 fP0 gP0 := r0 wq (Grows.refl wq)
        obtain ⟨v1, E1, r1⟩ := hk.dp hr 1 53 (by kernel_rfl)
        have r1 : QL wq v1 nP1 fP1 gP1 := r1 wq (Grows.refl wq)
        exact cc hK (by go_simp) (qdiv0_v wq ((r0).qv.to hq0) ((r1).qv.to hq1) (hs0.mono (by decide)) (hs1.mono (by decide)) hb0) (fun u w1 hu w2 h2 => (let ⟨u0, e0, h0⟩ := hu; ⟨u0, e0, (h0).grow h2⟩))
      refine po rfl (fun lq aq wq hk hr K hK => ?_) ?_
      · obtain ⟨v2, E2, r2⟩ := hk.dp hr 2 54 (by kernel_rfl)
        have r2 : ∃ u0, v2 = .tuple #[u0, .int .i64 3] ∧ RV wq u0 (((0 : Int) : Rat)) := r2 wq (Grows.refl wq)
        exact vc hK (by go_simp) (fun w2 h2 => (let ⟨u0, e0, h0⟩ := r2; ⟨u0, e0, (h0).grow h2⟩))
      refine po rfl (fun lq aq wq hk hr K hK => ?_) ?_
      · obtain ⟨v3, E3, r3⟩ := hk.dp hr 3 51 (by kernel_rfl)
        have r3 : ∃ u0, v3 = .tuple #[u0, .int .i64 3] ∧ RV wq u0 (((0 : Int) : Rat)) := r3 wq (Grows.refl wq)
        obtain ⟨u0, rfl, h0⟩ := r3
        exact vc hK (by go_simp) (fun w2 h2 => (h0).grow h2)
      refine po rfl (fun lq aq wq hk hr K hK => ?_) ?_
      · obtain ⟨v3, E3, r3⟩ := hk.dp hr 3 51 (by kernel_rfl)
        have r3 : ∃ u0, v3 = .tuple #[u0, .int .i64 3] ∧ RV wq u0 (((0 : Int) : Rat)) := r3 wq (Grows.refl wq)
        obtain ⟨u0, rfl, h0⟩ := r3
        exact vc hK (by go_simp) (fun w2 h2 => rfl)
      refine po rfl (fun lq aq wq hk hr K hK => ?_) ?_
      · exact wp_of_value (by go_simp) (hK.out _ _ ((Grows.refl _).alloc _) (fun w2 h2 => ⟨_, rfl, (BoxN.new wq 26 _).below h2, hk.ext.size⟩) (fun _ => Nat.le_refl _))
      exact AllOps.nil
    intro V x11 hG hV hap
    have r4 : RV x11 (V 4) (((0 : Int) : Rat)) := hV 4 (by decide)
    have r5 : (V 5) = .int .i64 3 := hV 5 (by decide)
    have r6 : ∃ bq, (V 6) = .pointer (some ⟨bq, 0, none⟩) ∧ BoxN x11 bq 26 #[.bool false, .slice none 0 0, .slice none 0 0] ∧ (x10).heap.size ≤ bq := hV 6 (by decide)
    clear hV
    simp only [List.take_succ_cons, List.take_zero, List.drop_succ_cons, List.drop_zero, putAll, Act.put, List.setIfInBounds_toArray, List.set_cons_zero, List.set_cons_succ]
    have hb := (show Below _ _ _ from hG)
    obtain ⟨bq, eq, Dq, gq⟩ := r6
    obtain ⟨nq, Aq, kq, cq, Bq, jq, dq, eq9, sq, tq, hdq⟩ := r4
    simp only [eq, eq9, r5]
    clear eq eq9 hap hG r5
    replace Dq : Box3 _ bq 26 (.bool false) (.slice none 0 0) (.slice none 0 0) := Dq
    refine wpList_of_skip rfl (op_store3 8 55 _ rfl rfl Dq) ?_
    have hB := put3_below (x' := .bool nq) (y' := .slice Aq kq cq) (z' := .slice Bq jq dq) hb gq
    replace sq := sq.put3 Dq (.bool nq) (.slice Aq kq cq) (.slice Bq jq dq)
    replace tq := tq.put3 Dq (.bool nq) (.slice Aq kq cq) (.slice Bq jq dq)
    replace Dq := put3_own (x' := .bool nq) (y' := .slice Aq kq cq) (z' := .slice Bq jq dq) Dq
    clear hb
    generalize put3 x11 bq (.bool nq) (.slice Aq kq cq) (.slice Bq jq dq) = y12 at *
    replace D0 := Lib.hid (D0.out.below hB)
    replace SN0 := Lib.hid (SN0.out.below hB)
    replace SD0 := Lib.hid (SD0.out.below hB)
    replace D1 := Lib.hid (D1.out.below hB)
    replace SN1 := Lib.hid (SN1.out.below hB)
    replace SD1 := Lib.hid (SD1.out.below hB)
    replace Dx := Lib.hid (Dx.out.below hB)
    replace SNx := Lib.hid (SNx.out.below hB)
    replace SDx := Lib.hid (SDx.out.below hB)
    replace HB := Lib.hid (HB.out.trans (Below.mono hB HB.out.size))
    replace lw0 := Nat.lt_of_lt_of_le lw0 gq
    replace lw1 := Nat.lt_of_lt_of_le lw1 gq
    replace lwx := Nat.lt_of_lt_of_le lwx gq
    replace Dq := Lib.hid Dq
    have SNq := Lib.hid sq
    have SDq := Lib.hid tq
    clear hB gq sq tq
    go_upto_region 9 with fail
    refine wp_region_going 17 [] ([fun vq wq => QL wq vq nP0 fP0 gP0,
        fun vq wq => RV wq vq ((-a)),
        fun vq wq => QL wq vq nP0 fP0 gP0,
        fun vq wq => QL wq vq nP1 fP1 gP1,
        fun vq wq => RV wq vq ((a + b)),
        fun vq wq => QL wq vq nP0 fP0 gP0,
        fun vq wq => QL wq vq nP1 fP1 gP1,
        fun vq wq => RV wq vq ((a - b)),
        fun vq wq => QL wq vq nP0 fP0 gP0,
        fun vq wq => QL wq vq nP1 fP1 gP1,
        fun vq wq => RV wq vq ((a * b)),
        fun vq wq => RV wq vq (((0 : Int) : Rat)),
        fun vq _ => vq = .pointer (some ⟨w.heap.size, 0, none⟩),
        fun vq wq => WV wq vq ((sg nP0 (val fP0))),
        fun vq wq => RV wq vq ((((sg nP0 (val fP0)) : Int) : Rat)),
        fun vq wq => SixV AnyR wq vq,
        fun vq _ => vq = .int .i64 0]) (by kernel_rfl) (by kernel_rfl) (by decide) (by kernel_rfl) (by kernel_rfl) ?_ ?_ ?_
    · intro j hj; cases hj
    · refine po rfl (fun lq aq wq hk hr K hK => ?_) ?_
      · have B2 : ev aq (.tmp 2) = .pointer (some ⟨w.heap.size, 0, none⟩) := hk.base 2 (by kernel_rfl) rfl
        have hb := grows_of hk.ext
        exact vc hK (op_load3 2 _ B2 (D0.out.below hb)) (fun w2 h2 => QL.grow ⟨_, _, _, _, rfl, (SN0.out.below hb), (SD0.out.below hb), hlm3, hmm3⟩ h2)
      refine po rfl (fun lq aq wq hk hr K hK => ?_) ?_
      · obtain ⟨v0, E0, r0⟩ := hk.dp hr 0 57 (by kernel_rfl)
        have r0 : QL wq v0 nP0 fP0 gP0 := r0 wq (Grows.refl wq)
        exact cc hK (by go_simp) (rneg_v wq ((r0).qv.to hq0)) (fun u w1 hu w2 h2 => (hu).grow h2)
      refine po rfl (fun lq aq wq hk hr K hK => ?_) ?_
      · have B2 : ev aq (.tmp 2) = .pointer (some ⟨w.heap.size, 0, none⟩) := hk.base 2 (by kernel_rfl) rfl
        have hb := grows_of hk.ext
        exact vc hK (op_load3 2 _ B2 (D0.out.below hb)) (fun w2 h2 => QL.grow ⟨_, _, _, _, rfl, (SN0.out.below hb), (SD0.out.below hb), hlm3, hmm3⟩ h2)
      refine po rfl (fun lq aq wq hk hr K hK => ?_) ?_
      · have B3 : ev aq (.tmp 3) = .pointer (some ⟨w.heap.size + 1, 0, none⟩) := hk.base 3 (by kernel_rfl) rfl
        have hb := grows_of hk.ext
        exact vc hK (op_load3 3 _ B3 (D1.out.below hb)) (fun w2 h2 => QL.grow ⟨_, _, _, _, rfl, (SN1.out.below hb), (SD1.out.below hb), hlm4, hmm4⟩ h2)
      refine po rfl (fun lq aq wq hk hr K hK => ?_) ?_
      · obtain ⟨v2, E2, r2⟩ := hk.dp hr 2 59 (by kernel_rfl)
        have r2 : QL wq v2 nP0 fP0 gP0 := r2 wq (Grows.refl wq)
        obtain ⟨v3, E3, r3⟩ := hk.dp hr 3 60 (by kernel_rfl)
        have r3 : QL wq v3 nP1 fP1 gP1 := r3 wq (Grows.refl wq)
        exact cc hK (by go_simp) (qadd_v wq ((r2).qv.to hq0) ((r3).qv.to hq1) (hs0.mono (by decide)) (hs1.mono (by decide))) (fun u w1 hu w2 h2 => (hu).grow h2)
      refine po rfl (fun lq aq wq hk hr K hK => ?_) ?_
      · have B2 : ev aq (.tmp 2) = .pointer (some ⟨w.heap.size, 0, none⟩) := hk.base 2 (by kernel_rfl) rfl
        have hb := grows_of hk.ext
        exact vc hK (op_load3 2 _ B2 (D0.out.below hb)) (fun w2 h2 => QL.grow ⟨_, _, _, _, rfl, (SN0.out.below hb), (SD0.out.below hb), hlm3, hmm3⟩ h2)
      refine po rfl (fun lq aq wq hk hr K hK => ?_) ?_
      · have B3 : ev aq (.tmp 3) = .pointer (some ⟨w.heap.size + 1, 0, none⟩) := hk.base 3 (by kernel_rfl) rfl
        have hb := grows_of hk.ext
        exact vc hK (op_load3 3 _ B3 (D1.out.below hb)) (fun w2 h2 => QL.grow ⟨_, _, _, _, rfl, (SN1.out.below hb), (SD1.out.below hb), hlm4, hmm4⟩ h2)
      refine po rfl (fun lq aq wq hk hr K hK => ?_) ?_
      · obtain ⟨v5, E5, r5⟩ := hk.dp hr 5 62 (by kernel_rfl)
        have r5 : QL wq v5 nP0 fP0 gP0 := r5 wq (Grows.refl wq)
        obtain ⟨v6, E6, r6⟩ := hk.dp hr 6 63 (by kernel_rfl)
        have r6 : QL wq v6 nP1 fP1 gP1 := r6 wq (Grows.refl wq)
        exact cc hK (by go_simp) (qsub_v wq ((r5).qv.to hq0) ((r6).qv.to hq1) (hs0.mono (by decide)) (hs1.mono (by decide))) (fun u w1 hu w2 h2 => (hu).grow h2)
      refine po rfl (fun lq aq wq hk hr K hK => ?_) ?_
      · have B2 : ev aq (.tmp 2) = .pointer (some ⟨w.heap.size, 0, none⟩) := hk.base 2 (by kernel_rfl) rfl
        have hb := grows_of hk.ext
        exact vc hK (op_load3 2 _ B2 (D0.out.below hb)) (fun w2 h2 => QL.grow ⟨_, _, _, _, rfl, (SN0.out.below hb), (SD0.out.below hb), hlm3, hmm3⟩ h2)
      refine po rfl (fun lq aq wq hk hr K hK => ?_) ?_
      · have B3 : ev aq (.tmp 3) = .pointer (some ⟨w.heap.size + 1, 0, none⟩) := hk.base 3 (by kernel_rfl) rfl
        have hb := grows_of hk.ext
        exact vc hK (op_load3 3 _ B3 (D1.out.below hb)) (fun w2 h2 => QL.grow ⟨_, _, _, _, rfl, (SN1.out.below hb), (SD1.out.below hb), hlm4, hmm4⟩ h2)
      refine po rfl (fun lq aq wq hk hr K hK => ?_) ?_
      · obtain ⟨v8, E8, r8⟩ := hk.dp hr 8 65 (by kernel_rfl)
        have r8 : QL wq v8 nP0 fP0 gP0 := r8 wq (Grows.refl wq)
        obtain ⟨v9, E9, r9⟩ := hk.dp hr 9 66 (by kernel_rfl)
        have r9 : QL wq v9 nP1 fP1 gP1 := r9 wq (Grows.refl wq)
        exact cc hK (by go_simp) (qmulK_v wq ((r8).qv.to hq0) ((r9).qv.to hq1) (hs0.mono (by decide)) (hs1.mono (by decide))) (fun u w1 hu w2 h2 => (hu).grow h2)
      refine po rfl (fun lq aq wq hk hr K hK => ?_) ?_
      · have B8 : ev aq (.tmp 8) = .pointer (some ⟨bq, 0, none⟩) := hk.base 8 (by kernel_rfl) rfl
        have hb := grows_of hk.ext
        exact vc hK (op_load3 8 _ B8 (Dq.out.below hb)) (fun w2 h2 => RV.grow ⟨_, _, _, _, _, _, _, rfl, (SNq.out.below hb), (SDq.out.below hb), hdq⟩ h2)
      refine po rfl (fun lq aq wq hk hr K hK => ?_) ?_
      · have B2 : ev aq (.tmp 2) = .pointer (some ⟨w.heap.size, 0, none⟩) := hk.base 2 (by kernel_rfl) rfl
        exact vc hK (by go_simp) (fun w2 h2 => rfl)
      refine po rfl (fun lq aq wq hk hr K hK => ?_) ?_
      · have E12 : ev aq (.tmp 69) = .pointer (some ⟨w.heap.size, 0, none⟩) := hk.dc hr 12 (by kernel_rfl) fun _ w h => h w (Grows.refl w)
        have hb := grows_of hk.ext
        exact vc hK (op_loadN 69 _ E12 (D0.out.below hb)) (fun w2 h2 => ⟨_, _, _, _, rfl, ⟨_, _, (SN0.out.below hb).below h2, hlm3, rfl⟩⟩)
      refine po rfl (fun lq aq wq hk hr K hK => ?_) ?_
      · obtain ⟨v13, E13, r13⟩ := hk.dp hr 13 70 (by kernel_rfl)
        have r13 : WV wq v13 ((sg nP0 (val fP0))) := r13 wq (Grows.refl wq)
        exact cc hK (by go_simp) (int_v wq r13) (fun u w1 hu w2 h2 => (hu).grow h2)
      refine po rfl (fun lq aq wq hk hr K hK => ?_) ?_
      · obtain ⟨v1, E1, r1⟩ := hk.dp hr 1 58 (by kernel_rfl)
        have r1 : RV wq v1 ((-a)) := r1 wq (Grows.refl wq)
        obtain ⟨n1, A1, k1, c1, B1, j1, d1, rfl, s1, t1, hd1⟩ := r1
        obtain ⟨v4, E4, r4⟩ := hk.dp hr 4 61 (by kernel_rfl)
        have r4 : RV wq v4 ((a + b)) := r4 wq (Grows.refl wq)
        obtain ⟨n4, A4, k4, c4, B4, j4, d4, rfl, s4, t4, hd4⟩ := r4
        obtain ⟨v7, E7, r7⟩ := hk.dp hr 7 64 (by kernel_rfl)
        have r7 : RV wq v7 ((a - b)) := r7 wq (Grows.refl wq)
        obtain ⟨n7, A7, k7, c7, B7, j7, d7, rfl, s7, t7, hd7⟩ := r7
        obtain ⟨v10, E10, r10⟩ := hk.dp hr 10 67 (by kernel_rfl)
        have r10 : RV wq v10 ((a * b)) := r10 wq (Grows.refl wq)
        obtain ⟨n10, A10, k10, c10, B10, j10, d10, rfl, s10, t10, hd10⟩ := r10
        obtain ⟨v11, E11, r11⟩ := hk.dp hr 11 68 (by kernel_rfl)
        have r11 : RV wq v11 (((0 : Int) : Rat)) := r11 wq (Grows.refl wq)
        obtain ⟨n11, A11, k11, c11, B11, j11, d11, rfl, s11, t11, hd11⟩ := r11
        obtain ⟨v14, E14, r14⟩ := hk.dp hr 14 71 (by kernel_rfl)
        have r14 : RV wq v14 ((((sg nP0 (val fP0)) : Int) : Rat)) := r14 wq (Grows.refl wq)
        obtain ⟨n14, A14, k14, c14, B14, j14, d14, rfl, s14, t14, hd14⟩ := r14
        exact vc hK (op_six 58 61 64 67 68 71 E1 E4 E7 E10 E11 E14) (fun w2 h2 => SixV.grow (fun _ _ _ h hb => AnyR.grow h hb) (SixV.of ⟨_, _, _, _, _, _, _, _, rfl, s1, t1, hd1⟩ ⟨_, _, _, _, _, _, _, _, rfl, s4, t4, hd4⟩ ⟨_, _, _, _, _, _, _, _, rfl, s7, t7, hd7⟩ ⟨_, _, _, _, _, _, _, _, rfl, s10, t10, hd10⟩ ⟨_, _, _, _, _, _, _, _, rfl, s11, t11, hd11⟩ ⟨_, _, _, _, _, _, _, _, rfl, s14, t14, hd14⟩) h2)
      refine po rfl (fun lq aq wq hk hr K hK => ?_) ?_
      · exact vc hK (by go_simp) (fun w2 h2 => rfl)
      exact AllOps.nil
    intro V x13 hG hV hap
    have r15 : SixV AnyR x13 (V 15) := hV 15 (by decide)
    have r16 : (V 16) = .int .i64 0 := hV 16 (by decide)
    clear hV hap
    simp only [List.take_succ_cons, List.take_nil, List.drop_succ_cons, List.drop_nil, putAll, Act.put, List.setIfInBounds_toArray, List.set_cons_zero, List.set_cons_succ]
    have hb := grows_of hG
    replace D0 := Lib.hid (D0.out.below hb)
    replace SN0 := Lib.hid (SN0.out.below hb)
    replace SD0 := Lib.hid (SD0.out.below hb)
    replace D1 := Lib.hid (D1.out.below hb)
    replace SN1 := Lib.hid (SN1.out.below hb)
    replace SD1 := Lib.hid (SD1.out.below hb)
    replace Dx := Lib.hid (Dx.out.below hb)
    replace SNx := Lib.hid (SNx.out.below hb)
    replace SDx := Lib.hid (SDx.out.below hb)
    replace Dq := Lib.hid (Dq.out.below hb)
    replace SNq := Lib.hid (SNq.out.below hb)
    replace SDq := Lib.hid (SDq.out.below hb)
    replace HB := Lib.hid (HB.out.trans (Below.mono hb HB.out.size))
    clear hb hG
    obtain ⟨L, e15, h15⟩ := r15
    rw [e15, r16]
    clear e15 r16
    have H15 := Lib.hid h15
    clear h15
    replace HL := Lib.hid (HL.out.below HB.out)
    have HW := HB
    replace HB := Lib.hid (Below.refl x13.heap.size x13)
    go_wp2_with fail
    go_loopw [73] (fun iv wr => ∃ k : Nat, k ≤ 6 ∧ iv = .int .i64 k ∧ Hid (Below x13.heap.size x13 wr)) (fun iv _ => 6 - (intOf iv).toNat)
    case atStart => exact ⟨0, Nat.zero_le _, rfl, HB⟩
    case round =>
      clear HB
      obtain ⟨k, hk, rfl, HB⟩ := hrel
      replace D0 := Lib.hid (D0.out.below HB.out)
      replace SN0 := Lib.hid (SN0.out.below HB.out)
      replace SD0 := Lib.hid (SD0.out.below HB.out)
      replace D1 := Lib.hid (D1.out.below HB.out)
      replace SN1 := Lib.hid (SN1.out.below HB.out)
      replace SD1 := Lib.hid (SD1.out.below HB.out)
      replace Dx := Lib.hid (Dx.out.below HB.out)
      replace SNx := Lib.hid (SNx.out.below HB.out)
      replace SDx := Lib.hid (SDx.out.below HB.out)
      replace Dq := Lib.hid (Dq.out.below HB.out)
      replace SNq := Lib.hid (SNq.out.below HB.out)
      replace SDq := Lib.hid (SDq.out.below HB.out)
      rcases Nat.lt_or_ge k 6 with hlt | hge
      · skip
        obtain ⟨q, hq⟩ := H15.out k hlt
        replace hq := Lib.hid (hq.grow HB.out)
        go_upto_region 11 with fail
        have lw0 := D0.out.lt
        have lw1 := D1.out.lt
        have lwx := Dx.out.lt
        have lwq := Dq.out.lt
        refine wp_region_calm 2 [1] ([fun vq wq => RV wq vq q,
            fun vq wq => ∃ bq, vq = .pointer (some ⟨bq, 0, none⟩) ∧ BoxN wq bq 26 #[.bool false, .slice none 0 0, .slice none 0 0] ∧ (wr).heap.size ≤ bq]) (by kernel_rfl) (by decide) ?_ ?_ ?_
        · intro j hj v w h
          simp only [List.mem_cons, List.not_mem_nil, or_false] at hj
          subst hj
          all_goals (obtain ⟨b, rfl, hB, _⟩ := h; exact hB.lt)
        · refine po rfl (fun lq aq wq hk hr K hK => ?_) ?_
          · have B72 : ev aq (.tmp 72) = .agg #[.bool (L 0).1, .slice (L 0).2.1 (L 0).2.2.1 (L 0).2.2.2.1, .slice (L 0).2.2.2.2.1 (L 0).2.2.2.2.2.1 (L 0).2.2.2.2.2.2, .bool (L 1).1, .slice (L 1).2.1 (L 1).2.2.1 (L 1).2.2.2.1, .slice (L 1).2.2.2.2.1 (L 1).2.2.2.2.2.1 (L 1).2.2.2.2.2.2, .bool (L 2).1, .slice (L 2).2.1 (L 2).2.2.1 (L 2).2.2.2.1, .slice (L 2).2.2.2.2.1 (L 2).2.2.2.2.2.1 (L 2).2.2.2.2.2.2, .bool (L 3).1, .slice (L 3).2.1 (L 3).2.2.1 (L 3).2.2.2.1, .slice (L 3).2.2.2.2.1 (L 3).2.2.2.2.2.1 (L 3).2.2.2.2.2.2, .bool (L 4).1, .slice (L 4).2.1 (L 4).2.2.1 (L 4).2.2.2.1, .slice (L 4).2.2.2.2.1 (L 4).2.2.2.2.2.1 (L 4).2.2.2.2.2.2, .bool (L 5).1, .slice (L 5).2.1 (L 5).2.2.1 (L 5).2.2.2.1, .slice (L 5).2.2.2.2.1 (L 5).2.2.2.2.2.1 (L 5).2.2.2.2.2.2] := hk.base 72 (by kernel_rfl) rfl
            have B73 : ev aq (.tmp 73) = .int .i64 k := hk.base 73 (by kernel_rfl) rfl
            exact vc hK (op_index6 72 73 k hlt B72 B73) (fun w2 h2 => (hq.out.grow hk.ext).grow h2)
          refine po rfl (fun lq aq wq hk hr K hK => ?_) ?_
          · exact wp_of_value (by go_simp) (hK.out _ _ ((Grows.refl _).alloc _) (fun w2 h2 => ⟨_, rfl, (BoxN.new wq 26 _).below h2, hk.ext.size⟩) (fun _ => Nat.le_refl _))
          exact AllOps.nil
        intro V x14 hG hV hap
        have r0 : RV x14 (V 0) q := hV 0 (by decide)
        have r1 : ∃ bq, (V 1) = .pointer (some ⟨bq, 0, none⟩) ∧ BoxN x14 bq 26 #[.bool false, .slice none 0 0, .slice none 0 0] ∧ (wr).heap.size ≤ bq := hV 1 (by decide)
        clear hV
        simp only [List.take_succ_cons, List.take_zero, List.drop_succ_cons, List.drop_zero, putAll, Act.put, List.setIfInBounds_toArray, List.set_cons_zero, List.set_cons_succ]
        have hb := (show Below _ _ _ from hG)
        obtain ⟨be, ee, De, ge⟩ := r1
        obtain ⟨ne, Ae, ke, ce, Be, je, de, ee9, se, te, hde⟩ := r0
        simp only [ee, ee9]
        clear ee ee9 hap hG
        replace De : Box3 _ be 26 (.bool false) (.slice none 0 0) (.slice none 0 0) := De
        refine wpList_of_skip rfl (op_store3 11 75 _ rfl rfl De) ?_
        have hB := put3_below (x' := .bool ne) (y' := .slice Ae ke ce) (z' := .slice Be je de) hb ge
        replace se := se.put3 De (.bool ne) (.slice Ae ke ce) (.slice Be je de)
        replace te := te.put3 De (.bool ne) (.slice Ae ke ce) (.slice Be je de)
        replace De := put3_own (x' := .bool ne) (y' := .slice Ae ke ce) (z' := .slice Be je de) De
        clear hb
        generalize put3 x14 be (.bool ne) (.slice Ae ke ce) (.slice Be je de) = y15 at *
        replace D0 := Lib.hid (D0.out.below hB)
        replace SN0 := Lib.hid (SN0.out.below hB)
        replace SD0 := Lib.hid (SD0.out.below hB)
        replace D1 := Lib.hid (D1.out.below hB)
        replace SN1 := Lib.hid (SN1.out.below hB)
        replace SD1 := Lib.hid (SD1.out.below hB)
        replace Dx := Lib.hid (Dx.out.below hB)
        replace SNx := Lib.hid (SNx.out.below hB)
        replace SDx := Lib.hid (SDx.out.below hB)
        replace Dq := Lib.hid (Dq.out.below hB)
        replace SNq := Lib.hid (SNq.out.below hB)
        replace SDq := Lib.hid (SDq.out.below hB)
        replace hq := Lib.hid (hq.out.below hB)
        replace HB := Lib.hid (HB.out.trans (Below.mono hB HB.out.size))
        replace lw0 := Nat.lt_of_lt_of_le lw0 ge
        replace lw1 := Nat.lt_of_lt_of_le lw1 ge
        replace lwx := Nat.lt_of_lt_of_le lwx ge
        replace lwq := Nat.lt_of_lt_of_le lwq ge
        replace De := Lib.hid De
        have SNe := Lib.hid se
        have SDe := Lib.hid te
        clear hB ge se te
        go_upto_region 12 with fail
        refine wp_region_calm 3 [] ([fun vq wq => RV wq vq q,
            fun vq _ => vq = .bool true,
            fun vq _ => vq = .bool false]) (by kernel_rfl) (by decide) ?_ ?_ ?_
        · intro j hj; cases hj
        · refine po rfl (fun lq aq wq hk hr K hK => ?_) ?_
          · have B11 : ev aq (.tmp 11) = .pointer (some ⟨be, 0, none⟩) := hk.base 11 (by kernel_rfl) rfl
            have hb : Below _ _ _ := hk.ext
            exact vc hK (op_load3 11 _ B11 (De.out.below hb)) (fun w2 h2 => RV.grow ⟨_, _, _, _, _, _, _, rfl, (SNe.out.below hb), (SDe.out.below hb), hde⟩ h2)
          refine po rfl (fun lq aq wq hk hr K hK => ?_) ?_
          · obtain ⟨v0, E0, r0⟩ := hk.dp hr 0 76 (by kernel_rfl)
            have r0 : RV wq v0 q := r0 wq (Grows.refl wq)
            exact cc hK (by go_simp) (qright_v wq (r0).ql (lright_own _)) (fun u w1 hu w2 h2 => hu)
          refine po rfl (fun lq aq wq hk hr K hK => ?_) ?_
          · have E1 : ev aq (.tmp 77) = .bool true := hk.dc hr 1 (by kernel_rfl) fun _ w h => h w (Grows.refl w)
            exact vc hK (by go_simp) (fun w2 h2 => rfl)
          exact AllOps.nil
        intro V x16 hG hV hap
        have r2 : (V 2) = .bool false := hV 2 (by decide)
        clear hV hap
        simp only [List.take_succ_cons, List.take_nil, List.drop_succ_cons, List.drop_nil, putAll, Act.put, List.setIfInBounds_toArray, List.set_cons_zero, List.set_cons_succ]
        have hb := (show Below _ _ _ from hG)
        replace D0 := Lib.hid (D0.out.below hb)
        replace SN0 := Lib.hid (SN0.out.below hb)
        replace SD0 := Lib.hid (SD0.out.below hb)
        replace D1 := Lib.hid (D1.out.below hb)
        replace SN1 := Lib.hid (SN1.out.below hb)
        replace SD1 := Lib.hid (SD1.out.below hb)
        replace Dx := Lib.hid (Dx.out.below hb)
        replace SNx := Lib.hid (SNx.out.below hb)
        replace SDx := Lib.hid (SDx.out.below hb)
        replace Dq := Lib.hid (Dq.out.below hb)
        replace SNq := Lib.hid (SNq.out.below hb)
        replace SDq := Lib.hid (SDq.out.below hb)
        replace De := Lib.hid (De.out.below hb)
        replace SNe := Lib.hid (SNe.out.below hb)
        replace SDe := Lib.hid (SDe.out.below hb)
        replace hq := Lib.hid (hq.out.below hb)
        replace HB := Lib.hid (HB.out.trans (Below.mono hb HB.out.size))
        clear hb hG
        rw [r2]
        clear r2
        go_wp2_with fail
        go_roundw
        case rel =>
          first
            | exact ⟨k + 1, by omega, (by first | rfl | simp), HB⟩
            | ((repeat apply Exists.intro); refine ⟨?_, rfl⟩; exact ⟨k + 1, by omega, (by first | rfl | simp), HB⟩)
        case measure => simp [intOf]; omega
      · skip
        obtain rfl : k = 6 := by omega
        obtain ⟨t9, ht9⟩ : ∃ t, lright nP0 fP0 gP0 = t := ⟨_, rfl⟩
        have ht8 : lsame nP0 fP0 gP0 (decide (a.num < 0)) (limbs a.num.natAbs) (limbs a.den) = t9 := by rw [← hq0]; exact ht9
        replace ht9 := Lib.hid ht9
        replace ht8 := Lib.hid ht8
        go_upto_region 15 with fail
        refine wp_region_going 6 [] ([fun vq wq => QL wq vq nP0 fP0 gP0,
            fun vq _ => vq = .bool t9,
            fun vq wq => QL wq vq nP0 fP0 gP0,
            fun vq wq => RV wq vq a,
            fun vq _ => vq = .bool t9,
            fun vq _ => vq = .bool true]) (by kernel_rfl) (by kernel_rfl) (by decide) (by kernel_rfl) (by kernel_rfl) ?_ ?_ ?_
        · intro j hj; cases hj
        · refine po rfl (fun lq aq wq hk hr K hK => ?_) ?_
          · have B2 : ev aq (.tmp 2) = .pointer (some ⟨w.heap.size, 0, none⟩) := hk.base 2 (by kernel_rfl) rfl
            have hb := grows_of hk.ext
            exact vc hK (op_load3 2 _ B2 (D0.out.below hb)) (fun w2 h2 => QL.grow ⟨_, _, _, _, rfl, (SN0.out.below hb), (SD0.out.below hb), hlm3, hmm3⟩ h2)
          refine po rfl (fun lq aq wq hk hr K hK => ?_) ?_
          · obtain ⟨v0, E0, r0⟩ := hk.dp hr 0 80 (by kernel_rfl)
            have r0 : QL wq v0 nP0 fP0 gP0 := r0 wq (Grows.refl wq)
            exact cc hK (by go_simp) (qright_v wq r0 (t := t9) ht9.out) (fun u w1 hu w2 h2 => hu)
          refine po rfl (fun lq aq wq hk hr K hK => ?_) ?_
          · have B2 : ev aq (.tmp 2) = .pointer (some ⟨w.heap.size, 0, none⟩) := hk.base 2 (by kernel_rfl) rfl
            have hb := grows_of hk.ext
            exact vc hK (op_load3 2 _ B2 (D0.out.below hb)) (fun w2 h2 => QL.grow ⟨_, _, _, _, rfl, (SN0.out.below hb), (SD0.out.below hb), hlm3, hmm3⟩ h2)
          refine po rfl (fun lq aq wq hk hr K hK => ?_) ?_
          · have B6 : ev aq (.tmp 6) = .pointer (some ⟨bx, 0, none⟩) := hk.base 6 (by kernel_rfl) rfl
            have hb := grows_of hk.ext
            exact vc hK (op_load3 6 _ B6 (Dx.out.below hb)) (fun w2 h2 => RV.grow ⟨_, _, _, _, _, _, _, rfl, (SNx.out.below hb), (SDx.out.below hb), hdx⟩ h2)
          refine po rfl (fun lq aq wq hk hr K hK => ?_) ?_
          · obtain ⟨v2, E2, r2⟩ := hk.dp hr 2 82 (by kernel_rfl)
            have r2 : QL wq v2 nP0 fP0 gP0 := r2 wq (Grows.refl wq)
            obtain ⟨v3, E3, r3⟩ := hk.dp hr 3 83 (by kernel_rfl)
            have r3 : RV wq v3 a := r3 wq (Grows.refl wq)
            exact cc hK (by go_simp) (lsameL_v wq r2 (r3).ql (t := t9) ht8.out) (fun u w1 hu w2 h2 => hu)
          refine po rfl (fun lq aq wq hk hr K hK => ?_) ?_
          · have E1 : ev aq (.tmp 81) = .bool t9 := hk.dc hr 1 (by kernel_rfl) fun _ w h => h w (Grows.refl w)
            have E4 : ev aq (.tmp 84) = .bool t9 := hk.dc hr 4 (by kernel_rfl) fun _ w h => h w (Grows.refl w)
            exact vc hK (by go_simp) (fun w2 h2 => rfl)
          exact AllOps.nil
        intro V x14 hG hV hap
        have r5 : (V 5) = .bool true := hV 5 (by decide)
        clear hV hap
        simp only [List.take_succ_cons, List.take_zero, List.drop_succ_cons, List.drop_zero, putAll, Act.put, List.setIfInBounds_toArray, List.set_cons_zero, List.set_cons_succ]
        have hb := grows_of hG
        replace D0 := Lib.hid (D0.out.below hb)
        replace SN0 := Lib.hid (SN0.out.below hb)
        replace SD0 := Lib.hid (SD0.out.below hb)
        replace D1 := Lib.hid (D1.out.below hb)
        replace SN1 := Lib.hid (SN1.out.below hb)
        replace SD1 := Lib.hid (SD1.out.below hb)
        replace Dx := Lib.hid (Dx.out.below hb)
        replace SNx := Lib.hid (SNx.out.below hb)
        replace SDx := Lib.hid (SDx.out.below hb)
        replace Dq := Lib.hid (Dq.out.below hb)
        replace SNq := Lib.hid (SNq.out.below hb)
        replace SDq := Lib.hid (SDq.out.below hb)
        replace HB := Lib.hid (HB.out.trans (Below.mono hb HB.out.size))
        clear hb hG
        rw [r5]
        clear r5
        go_wp2_with fail
        go_ret
        exact ⟨rfl, HW.out.trans (Below.mono HB.out HW.out.size)⟩
  · skip
    have lw0 := D0.out.lt
    have lw1 := D1.out.lt
    have lwx := Dx.out.lt
    refine wp_region_calm 7 [6] ([fun vq wq => QL wq vq nP0 fP0 gP0,
        fun vq wq => QL wq vq nP1 fP1 gP1,
        fun vq wq => ∃ u0, vq = .tuple #[u0, .int .i64 0] ∧ RV wq u0 ((a / b)),
        fun vq wq => ∃ u0, vq = .tuple #[u0, .int .i64 0] ∧ RV wq u0 ((a / b)),
        fun vq wq => RV wq vq ((a / b)),
        fun vq _ => vq = .int .i64 0,
        fun vq wq => ∃ bq, vq = .pointer (some ⟨bq, 0, none⟩) ∧ BoxN wq bq 26 #[.bool false, .slice none 0 0, .slice none 0 0] ∧ (x10).heap.size ≤ bq]) (by kernel_rfl) (by decide) ?_ ?_ ?_
    · intro j hj v w h
      simp only [List.mem_cons, List.not_mem_nil, or_false] at hj
      subst hj
      all_goals (obtain ⟨b, rfl, hB, _⟩ := h; exact hB.lt)
    · refine po rfl (fun lq aq wq hk hr K hK => ?_) ?_
      · have B2 : ev aq (.tmp 2) = .pointer (some ⟨w.heap.size, 0, none⟩) := hk.base 2 (by kernel_rfl) rfl
        have hb : Below _ _ _ := hk.ext
        exact vc hK (op_load3 2 _ B2 (D0.out.below hb)) (fun w2 h2 => QL.grow ⟨_, _, _, _, rfl, (SN0.out.below hb), (SD0.out.below hb), hlm3, hmm3⟩ h2)
      refine po rfl (fun lq aq wq hk hr K hK => ?_) ?_
      · have B3 : ev aq (.tmp 3) = .pointer (some ⟨w.heap.size + 1, 0, none⟩) := hk.base 3 (by kernel_rfl) rfl
        have hb : Below _ _ _ := hk.ext
        exact vc hK (op_load3 3 _ B3 (D1.out.below hb)) (fun w2 h2 => QL.grow ⟨_, _, _, _, rfl, (SN1.out.below hb), (SD1.out.below hb), hlm4, hmm4⟩ h2)
      refine po rfl (fun lq aq wq hk hr K hK => ?_) ?_
      · obtain ⟨v0, E0, r0⟩ := hk.dp hr 0 52 (by kernel_rfl)
        have r0 : QL wq v0 nP0 fP0 gP0 := r0 wq (Grows.refl wq)
        obtain ⟨v1, E1, r1⟩ := hk.dp hr 1 53 (by kernel_rfl)
        have r1 : QL wq v1 nP1 fP1 gP1 := r1 wq (Grows.refl wq)
        exact cc hK (by go_simp) (qdiv_v wq ((r0).qv.to hq0) ((r1).qv.to hq1) (hs0.mono (by decide)) (hs1.mono (by decide)) hb0) (fun u w1 hu w2 h2 => (let ⟨u0, e0, h0⟩ := hu; ⟨u0, e0, (h0).grow h2⟩))
      refine po rfl (fun lq aq wq hk hr K hK => ?_) ?_
      · obtain ⟨v2, E2, r2⟩ := hk.dp hr 2 54 (by kernel_rfl)
        have r2 : ∃ u0, v2 = .tuple #[u0, .int .i64 0] ∧ RV wq u0 ((a / b)) := r2 wq (Grows.refl wq)
        exact vc hK (by go_simp) (fun w2 h2 => (let ⟨u0, e0, h0⟩ := r2; ⟨u0, e0, (h0).grow h2⟩))
      refine po rfl (fun lq aq wq hk hr K hK => ?_) ?_
      · obtain ⟨v3, E3, r3⟩ := hk.dp hr 3 51 (by kernel_rfl)
        have r3 : ∃ u0, v3 = .tuple #[u0, .int .i64 0] ∧ RV wq u0 ((a / b)) := r3 wq (Grows.refl wq)
        obtain ⟨u0, rfl, h0⟩ := r3
        exact vc hK (by go_simp) (fun w2 h2 => (h0).grow h2)
      refine po rfl (fun lq aq wq hk hr K hK => ?_) ?_
      · obtain ⟨v3, E3, r3⟩ := hk.dp hr 3 51 (by kernel_rfl)
        have r3 : ∃ u0, v3 = .tuple #[u0, .int .i64 0] ∧ RV wq u0 ((a / b)) := r3 wq (Grows.refl wq)
        obtain ⟨u0, rfl, h0⟩ := r3
        exact vc hK (by go_simp) (fun w2 h2 => rfl)
      refine po rfl (fun lq aq wq hk hr K hK => ?_) ?_
      · exact wp_of_value (by go_simp) (hK.out _ _ ((Grows.refl _).alloc _) (fun w2 h2 => ⟨_, rfl, (BoxN.new wq 26 _).below h2, hk.ext.size⟩) (fun _ => Nat.le_refl _))
      exact AllOps.nil
    intro V x11 hG hV hap
    have r4 : RV x11 (V 4) ((a / b)) := hV 4 (by decide)
    have r5 : (V 5) = .int .i64 0 := hV 5 (by decide)
    have r6 : ∃ bq, (V 6) = .pointer (some ⟨bq, 0, none⟩) ∧ BoxN x11 bq 26 #[.bool false, .slice none 0 0, .slice none 0 0] ∧ (x10).heap.size ≤ bq := hV 6 (by decide)
    clear hV
    simp only [List.take_succ_cons, List.take_zero, List.drop_succ_cons, List.drop_zero, putAll, Act.put, List.setIfInBounds_toArray, List.set_cons_zero, List.set_cons_succ]
    have hb := (show Below _ _ _ from hG)
    obtain ⟨bq, eq, Dq, gq⟩ := r6
    obtain ⟨nq, Aq, kq, cq, Bq, jq, dq, eq9, sq, tq, hdq⟩ := r4
    simp only [eq, eq9, r5]
    clear eq eq9 hap hG r5
    replace Dq : Box3 _ bq 26 (.bool false) (.slice none 0 0) (.slice none 0 0) := Dq
    refine wpList_of_skip rfl (op_store3 8 55 _ rfl rfl Dq) ?_
    have hB := put3_below (x' := .bool nq) (y' := .slice Aq kq cq) (z' := .slice Bq jq dq) hb gq
    replace sq := sq.put3 Dq (.bool nq) (.slice Aq kq cq) (.slice Bq jq dq)
    replace tq := tq.put3 Dq (.bool nq) (.slice Aq kq cq) (.slice Bq jq dq)
    replace Dq := put3_own (x' := .bool nq) (y' := .slice Aq kq cq) (z' := .slice Bq jq dq) Dq
    clear hb
    generalize put3 x11 bq (.bool nq) (.slice Aq kq cq) (.slice Bq jq dq) = y12 at *
    replace D0 := Lib.hid (D0.out.below hB)
    replace SN0 := Lib.hid (SN0.out.below hB)
    replace SD0 := Lib.hid (SD0.out.below hB)
    replace D1 := Lib.hid (D1.out.below hB)
    replace SN1 := Lib.hid (SN1.out.below hB)
    replace SD1 := Lib.hid (SD1.out.below hB)
    replace Dx := Lib.hid (Dx.out.below hB)
    replace SNx := Lib.hid (SNx.out.below hB)
    replace SDx := Lib.hid (SDx.out.below hB)
    replace HB := Lib.hid (HB.out.trans (Below.mono hB HB.out.size))
    replace lw0 := Nat.lt_of_lt_of_le lw0 gq
    replace lw1 := Nat.lt_of_lt_of_le lw1 gq
    replace lwx := Nat.lt_of_lt_of_le lwx gq
    replace Dq := Lib.hid Dq
    have SNq := Lib.hid sq
    have SDq := Lib.hid tq
    clear hB gq sq tq
    go_upto_region 9 with fail
    refine wp_region_going 17 [] ([fun vq wq => QL wq vq nP0 fP0 gP0,
        fun vq wq => RV wq vq ((-a)),
        fun vq wq => QL wq vq nP0 fP0 gP0,
        fun vq wq => QL wq vq nP1 fP1 gP1,
        fun vq wq => RV wq vq ((a + b)),
        fun vq wq => QL wq vq nP0 fP0 gP0,
        fun vq wq => QL wq vq nP1 fP1 gP1,
        fun vq wq => RV wq vq ((a - b)),
        fun vq wq => QL wq vq nP0 fP0 gP0,
        fun vq wq => QL wq vq nP1 fP1 gP1,
        fun vq wq => RV wq vq ((a * b)),
        fun vq wq => RV wq vq ((a / b)),
        fun vq _ => vq = .pointer (some ⟨w.heap.size, 0, none⟩),
        fun vq wq => WV wq vq ((sg nP0 (val fP0))),
        fun vq wq => RV wq vq ((((sg nP0 (val fP0)) : Int) : Rat)),
        fun vq wq => SixV AnyR wq vq,
        fun vq _ => vq = .int .i64 0]) (by kernel_rfl) (by kernel_rfl) (by decide) (by kernel_rfl) (by kernel_rfl) ?_ ?_ ?_
    · intro j hj; cases hj
    · refine po rfl (fun lq aq wq hk hr K hK => ?_) ?_
      · have B2 : ev aq (.tmp 2) = .pointer (some ⟨w.heap.size, 0, none⟩) := hk.base 2 (by kernel_rfl) rfl
        have hb := grows_of hk.ext
        exact vc hK (op_load3 2 _ B2 (D0.out.below hb)) (fun w2 h2 => QL.grow ⟨_, _, _, _, rfl, (SN0.out.below hb), (SD0.out.below hb), hlm3, hmm3⟩ h2)
      refine po rfl (fun lq aq wq hk hr K hK => ?_) ?_
      · obtain ⟨v0, E0, r0⟩ := hk.dp hr 0 57 (by kernel_rfl)
        have r0 : QL wq v0 nP0 fP0 gP0 := r0 wq (Grows.refl wq)
        exact cc hK (by go_simp) (rneg_v wq ((r0).qv.to hq0)) (fun u w1 hu w2 h2 => (hu).grow h2)
      refine po rfl (fun lq aq wq hk hr K hK => ?_) ?_
      · have B2 : ev aq (.tmp 2) = .pointer (some ⟨w.heap.size, 0, none⟩) := hk.base 2 (by kernel_rfl) rfl
        have hb := grows_of hk.ext
        exact vc hK (op_load3 2 _ B2 (D0.out.below hb)) (fun w2 h2 => QL.grow ⟨_, _, _, _, rfl, (SN0.out.below hb), (SD0.out.below hb), hlm3, hmm3⟩ h2)
      refine po rfl (fun lq aq wq hk hr K hK => ?_) ?_
      · have B3 : ev aq (.tmp 3) = .pointer (some ⟨w.heap.size + 1, 0, none⟩) := hk.base 3 (by kernel_rfl) rfl
        have hb := grows_of hk.ext
        exact vc hK (op_load3 3 _ B3 (D1.out.below hb)) (fun w2 h2 => QL.grow ⟨_, _, _, _, rfl, (SN1.out.below hb), (SD1.out.below hb), hlm4, hmm4⟩ h2)
      refine po rfl (fun lq aq wq hk hr K hK => ?_) ?_
      · obtain ⟨v2, E2, r2⟩ := hk.dp hr 2 59 (by kernel_rfl)
        have r2 : QL wq v2 nP0 fP0 gP0 := r2 wq (Grows.refl wq)
        obtain ⟨v3, E3, r3⟩ := hk.dp hr 3 60 (by kernel_rfl)
        have r3 : QL wq v3 nP1 fP1 gP1 := r3 wq (Grows.refl wq)
        exact cc hK (by go_simp) (qadd_v wq ((r2).qv.to hq0) ((r3).qv.to hq1) (hs0.mono (by decide)) (hs1.mono (by decide))) (fun u w1 hu w2 h2 => (hu).grow h2)
      refine po rfl (fun lq aq wq hk hr K hK => ?_) ?_
      · have B2 : ev aq (.tmp 2) = .pointer (some ⟨w.heap.size, 0, none⟩) := hk.base 2 (by kernel_rfl) rfl
        have hb := grows_of hk.ext
        exact vc hK (op_load3 2 _ B2 (D0.out.below hb)) (fun w2 h2 => QL.grow ⟨_, _, _, _, rfl, (SN0.out.below hb), (SD0.out.below hb), hlm3, hmm3⟩ h2)
      refine po rfl (fun lq aq wq hk hr K hK => ?_) ?_
      · have B3 : ev aq (.tmp 3) = .pointer (some ⟨w.heap.size + 1, 0, none⟩) := hk.base 3 (by kernel_rfl) rfl
        have hb := grows_of hk.ext
        exact vc hK (op_load3 3 _ B3 (D1.out.below hb)) (fun w2 h2 => QL.grow ⟨_, _, _, _, rfl, (SN1.out.below hb), (SD1.out.below hb), hlm4, hmm4⟩ h2)
      refine po rfl (fun lq aq wq hk hr K hK => ?_) ?_
      · obtain ⟨v5, E5, r5⟩ := hk.dp hr 5 62 (by kernel_rfl)
        have r5 : QL wq v5 nP0 fP0 gP0 := r5 wq (Grows.refl wq)
        obtain ⟨v6, E6, r6⟩ := hk.dp hr 6 63 (by kernel_rfl)
        have r6 : QL wq v6 nP1 fP1 gP1 := r6 wq (Grows.refl wq)
        exact cc hK (by go_simp) (qsub_v wq ((r5).qv.to hq0) ((r6).qv.to hq1) (hs0.mono (by decide)) (hs1.mono (by decide))) (fun u w1 hu w2 h2 => (hu).grow h2)
      refine po rfl (fun lq aq wq hk hr K hK => ?_) ?_
      · have B2 : ev aq (.tmp 2) = .pointer (some ⟨w.heap.size, 0, none⟩) := hk.base 2 (by kernel_rfl) rfl
        have hb := grows_of hk.ext
        exact vc hK (op_load3 2 _ B2 (D0.out.below hb)) (fun w2 h2 => QL.grow ⟨_, _, _, _, rfl, (SN0.out.below hb), (SD0.out.below hb), hlm3, hmm3⟩ h2)
      refine po rfl (fun lq aq wq hk hr K hK => ?_) ?_
      · have B3 : ev aq (.tmp 3) = .pointer (some ⟨w.heap.size + 1, 0, none⟩) := hk.base 3 (by kernel_rfl) rfl
        have hb := grows_of hk.ext
        exact vc hK (op_load3 3 _ B3 (D1.out.below hb)) (fun w2 h2 => QL.grow ⟨_, _, _, _, rfl, (SN1.out.below hb), (SD1.out.below hb), hlm4, hmm4⟩ h2)
      refine po rfl (fun lq aq wq hk hr K hK => ?_) ?_
      · obtain ⟨v8, E8, r8⟩ := hk.dp hr 8 65 (by kernel_rfl)
        have r8 : QL wq v8 nP0 fP0 gP0 := r8 wq (Grows.refl wq)
        obtain ⟨v9, E9, r9⟩ := hk.dp hr 9 66 (by kernel_rfl)
        have r9 : QL wq v9 nP1 fP1 gP1 := r9 wq (Grows.refl wq)
        exact cc hK (by go_simp) (qmulK_v wq ((r8).qv.to hq0) ((r9).qv.to hq1) (hs0.mono (by decide)) (hs1.mono (by decide))) (fun u w1 hu w2 h2 => (hu).grow h2)
      refine po rfl (fun lq aq wq hk hr K hK => ?_) ?_
      · have B8 : ev aq (.tmp 8) = .pointer (some ⟨bq, 0, none⟩) := hk.base 8 (by kernel_rfl) rfl
        have hb := grows_of hk.ext
        exact vc hK (op_load3 8 _ B8 (Dq.out.below hb)) (fun w2 h2 => RV.grow ⟨_, _, _, _, _, _, _, rfl, (SNq.out.below hb), (SDq.out.below hb), hdq⟩ h2)
      refine po rfl (fun lq aq wq hk hr K hK => ?_) ?_
      · have B2 : ev aq (.tmp 2) = .pointer (some ⟨w.heap.size, 0, none⟩) := hk.base 2 (by kernel_rfl) rfl
        exact vc hK (by go_simp) (fun w2 h2 => rfl)
      refine po rfl (fun lq aq wq hk hr K hK => ?_) ?_
      · have E12 : ev aq (.tmp 69) = .pointer (some ⟨w.heap.size, 0, none⟩) := hk.dc hr 12 (by kernel_rfl) fun _ w h => h w (Grows.refl w)
        have hb := grows_of hk.ext
        exact vc hK (op_loadN 69 _ E12 (D0.out.below hb)) (fun w2 h2 => ⟨_, _, _, _, rfl, ⟨_, _, (SN0.out.below hb).below h2, hlm3, rfl⟩⟩)
      refine po rfl (fun lq aq wq hk hr K hK => ?_) ?_
      · obtain ⟨v13, E13, r13⟩ := hk.dp hr 13 70 (by kernel_rfl)
        have r13 : WV wq v13 ((sg nP0 (val fP0))) := r13 wq (Grows.refl wq)
        exact cc hK (by go_simp) (int_v wq r13) (fun u w1 hu w2 h2 => (hu).grow h2)
      refine po rfl (fun lq aq wq hk hr K hK => ?_) ?_
      · obtain ⟨v1, E1, r1⟩ := hk.dp hr 1 58 (by kernel_rfl)
        have r1 : RV wq v1 ((-a)) := r1 wq (Grows.refl wq)
        obtain ⟨n1, A1, k1, c1, B1, j1, d1, rfl, s1, t1, hd1⟩ := r1
        obtain ⟨v4, E4, r4⟩ := hk.dp hr 4 61 (by kernel_rfl)
        have r4 : RV wq v4 ((a + b)) := r4 wq (Grows.refl wq)
        obtain ⟨n4, A4, k4, c4, B4, j4, d4, rfl, s4, t4, hd4⟩ := r4
        obtain ⟨v7, E7, r7⟩ := hk.dp hr 7 64 (by kernel_rfl)
        have r7 : RV wq v7 ((a - b)) := r7 wq (Grows.refl wq)
        obtain ⟨n7, A7, k7, c7, B7, j7, d7, rfl, s7, t7, hd7⟩ := r7
        obtain ⟨v10, E10, r10⟩ := hk.dp hr 10 67 (by kernel_rfl)
        have r10 : RV wq v10 ((a * b)) := r10 wq (Grows.refl wq)
        obtain ⟨n10, A10, k10, c10, B10, j10, d10, rfl, s10, t10, hd10⟩ := r10
        obtain ⟨v11, E11, r11⟩ := hk.dp hr 11 68 (by kernel_rfl)
        have r11 : RV wq v11 ((a / b)) := r11 wq (Grows.refl wq)
        obtain ⟨n11, A11, k11, c11, B11, j11, d11, rfl, s11, t11, hd11⟩ := r11
        obtain ⟨v14, E14, r14⟩ := hk.dp hr 14 71 (by kernel_rfl)
        have r14 : RV wq v14 ((((sg nP0 (val fP0)) : Int) : Rat)) := r14 wq (Grows.refl wq)
        obtain ⟨n14, A14, k14, c14, B14, j14, d14, rfl, s14, t14, hd14⟩ := r14
        exact vc hK (op_six 58 61 64 67 68 71 E1 E4 E7 E10 E11 E14) (fun w2 h2 => SixV.grow (fun _ _ _ h hb => AnyR.grow h hb) (SixV.of ⟨_, _, _, _, _, _, _, _, rfl, s1, t1, hd1⟩ ⟨_, _, _, _, _, _, _, _, rfl, s4, t4, hd4⟩ ⟨_, _, _, _, _, _, _, _, rfl, s7, t7, hd7⟩ ⟨_, _, _, _, _, _, _, _, rfl, s10, t10, hd10⟩ ⟨_, _, _, _, _, _, _, _, rfl, s11, t11, hd11⟩ ⟨_, _, _, _, _, _, _, _, rfl, s14, t14, hd14⟩) h2)
      refine po rfl (fun lq aq wq hk hr K hK => ?_) ?_
      · exact vc hK (by go_simp) (fun w2 h2 => rfl)
      exact AllOps.nil
    intro V x13 hG hV hap
    have r15 : SixV AnyR x13 (V 15) := hV 15 (by decide)
    have r16 : (V 16) = .int .i64 0 := hV 16 (by decide)
    clear hV hap
    simp only [List.take_succ_cons, List.take_nil, List.drop_succ_cons, List.drop_nil, putAll, Act.put, List.setIfInBounds_toArray, List.set_cons_zero, List.set_cons_succ]
    have hb := grows_of hG
    replace D0 := Lib.hid (D0.out.below hb)
    replace SN0 := Lib.hid (SN0.out.below hb)
    replace SD0 := Lib.hid (SD0.out.below hb)
    replace D1 := Lib.hid (D1.out.below hb)
    replace SN1 := Lib.hid (SN1.out.below hb)
    replace SD1 := Lib.hid (SD1.out.below hb)
    replace Dx := Lib.hid (Dx.out.below hb)
    replace SNx := Lib.hid (SNx.out.below hb)
    replace SDx := Lib.hid (SDx.out.below hb)
    replace Dq := Lib.hid (Dq.out.below hb)
    replace SNq := Lib.hid (SNq.out.below hb)
    replace SDq := Lib.hid (SDq.out.below hb)
    replace HB := Lib.hid (HB.out.trans (Below.mono hb HB.out.size))
    clear hb hG
    obtain ⟨L, e15, h15⟩ := r15
    rw [e15, r16]
    clear e15 r16
    have H15 := Lib.hid h15
    clear h15
    replace HL := Lib.hid (HL.out.below HB.out)
    have HW := HB
    replace HB := Lib.hid (Below.refl x13.heap.size x13)
    go_wp2_with fail
    go_loopw [73] (fun iv wr => ∃ k : Nat, k ≤ 6 ∧ iv = .int .i64 k ∧ Hid (Below x13.heap.size x13 wr)) (fun iv _ => 6 - (intOf iv).toNat)
    case atStart => exact ⟨0, Nat.zero_le _, rfl, HB⟩
    case round =>
      clear HB
      obtain ⟨k, hk, rfl, HB⟩ := hrel
      replace D0 := Lib.hid (D0.out.below HB.out)
      replace SN0 := Lib.hid (SN0.out.below HB.out)
      replace SD0 := Lib.hid (SD0.out.below HB.out)
      replace D1 := Lib.hid (D1.out.below HB.out)
      replace SN1 := Lib.hid (SN1.out.below HB.out)
      replace SD1 := Lib.hid (SD1.out.below HB.out)
      replace Dx := Lib.hid (Dx.out.below HB.out)
      replace SNx := Lib.hid (SNx.out.below HB.out)
      replace SDx := Lib.hid (SDx.out.below HB.out)
      replace Dq := Lib.hid (Dq.out.below HB.out)
      replace SNq := Lib.hid (SNq.out.below HB.out)
      replace SDq := Lib.hid (SDq.out.below HB.out)
      rcases Nat.lt_or_ge k 6 with hlt | hge
      · skip
        obtain ⟨q, hq⟩ := H15.out k hlt
        replace hq := Lib.hid (hq.grow HB.out)
        go_upto_region 11 with fail
        have lw0 := D0.out.lt
        have lw1 := D1.out.lt
        have lwx := Dx.out.lt
        have lwq := Dq.out.lt
        refine wp_region_calm 2 [1] ([fun vq wq => RV wq vq q,
            fun vq wq => ∃ bq, vq = .pointer (some ⟨bq, 0, none⟩) ∧ BoxN wq bq 26 #[.bool false, .slice none 0 0, .slice none 0 0] ∧ (wr).heap.size ≤ bq]) (by kernel_rfl) (by decide) ?_ ?_ ?_
        · intro j hj v w h
          simp only [List.mem_cons, List.not_mem_nil, or_false] at hj
          subst hj
          all_goals (obtain ⟨b, rfl, hB, _⟩ := h; exact hB.lt)
        · refine po rfl (fun lq aq wq hk hr K hK => ?_) ?_
          · have B72 : ev aq (.tmp 72) = .agg #[.bool (L 0).1, .slice (L 0).2.1 (L 0).2.2.1 (L 0).2.2.2.1, .slice (L 0).2.2.2.2.1 (L 0).2.2.2.2.2.1 (L 0).2.2.2.2.2.2, .bool (L 1).1, .slice (L 1).2.1 (L 1).2.2.1 (L 1).2.2.2.1, .slice (L 1).2.2.2.2.1 (L 1).2.2.2.2.2.1 (L 1).2.2.2.2.2.2, .bool (L 2).1, .slice (L 2).2.1 (L 2).2.2.1 (L 2).2.2.2.1, .slice (L 2).2.2.2.2.1 (L 2).2.2.2.2.2.1 (L 2).2.2.2.2.2.2, .bool (L 3).1, .slice (L 3).2.1 (L 3).2.2.1 (L 3).2.2.2.1, .slice (L 3).2.2.2.2.1 (L 3).2.2.2.2.2.1 (L 3).2.2.2.2.2.2, .bool (L 4).1, .slice (L 4).2.1 (L 4).2.2.1 (L 4).2.2.2.1, .slice (L 4).2.2.2.2.1 (L 4).2.2.2.2.2.1 (L 4).2.2.2.2.2.2, .bool (L 5).1, .slice (L 5).2.1 (L 5).2.2.1 (L 5).2.2.2.1, .slice (L 5).2.2.2.2.1 (L 5).2.2.2.2.2.1 (L 5).2.2.2.2.2.2] := hk.base 72 (by kernel_rfl) rfl
            have B73 : ev aq (.tmp 73) = .int .i64 k := hk.base 73 (by kernel_rfl) rfl
            exact vc hK (op_index6 72 73 k hlt B72 B73) (fun w2 h2 => (hq.out.grow hk.ext).grow h2)
          refine po rfl (fun lq aq wq hk hr K hK => ?_) ?_
          · exact wp_of_value (by go_simp) (hK.out _ _ ((Grows.refl _).alloc _) (fun w2 h2 => ⟨_, rfl, (BoxN.new wq 26 _).below h2, hk.ext.size⟩) (fun _ => Nat.le_refl _))
          exact AllOps.nil
        intro V x14 hG hV hap
        have r0 : RV x14 (V 0) q := hV 0 (by decide)
        have r1 : ∃ bq, (V 1) = .pointer (some ⟨bq, 0, none⟩) ∧ BoxN x14 bq 26 #[.bool false, .slice none 0 0, .slice none 0 0] ∧ (wr).heap.size ≤ bq := hV 1 (by decide)
        clear hV
        simp only [List.take_succ_cons, List.take_zero, List.drop_succ_cons, List.drop_zero, putAll, Act.put, List.setIfInBounds_toArray, List.set_cons_zero, List.set_cons_succ]
        have hb := (show Below _ _ _ from hG)
        obtain ⟨be, ee, De, ge⟩ := r1
        obtain ⟨ne, Ae, ke, ce, Be, je, de, ee9, se, te, hde⟩ := r0
        simp only [ee, ee9]
        clear ee ee9 hap hG
        replace De : Box3 _ be 26 (.bool false) (.slice none 0 0) (.slice none 0 0) := De
        refine wpList_of_skip rfl (op_store3 11 75 _ rfl rfl De) ?_
        have hB := put3_below (x' := .bool ne) (y' := .slice Ae ke ce) (z' := .slice Be je de) hb ge
        replace se := se.put3 De (.bool ne) (.slice Ae ke ce) (.slice Be je de)
        replace te := te.put3 De (.bool ne) (.slice Ae ke ce) (.slice Be je de)
        replace De := put3_own (x' := .bool ne) (y' := .slice Ae ke ce) (z' := .slice Be je de) De
        clear hb
        generalize put3 x14 be (.bool ne) (.slice Ae ke ce) (.slice Be je de) = y15 at *
        replace D0 := Lib.hid (D0.out.below hB)
        replace SN0 := Lib.hid (SN0.out.below hB)
        replace SD0 := Lib.hid (SD0.out.below hB)
        replace D1 := Lib.hid (D1.out.below hB)
        replace SN1 := Lib.hid (SN1.out.below hB)
        replace SD1 := Lib.hid (SD1.out.below hB)
        replace Dx := Lib.hid (Dx.out.below hB)
        replace SNx := Lib.hid (SNx.out.below hB)
        replace SDx := Lib.hid (SDx.out.below hB)
        replace Dq := Lib.hid (Dq.out.below hB)
        replace SNq := Lib.hid (SNq.out.below hB)
        replace SDq := Lib.hid (SDq.out.below hB)
        replace hq := Lib.hid (hq.out.below hB)
        replace HB := Lib.hid (HB.out.trans (Below.mono hB HB.out.size))
        replace lw0 := Nat.lt_of_lt_of_le lw0 ge
        replace lw1 := Nat.lt_of_lt_of_le lw1 ge
        replace lwx := Nat.lt_of_lt_of_le lwx ge
        replace lwq := Nat.lt_of_lt_of_le lwq ge
        replace De := Lib.hid De
        have SNe := Lib.hid se
        have SDe := Lib.hid te
        clear hB ge se te
        go_upto_region 12 with fail
        refine wp_region_calm 3 [] ([fun vq wq => RV wq vq q,
            fun vq _ => vq = .bool true,
            fun vq _ => vq = .bool false]) (by kernel_rfl) (by decide) ?_ ?_ ?_
        · intro j hj; cases hj
        · refine po rfl (fun lq aq wq hk hr K hK => ?_) ?_
          · have B11 : ev aq (.tmp 11) = .pointer (some ⟨be, 0, none⟩) := hk.base 11 (by kernel_rfl) rfl
            have hb : Below _ _ _ := hk.ext
            exact vc hK (op_load3 11 _ B11 (De.out.below hb)) (fun w2 h2 => RV.grow ⟨_, _, _, _, _, _, _, rfl, (SNe.out.below hb), (SDe.out.below hb), hde⟩ h2)
          refine po rfl (fun lq aq wq hk hr K hK => ?_) ?_
          · obtain ⟨v0, E0, r0⟩ := hk.dp hr 0 76 (by kernel_rfl)
            have r0 : RV wq v0 q := r0 wq (Grows.refl wq)
            exact cc hK (by go_simp) (qright_v wq (r0).ql (lright_own _)) (fun u w1 hu w2 h2 => hu)
          refine po rfl (fun lq aq wq hk hr K hK => ?_) ?_
          · have E1 : ev aq (.tmp 77) = .bool true := hk.dc hr 1 (by kernel_rfl) fun _ w h => h w (Grows.refl w)
            exact vc hK (by go_simp) (fun w2 h2 => rfl)
          exact AllOps.nil
        intro V x16 hG hV hap
        have r2 : (V 2) = .bool false := hV 2 (by decide)
        clear hV hap
        simp only [List.take_succ_cons, List.take_nil, List.drop_succ_cons, List.drop_nil, putAll, Act.put, List.setIfInBounds_toArray, List.set_cons_zero, List.set_cons_succ]
        have hb := (show Below _ _ _ from hG)
        replace D0 := Lib.hid (D0.out.below hb)
        replace SN0 := Lib.hid (SN0.out.below hb)
        replace SD0 := Lib.hid (SD0.out.below hb)
        replace D1 := Lib.hid (D1.out.below hb)
        replace SN1 := Lib.hid (SN1.out.below hb)
        replace SD1 := Lib.hid (SD1.out.below hb)
        replace Dx := Lib.hid (Dx.out.below hb)
        replace SNx := Lib.hid (SNx.out.below hb)
        replace SDx := Lib.hid (SDx.out.below hb)
        replace Dq := Lib.hid (Dq.out.below hb)
        replace SNq := Lib.hid (SNq.out.below hb)
        replace SDq := Lib.hid (SDq.out.below hb)
        replace De := Lib.hid (De.out.below hb)
        replace SNe := Lib.hid (SNe.out.below hb)
        replace SDe := Lib.hid (SDe.out.below hb)
        replace hq := Lib.hid (hq.out.below hb)
        replace HB := Lib.hid (HB.out.trans (Below.mono hb HB.out.size))
        clear hb hG
        rw [r2]
        clear r2
        go_wp2_with fail
        go_roundw
        case rel =>
          first
            | exact ⟨k + 1, by omega, (by first | rfl | simp), HB⟩
            | ((repeat apply Exists.intro); refine ⟨?_, rfl⟩; exact ⟨k + 1, by omega, (by first | rfl | simp), HB⟩)
        case measure => simp [intOf]; omega
      · skip
        obtain rfl : k = 6 := by omega
        obtain ⟨t9, ht9⟩ : ∃ t, lright nP0 fP0 gP0 = t := ⟨_, rfl⟩
        have ht8 : lsame nP0 fP0 gP0 (decide (a.num < 0)) (limbs a.num.natAbs) (limbs a.den) = t9 := by rw [← hq0]; exact ht9
        replace ht9 := Lib.hid ht9
        replace ht8 := Lib.hid ht8
        go_upto_region 15 with fail
        refine wp_region_going 6 [] ([fun vq wq => QL wq vq nP0 fP0 gP0,
            fun vq _ => vq = .bool t9,
            fun vq wq => QL wq vq nP0 fP0 gP0,
            fun vq wq => RV wq vq a,
            fun vq _ => vq = .bool t9,
            fun vq _ => vq = .bool true]) (by kernel_rfl) (by kernel_rfl) (by decide) (by kernel_rfl) (by kernel_rfl) ?_ ?_ ?_
        · intro j hj; cases hj
        · refine po rfl (fun lq aq wq hk hr K hK => ?_) ?_
          · have B2 : ev aq (.tmp 2) = .pointer (some ⟨w.heap.size, 0, none⟩) := hk.base 2 (by kernel_rfl) rfl
            have hb := grows_of hk.ext
            exact vc hK (op_load3 2 _ B2 (D0.out.below hb)) (fun w2 h2 => QL.grow ⟨_, _, _, _, rfl, (SN0.out.below hb), (SD0.out.below hb), hlm3, hmm3⟩ h2)
          refine po rfl (fun lq aq wq hk hr K hK => ?_) ?_
          · obtain ⟨v0, E0, r0⟩ := hk.dp hr 0 80 (by kernel_rfl)
            have r0 : QL wq v0 nP0 fP0 gP0 := r0 wq (Grows.refl wq)
            exact cc hK (by go_simp) (qright_v wq r0 (t := t9) ht9.out) (fun u w1 hu w2 h2 => hu)
          refine po rfl (fun lq aq wq hk hr K hK => ?_) ?_
          · have B2 : ev aq (.tmp 2) = .pointer (some ⟨w.heap.size, 0, none⟩) := hk.base 2 (by kernel_rfl) rfl
            have hb := grows_of hk.ext
            exact vc hK (op_load3 2 _ B2 (D0.out.below hb)) (fun w2 h2 => QL.grow ⟨_, _, _, _, rfl, (SN0.out.below hb), (SD0.out.below hb), hlm3, hmm3⟩ h2)
          refine po rfl (fun lq aq wq hk hr K hK => ?_) ?_
          · have B6 : ev aq (.tmp 6) = .pointer (some ⟨bx, 0, none⟩) := hk.base 6 (by kernel_rfl) rfl
            have hb := grows_of hk.ext
            exact vc hK (op_load3 6 _ B6 (Dx.out.below hb)) (fun w2 h2 => RV.grow ⟨_, _, _, _, _, _, _, rfl, (SNx.out.below hb), (SDx.out.below hb), hdx⟩ h2)
          refine po rfl (fun lq aq wq hk hr K hK => ?_) ?_
          · obtain ⟨v2, E2, r2⟩ := hk.dp hr 2 82 (by kernel_rfl)
            have r2 : QL wq v2 nP0 fP0 gP0 := r2 wq (Grows.refl wq)
            obtain ⟨v3, E3, r3⟩ := hk.dp hr 3 83 (by kernel_rfl)
            have r3 : RV wq v3 a := r3 wq (Grows.refl wq)
            exact cc hK (by go_simp) (lsameL_v wq r2 (r3).ql (t := t9) ht8.out) (fun u w1 hu w2 h2 => hu)
          refine po rfl (fun lq aq wq hk hr K hK => ?_) ?_
          · have E1 : ev aq (.tmp 81) = .bool t9 := hk.dc hr 1 (by kernel_rfl) fun _ w h => h w (Grows.refl w)
            have E4 : ev aq (.tmp 84) = .bool t9 := hk.dc hr 4 (by kernel_rfl) fun _ w h => h w (Grows.refl w)
            exact vc hK (by go_simp) (fun w2 h2 => rfl)
          exact AllOps.nil
        intro V x14 hG hV hap
        have r5 : (V 5) = .bool true := hV 5 (by decide)
        clear hV hap
        simp only [List.take_succ_cons, List.take_zero, List.drop_succ_cons, List.drop_zero, putAll, Act.put, List.setIfInBounds_toArray, List.set_cons_zero, List.set_cons_succ]
        have hb := grows_of hG
        replace D0 := Lib.hid (D0.out.below hb)
        replace SN0 := Lib.hid (SN0.out.below hb)
        replace SD0 := Lib.hid (SD0.out.below hb)
        replace D1 := Lib.hid (D1.out.below hb)
        replace SN1 := Lib.hid (SN1.out.below hb)
        replace SD1 := Lib.hid (SD1.out.below hb)
        replace Dx := Lib.hid (Dx.out.below hb)
        replace SNx := Lib.hid (SNx.out.below hb)
        replace SDx := Lib.hid (SDx.out.below hb)
        replace Dq := Lib.hid (Dq.out.below hb)
        replace SNq := Lib.hid (SNq.out.below hb)
        replace SDq := Lib.hid (SDq.out.below hb)
        replace HB := Lib.hid (HB.out.trans (Below.mono hb HB.out.size))
        clear hb hG
        rw [r5]
        clear r5
        go_wp2_with fail
        go_ret
        exact ⟨rfl, HW.out.trans (Below.mono HB.out HW.out.size)⟩
end Go.Proofs.YtbippecchpaleaaGreatDoor
