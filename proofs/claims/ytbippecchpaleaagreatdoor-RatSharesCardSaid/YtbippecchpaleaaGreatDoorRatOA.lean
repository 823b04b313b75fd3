import Derived.Test.YtbippecchpaleaaGreatDoorRatO3
import Derived.Test.YtbippecchpaleaaGreatDoorRatO4
import Derived.Test.YtbippecchpaleaaGreatDoorShareZ
import Derived.Test.YtbippecchpaleaaGreatDoorGRatF
import Derived.BigRegion
import Derived.RegionTactic
/- Words for litmuslaw03.RatShares: fractions whose rows are the answer's own, whatever they are; copied. -/
namespace Go.Num
open Go Go.RowKit Go.Kp
/-- Six fractions in one value. -/
def SixV (P : World → Value → Prop) (w : World) (v : Value) : Prop := ∃ L : Nat → Bool × Option Addr × Nat × Nat × Option Addr × Nat × Nat, v = .agg #[.bool (L 0).1, .slice (L 0).2.1 (L 0).2.2.1 (L 0).2.2.2.1, .slice (L 0).2.2.2.2.1 (L 0).2.2.2.2.2.1 (L 0).2.2.2.2.2.2, .bool (L 1).1, .slice (L 1).2.1 (L 1).2.2.1 (L 1).2.2.2.1, .slice (L 1).2.2.2.2.1 (L 1).2.2.2.2.2.1 (L 1).2.2.2.2.2.2, .bool (L 2).1, .slice (L 2).2.1 (L 2).2.2.1 (L 2).2.2.2.1, .slice (L 2).2.2.2.2.1 (L 2).2.2.2.2.2.1 (L 2).2.2.2.2.2.2, .bool (L 3).1, .slice (L 3).2.1 (L 3).2.2.1 (L 3).2.2.2.1, .slice (L 3).2.2.2.2.1 (L 3).2.2.2.2.2.1 (L 3).2.2.2.2.2.2, .bool (L 4).1, .slice (L 4).2.1 (L 4).2.2.1 (L 4).2.2.2.1, .slice (L 4).2.2.2.2.1 (L 4).2.2.2.2.2.1 (L 4).2.2.2.2.2.2, .bool (L 5).1, .slice (L 5).2.1 (L 5).2.2.1 (L 5).2.2.2.1, .slice (L 5).2.2.2.2.1 (L 5).2.2.2.2.2.1 (L 5).2.2.2.2.2.2] ∧ ∀ i, i < 6 → P w (.agg #[.bool (L i).1, .slice (L i).2.1 (L i).2.2.1 (L i).2.2.2.1, .slice (L i).2.2.2.2.1 (L i).2.2.2.2.2.1 (L i).2.2.2.2.2.2])
theorem SixV.grow {P : World → Value → Prop} {w w' : World} {v : Value} (hP : ∀ w w' v, P w v → Grows w w' → P w' v) (h : SixV P w v) (hb : Grows w w') : SixV P w' v := by
  obtain ⟨L, e, h⟩ := h
  exact ⟨L, e, fun i hi => hP _ _ _ (h i hi) hb⟩
theorem SixV.of {P : World → Value → Prop} {w : World} {n0 : Bool} {A0 B0 : Option Addr} {k0 c0 j0 d0 : Nat} {n1 : Bool} {A1 B1 : Option Addr} {k1 c1 j1 d1 : Nat} {n2 : Bool} {A2 B2 : Option Addr} {k2 c2 j2 d2 : Nat} {n3 : Bool} {A3 B3 : Option Addr} {k3 c3 j3 d3 : Nat} {n4 : Bool} {A4 B4 : Option Addr} {k4 c4 j4 d4 : Nat} {n5 : Bool} {A5 B5 : Option Addr} {k5 c5 j5 d5 : Nat} (h0 : P w (.agg #[.bool n0, .slice A0 k0 c0, .slice B0 j0 d0])) (h1 : P w (.agg #[.bool n1, .slice A1 k1 c1, .slice B1 j1 d1])) (h2 : P w (.agg #[.bool n2, .slice A2 k2 c2, .slice B2 j2 d2])) (h3 : P w (.agg #[.bool n3, .slice A3 k3 c3, .slice B3 j3 d3])) (h4 : P w (.agg #[.bool n4, .slice A4 k4 c4, .slice B4 j4 d4])) (h5 : P w (.agg #[.bool n5, .slice A5 k5 c5, .slice B5 j5 d5])) : SixV P w (.agg #[.bool n0, .slice A0 k0 c0, .slice B0 j0 d0, .bool n1, .slice A1 k1 c1, .slice B1 j1 d1, .bool n2, .slice A2 k2 c2, .slice B2 j2 d2, .bool n3, .slice A3 k3 c3, .slice B3 j3 d3, .bool n4, .slice A4 k4 c4, .slice B4 j4 d4, .bool n5, .slice A5 k5 c5, .slice B5 j5 d5]) := by
  refine ⟨fun i => match i with | 0 => (n0, A0, k0, c0, B0, j0, d0) | 1 => (n1, A1, k1, c1, B1, j1, d1) | 2 => (n2, A2, k2, c2, B2, j2, d2) | 3 => (n3, A3, k3, c3, B3, j3, d3) | 4 => (n4, A4, k4, c4, B4, j4, d4) | _ => (n5, A5, k5, c5, B5, j5, d5), rfl, fun i hi => ?_⟩
  match i, hi with
  | 0, _ => exact h0
  | 1, _ => exact h1
  | 2, _ => exact h2
  | 3, _ => exact h3
  | 4, _ => exact h4
  | 5, _ => exact h5
end Go.Num
namespace Go.Proofs.YtbippecchpaleaaGreatDoor
open Go.RowKit Go.Num Go.Kp
attribute [local go_sem] Oper.semAt_some u64_mask ev_const ev_func ev_global
section
variable {a : Act} {w : World} {d : Option Tmp} {ty : TypeId} {pos : String} {af : Array Edge} {gu : Option (Nat × Bool)}
set_option maxRecDepth 100000 in
theorem op_six (t0 t1 t2 t3 t4 t5 : Nat) {n0 : Bool} {A0 B0 : Option Addr} {k0 c0 j0 d0 : Nat} {n1 : Bool} {A1 B1 : Option Addr} {k1 c1 j1 d1 : Nat} {n2 : Bool} {A2 B2 : Option Addr} {k2 c2 j2 d2 : Nat} {n3 : Bool} {A3 B3 : Option Addr} {k3 c3 j3 d3 : Nat} {n4 : Bool} {A4 B4 : Option Addr} {k4 c4 j4 d4 : Nat} {n5 : Bool} {A5 B5 : Option Addr} {k5 c5 j5 d5 : Nat} (he0 : ev a (.tmp t0) = .agg #[.bool n0, .slice A0 k0 c0, .slice B0 j0 d0]) (he1 : ev a (.tmp t1) = .agg #[.bool n1, .slice A1 k1 c1, .slice B1 j1 d1]) (he2 : ev a (.tmp t2) = .agg #[.bool n2, .slice A2 k2 c2, .slice B2 j2 d2]) (he3 : ev a (.tmp t3) = .agg #[.bool n3, .slice A3 k3 c3, .slice B3 j3 d3]) (he4 : ev a (.tmp t4) = .agg #[.bool n4, .slice A4 k4 c4, .slice B4 j4 d4]) (he5 : ev a (.tmp t5) = .agg #[.bool n5, .slice A5 k5 c5, .slice B5 j5 d5]) :
    (execOp (ev a) ⟨d, .build 55 #[(0, .tmp t0), (1, .tmp t1), (2, .tmp t2), (3, .tmp t3), (4, .tmp t4), (5, .tmp t5)], ty, pos, af, gu⟩).run Tryz.prog w = .ok (.value (.agg #[.bool n0, .slice A0 k0 c0, .slice B0 j0 d0, .bool n1, .slice A1 k1 c1, .slice B1 j1 d1, .bool n2, .slice A2 k2 c2, .slice B2 j2 d2, .bool n3, .slice A3 k3 c3, .slice B3 j3 d3, .bool n4, .slice A4 k4 c4, .slice B4 j4 d4, .bool n5, .slice A5 k5 c5, .slice B5 j5 d5])) w := by
  have h := run_build (P := Tryz.prog) w 55 #[(0, .agg #[.bool n0, .slice A0 k0 c0, .slice B0 j0 d0]), (1, .agg #[.bool n1, .slice A1 k1 c1, .slice B1 j1 d1]), (2, .agg #[.bool n2, .slice A2 k2 c2, .slice B2 j2 d2]), (3, .agg #[.bool n3, .slice A3 k3 c3, .slice B3 j3 d3]), (4, .agg #[.bool n4, .slice A4 k4 c4, .slice B4 j4 d4]), (5, .agg #[.bool n5, .slice A5 k5 c5, .slice B5 j5 d5])] #[.bool n0, .slice A0 k0 c0, .slice B0 j0 d0, .bool n1, .slice A1 k1 c1, .slice B1 j1 d1, .bool n2, .slice A2 k2 c2, .slice B2 j2 d2, .bool n3, .slice A3 k3 c3, .slice B3 j3 d3, .bool n4, .slice A4 k4 c4, .slice B4 j4 d4, .bool n5, .slice A5 k5 c5, .slice B5 j5 d5] (by kernel_rfl)
  simp only [execOp, List.map_toArray, List.map_cons, List.map_nil, he0, he1, he2, he3, he4, he5, go_sem]
  go_simp
set_option maxRecDepth 100000 in
theorem op_index6 (t t' k : Nat) (hk : k < 6) {L : Nat → Bool × Option Addr × Nat × Nat × Option Addr × Nat × Nat} (he : ev a (.tmp t) = .agg #[.bool (L 0).1, .slice (L 0).2.1 (L 0).2.2.1 (L 0).2.2.2.1, .slice (L 0).2.2.2.2.1 (L 0).2.2.2.2.2.1 (L 0).2.2.2.2.2.2, .bool (L 1).1, .slice (L 1).2.1 (L 1).2.2.1 (L 1).2.2.2.1, .slice (L 1).2.2.2.2.1 (L 1).2.2.2.2.2.1 (L 1).2.2.2.2.2.2, .bool (L 2).1, .slice (L 2).2.1 (L 2).2.2.1 (L 2).2.2.2.1, .slice (L 2).2.2.2.2.1 (L 2).2.2.2.2.2.1 (L 2).2.2.2.2.2.2, .bool (L 3).1, .slice (L 3).2.1 (L 3).2.2.1 (L 3).2.2.2.1, .slice (L 3).2.2.2.2.1 (L 3).2.2.2.2.2.1 (L 3).2.2.2.2.2.2, .bool (L 4).1, .slice (L 4).2.1 (L 4).2.2.1 (L 4).2.2.2.1, .slice (L 4).2.2.2.2.1 (L 4).2.2.2.2.2.1 (L 4).2.2.2.2.2.2, .bool (L 5).1, .slice (L 5).2.1 (L 5).2.2.1 (L 5).2.2.2.1, .slice (L 5).2.2.2.2.1 (L 5).2.2.2.2.2.1 (L 5).2.2.2.2.2.2]) (he' : ev a (.tmp t') = .int .i64 k) :
    (execOp (ev a) ⟨d, .index 55 (.tmp t) (.tmp t'), ty, pos, af, gu⟩).run Tryz.prog w = .ok (.value (.agg #[.bool (L k).1, .slice (L k).2.1 (L k).2.2.1 (L k).2.2.2.1, .slice (L k).2.2.2.2.1 (L k).2.2.2.2.2.1 (L k).2.2.2.2.2.2])) w := by
  match k, hk with
  | 0, _ =>
    have h : ∀ w : World, (Instr.index 55 (.agg #[.bool (L 0).1, .slice (L 0).2.1 (L 0).2.2.1 (L 0).2.2.2.1, .slice (L 0).2.2.2.2.1 (L 0).2.2.2.2.2.1 (L 0).2.2.2.2.2.2, .bool (L 1).1, .slice (L 1).2.1 (L 1).2.2.1 (L 1).2.2.2.1, .slice (L 1).2.2.2.2.1 (L 1).2.2.2.2.2.1 (L 1).2.2.2.2.2.2, .bool (L 2).1, .slice (L 2).2.1 (L 2).2.2.1 (L 2).2.2.2.1, .slice (L 2).2.2.2.2.1 (L 2).2.2.2.2.2.1 (L 2).2.2.2.2.2.2, .bool (L 3).1, .slice (L 3).2.1 (L 3).2.2.1 (L 3).2.2.2.1, .slice (L 3).2.2.2.2.1 (L 3).2.2.2.2.2.1 (L 3).2.2.2.2.2.2, .bool (L 4).1, .slice (L 4).2.1 (L 4).2.2.1 (L 4).2.2.2.1, .slice (L 4).2.2.2.2.1 (L 4).2.2.2.2.2.1 (L 4).2.2.2.2.2.2, .bool (L 5).1, .slice (L 5).2.1 (L 5).2.2.1 (L 5).2.2.2.1, .slice (L 5).2.2.2.2.1 (L 5).2.2.2.2.2.1 (L 5).2.2.2.2.2.2]) (.int .i64 0)).run Tryz.prog w = .ok (.agg #[.bool (L 0).1, .slice (L 0).2.1 (L 0).2.2.1 (L 0).2.2.2.1, .slice (L 0).2.2.2.2.1 (L 0).2.2.2.2.2.1 (L 0).2.2.2.2.2.2]) w := fun w => by kernel_rfl
    go_simp
  | 1, _ =>
    have h : ∀ w : World, (Instr.index 55 (.agg #[.bool (L 0).1, .slice (L 0).2.1 (L 0).2.2.1 (L 0).2.2.2.1, .slice (L 0).2.2.2.2.1 (L 0).2.2.2.2.2.1 (L 0).2.2.2.2.2.2, .bool (L 1).1, .slice (L 1).2.1 (L 1).2.2.1 (L 1).2.2.2.1, .slice (L 1).2.2.2.2.1 (L 1).2.2.2.2.2.1 (L 1).2.2.2.2.2.2, .bool (L 2).1, .slice (L 2).2.1 (L 2).2.2.1 (L 2).2.2.2.1, .slice (L 2).2.2.2.2.1 (L 2).2.2.2.2.2.1 (L 2).2.2.2.2.2.2, .bool (L 3).1, .slice (L 3).2.1 (L 3).2.2.1 (L 3).2.2.2.1, .slice (L 3).2.2.2.2.1 (L 3).2.2.2.2.2.1 (L 3).2.2.2.2.2.2, .bool (L 4).1, .slice (L 4).2.1 (L 4).2.2.1 (L 4).2.2.2.1, .slice (L 4).2.2.2.2.1 (L 4).2.2.2.2.2.1 (L 4).2.2.2.2.2.2, .bool (L 5).1, .slice (L 5).2.1 (L 5).2.2.1 (L 5).2.2.2.1, .slice (L 5).2.2.2.2.1 (L 5).2.2.2.2.2.1 (L 5).2.2.2.2.2.2]) (.int .i64 1)).run Tryz.prog w = .ok (.agg #[.bool (L 1).1, .slice (L 1).2.1 (L 1).2.2.1 (L 1).2.2.2.1, .slice (L 1).2.2.2.2.1 (L 1).2.2.2.2.2.1 (L 1).2.2.2.2.2.2]) w := fun w => by kernel_rfl
    go_simp
  | 2, _ =>
    have h : ∀ w : World, (Instr.index 55 (.agg #[.bool (L 0).1, .slice (L 0).2.1 (L 0).2.2.1 (L 0).2.2.2.1, .slice (L 0).2.2.2.2.1 (L 0).2.2.2.2.2.1 (L 0).2.2.2.2.2.2, .bool (L 1).1, .slice (L 1).2.1 (L 1).2.2.1 (L 1).2.2.2.1, .slice (L 1).2.2.2.2.1 (L 1).2.2.2.2.2.1 (L 1).2.2.2.2.2.2, .bool (L 2).1, .slice (L 2).2.1 (L 2).2.2.1 (L 2).2.2.2.1, .slice (L 2).2.2.2.2.1 (L 2).2.2.2.2.2.1 (L 2).2.2.2.2.2.2, .bool (L 3).1, .slice (L 3).2.1 (L 3).2.2.1 (L 3).2.2.2.1, .slice (L 3).2.2.2.2.1 (L 3).2.2.2.2.2.1 (L 3).2.2.2.2.2.2, .bool (L 4).1, .slice (L 4).2.1 (L 4).2.2.1 (L 4).2.2.2.1, .slice (L 4).2.2.2.2.1 (L 4).2.2.2.2.2.1 (L 4).2.2.2.2.2.2, .bool (L 5).1, .slice (L 5).2.1 (L 5).2.2.1 (L 5).2.2.2.1, .slice (L 5).2.2.2.2.1 (L 5).2.2.2.2.2.1 (L 5).2.2.2.2.2.2]) (.int .i64 2)).run Tryz.prog w = .ok (.agg #[.bool (L 2).1, .slice (L 2).2.1 (L 2).2.2.1 (L 2).2.2.2.1, .slice (L 2).2.2.2.2.1 (L 2).2.2.2.2.2.1 (L 2).2.2.2.2.2.2]) w := fun w => by kernel_rfl
    go_simp
  | 3, _ =>
    have h : ∀ w : World, (Instr.index 55 (.agg #[.bool (L 0).1, .slice (L 0).2.1 (L 0).2.2.1 (L 0).2.2.2.1, .slice (L 0).2.2.2.2.1 (L 0).2.2.2.2.2.1 (L 0).2.2.2.2.2.2, .bool (L 1).1, .slice (L 1).2.1 (L 1).2.2.1 (L 1).2.2.2.1, .slice (L 1).2.2.2.2.1 (L 1).2.2.2.2.2.1 (L 1).2.2.2.2.2.2, .bool (L 2).1, .slice (L 2).2.1 (L 2).2.2.1 (L 2).2.2.2.1, .slice (L 2).2.2.2.2.1 (L 2).2.2.2.2.2.1 (L 2).2.2.2.2.2.2, .bool (L 3).1, .slice (L 3).2.1 (L 3).2.2.1 (L 3).2.2.2.1, .slice (L 3).2.2.2.2.1 (L 3).2.2.2.2.2.1 (L 3).2.2.2.2.2.2, .bool (L 4).1, .slice (L 4).2.1 (L 4).2.2.1 (L 4).2.2.2.1, .slice (L 4).2.2.2.2.1 (L 4).2.2.2.2.2.1 (L 4).2.2.2.2.2.2, .bool (L 5).1, .slice (L 5).2.1 (L 5).2.2.1 (L 5).2.2.2.1, .slice (L 5).2.2.2.2.1 (L 5).2.2.2.2.2.1 (L 5).2.2.2.2.2.2]) (.int .i64 3)).run Tryz.prog w = .ok (.agg #[.bool (L 3).1, .slice (L 3).2.1 (L 3).2.2.1 (L 3).2.2.2.1, .slice (L 3).2.2.2.2.1 (L 3).2.2.2.2.2.1 (L 3).2.2.2.2.2.2]) w := fun w => by kernel_rfl
    go_simp
  | 4, _ =>
    have h : ∀ w : World, (Instr.index 55 (.agg #[.bool (L 0).1, .slice (L 0).2.1 (L 0).2.2.1 (L 0).2.2.2.1, .slice (L 0).2.2.2.2.1 (L 0).2.2.2.2.2.1 (L 0).2.2.2.2.2.2, .bool (L 1).1, .slice (L 1).2.1 (L 1).2.2.1 (L 1).2.2.2.1, .slice (L 1).2.2.2.2.1 (L 1).2.2.2.2.2.1 (L 1).2.2.2.2.2.2, .bool (L 2).1, .slice (L 2).2.1 (L 2).2.2.1 (L 2).2.2.2.1, .slice (L 2).2.2.2.2.1 (L 2).2.2.2.2.2.1 (L 2).2.2.2.2.2.2, .bool (L 3).1, .slice (L 3).2.1 (L 3).2.2.1 (L 3).2.2.2.1, .slice (L 3).2.2.2.2.1 (L 3).2.2.2.2.2.1 (L 3).2.2.2.2.2.2, .bool (L 4).1, .slice (L 4).2.1 (L 4).2.2.1 (L 4).2.2.2.1, .slice (L 4).2.2.2.2.1 (L 4).2.2.2.2.2.1 (L 4).2.2.2.2.2.2, .bool (L 5).1, .slice (L 5).2.1 (L 5).2.2.1 (L 5).2.2.2.1, .slice (L 5).2.2.2.2.1 (L 5).2.2.2.2.2.1 (L 5).2.2.2.2.2.2]) (.int .i64 4)).run Tryz.prog w = .ok (.agg #[.bool (L 4).1, .slice (L 4).2.1 (L 4).2.2.1 (L 4).2.2.2.1, .slice (L 4).2.2.2.2.1 (L 4).2.2.2.2.2.1 (L 4).2.2.2.2.2.2]) w := fun w => by kernel_rfl
    go_simp
  | 5, _ =>
    have h : ∀ w : World, (Instr.index 55 (.agg #[.bool (L 0).1, .slice (L 0).2.1 (L 0).2.2.1 (L 0).2.2.2.1, .slice (L 0).2.2.2.2.1 (L 0).2.2.2.2.2.1 (L 0).2.2.2.2.2.2, .bool (L 1).1, .slice (L 1).2.1 (L 1).2.2.1 (L 1).2.2.2.1, .slice (L 1).2.2.2.2.1 (L 1).2.2.2.2.2.1 (L 1).2.2.2.2.2.2, .bool (L 2).1, .slice (L 2).2.1 (L 2).2.2.1 (L 2).2.2.2.1, .slice (L 2).2.2.2.2.1 (L 2).2.2.2.2.2.1 (L 2).2.2.2.2.2.2, .bool (L 3).1, .slice (L 3).2.1 (L 3).2.2.1 (L 3).2.2.2.1, .slice (L 3).2.2.2.2.1 (L 3).2.2.2.2.2.1 (L 3).2.2.2.2.2.2, .bool (L 4).1, .slice (L 4).2.1 (L 4).2.2.1 (L 4).2.2.2.1, .slice (L 4).2.2.2.2.1 (L 4).2.2.2.2.2.1 (L 4).2.2.2.2.2.2, .bool (L 5).1, .slice (L 5).2.1 (L 5).2.2.1 (L 5).2.2.2.1, .slice (L 5).2.2.2.2.1 (L 5).2.2.2.2.2.1 (L 5).2.2.2.2.2.2]) (.int .i64 5)).run Tryz.prog w = .ok (.agg #[.bool (L 5).1, .slice (L 5).2.1 (L 5).2.2.1 (L 5).2.2.2.1, .slice (L 5).2.2.2.2.1 (L 5).2.2.2.2.2.1 (L 5).2.2.2.2.2.2]) w := fun w => by kernel_rfl
    go_simp
end

section
variable {a : Act} {w : World} {d : Option Tmp} {ty : TypeId} {pos : String} {af : Array Edge} {gu : Option (Nat × Bool)}
theorem op_ratM (t : Nat) {n : Bool} {A : Option Addr} {k c : Nat} (he : ev a (.tmp t) = .agg #[.bool n, .slice A k c]) :
    (execOp (ev a) ⟨d, .build 26 #[(0, .tmp t)], ty, pos, af, gu⟩).run Tryz.prog w = .ok (.value (.agg #[.bool n, .slice A k c, .slice none 0 0])) w := by
  have h := run_build (P := Tryz.prog) w 26 #[(0, .agg #[.bool n, .slice A k c])] #[.bool n, .slice A k c, .slice none 0 0] (by kernel_rfl)
  simp only [execOp, List.map_toArray, List.map_cons, List.map_nil, he, go_sem]
  go_simp
theorem op_storeC (t t' g i : Nat) {A : Option Addr} {k c : Nat} {x : Value} (he : ev a (.tmp t) = .pointer (some ⟨g, i, none⟩)) (he' : ev a (.tmp t') = .slice A k c) (h : w.cell? ⟨g, i, none⟩ = some x) (hf : w.frozen? ⟨g, i, none⟩ = false) :
    (execOp (ev a) ⟨none, .store 22 (.tmp t) (.tmp t'), ty, pos, af, gu⟩).run Tryz.prog w = .ok .skip (w.setCell ⟨g, i, none⟩ (.slice A k c)) := by
  go_simp
end
theorem Num.setC {w : World} {g i : Nat} {T : TypeId} {n : Bool} {A B : Option Addr} {k c j d : Nat} {m : Value} {l : List Nat} {a : Nat} (h : Num w m l a) (hb : Box3 w g T (.bool n) (.slice A k c) (.slice B j d)) (u : Value) : Num (w.setCell ⟨g, i, none⟩ u) m l a := by
  refine ⟨?_, h.lim, h.len, h.val⟩
  obtain ⟨B', d', e, hd, hc⟩ := h.arg.open_
  refine e ▸ Arg.mk_ rfl hd fun h0 => ?_
  obtain ⟨b, o, e, hx⟩ := hc h0
  exact ⟨b, o, e, fun j x hj => by rw [World.cell?_setCell_far _ _ _ _ (Ne.symm (hb.not_limb (hx j x hj) rfl))]; exact hx j x hj⟩
/-- A fraction read by its rows, laid into the result's box. -/
theorem ret3l {w x : World} {g : Nat} {T : TypeId} {m : Bool} {A0 C0 : Option Addr} {k0 c0 j0 d0 : Nat} {v : Value} {n : Bool} {l r : List Nat} (h : QL x v n l r) (hD : Box3 x g T (.bool m) (.slice A0 k0 c0) (.slice C0 j0 d0)) (hB : Below w.heap.size w x) (hg : w.heap.size ≤ g) : ∃ n' A k c B j d y, v = .agg #[.bool n', .slice A k c, .slice B j d] ∧ Go.Num.put3 x g (.bool n') (.slice A k c) (.slice B j d) = y ∧ QL y (.agg #[.bool n', .slice A k c, .slice B j d]) n l r ∧ Below w.heap.size w y ∧ y.cell? ⟨g, 0, none⟩ = some (.bool n') ∧ y.cell? ⟨g, 1, none⟩ = some (.slice A k c) ∧ y.cell? ⟨g, 2, none⟩ = some (.slice B j d) := by
  obtain ⟨A, c, B, d, e, h1, h2, h3, h4⟩ := h
  have hP := put3_own (x' := .bool n) (y' := .slice A l.length c) (z' := .slice B r.length d) hD
  exact ⟨n, A, l.length, c, B, r.length, d, _, e, rfl, ⟨A, c, B, d, rfl, h1.put3 hD _ _ _, h2.put3 hD _ _ _, h3, h4⟩, put3_below hB hg, hP.c0, hP.c1, hP.c2⟩
/-- A fraction whose rows are the answer's own. -/
def OA (B0 : Nat) (w : World) (v : Value) : Prop := ∃ n A k c B j d, v = .agg #[.bool n, .slice A k c, .slice B j d] ∧ RowO B0 w (.slice A k c) ∧ RowO B0 w (.slice B j d) ∧ True
theorem RO.oa {B0 : Nat} {w : World} {v : Value} {q : Rat} (h : RO B0 w v q) : OA B0 w v := by
  obtain ⟨n, A, k, c, B, j, d, e, _, _, _, h4, h5⟩ := h
  exact ⟨n, A, k, c, B, j, d, e, h4, h5, trivial⟩
theorem OA.grow {B0 : Nat} {w w' : World} {v : Value} (h : OA B0 w v) (hb : Grows w w') : OA B0 w' v := by
  obtain ⟨n, A, k, c, B, j, d, e, h4, h5, _⟩ := h
  exact ⟨n, A, k, c, B, j, d, e, h4.grow hb, h5.grow hb, trivial⟩
theorem OA.set {B0 : Nat} {w : World} {v : Value} (h : OA B0 w v) (g j z : Nat) (hz : z < 4294967296) : OA B0 (w.setCell ⟨g, j, none⟩ (.int .u32 (z : Int))).drew v := by
  obtain ⟨n, A, k, c, B, i, d, e, h4, h5, _⟩ := h
  exact ⟨n, A, k, c, B, i, d, e, (h4.set z hz).drew, (h5.set z hz).drew, trivial⟩
theorem Calls.oa {P : Program} {f : FuncId} {vs : Array Value} {w : World} {B : Nat} {q : Rat} (h : Calls P f vs w fun e w' => ∃ r, e = .returned r ∧ RO B w' r q ∧ Grows w w') : Calls P f vs w fun e w' => ∃ r, e = .returned r ∧ OA B w' r ∧ Grows w w' :=
  h.mono fun _ _ ⟨r, e, hr, g⟩ => ⟨r, e, hr.oa, g⟩
theorem qdiv_oa (w : World) {B : Nat} (hB : B ≤ w.heap.size) {u v : Value} {q r : Rat} (h0 : QV w u q) (h1 : QV w v r) (hqs : Qsz q 300) (hrs : Qsz r 300) : Calls Tryz.prog 13 #[u, v] w fun e w' => ∃ y, e = .returned y ∧ (∃ u0 u1, y = .tuple #[u0, u1] ∧ OA B w' u0 ∧ ∃ j : Int, u1 = .int .i64 j) ∧ Grows w w' :=
  (qdiv_o w hB h0 h1 hqs hrs).mono fun _ _ ⟨y, e, ⟨_, _, _, e2, hx⟩, g⟩ => ⟨y, e, ⟨_, _, e2, hx.oa, _, rfl⟩, g⟩
theorem lsame_self (n : Bool) (l m : List Nat) : lsame n l m n l m = true := by simp [lsame]
/-- A block of limbs is no box of three cells. -/
theorem Box3.limbs {w : World} {g b : Nat} {n : Bool} {A B : Option Addr} {k c j d : Nat} {cur : Array Value} (hD : Box3 w b 26 (.bool n) (.slice A k c) (.slice B j d)) (hg : w.heap[g]? = some (.cells cur 43 (0, 0))) : g ≠ b := fun e => by
  subst e
  have h1 := hg.symm.trans (show w.heap[g]? = _ from hD)
  simp only [Option.some.injEq, Obj.cells.injEq] at h1
  exact absurd h1.2.1 (by decide)
end Go.Proofs.YtbippecchpaleaaGreatDoor
namespace Go.Proofs.YtbippecchpaleaaGreatDoor
open Go.RowKit Go.Num Go.Kp
attribute [local go_sem] Oper.semAt_some u64_mask ev_const ev_func ev_global
set_option maxHeartbeats 4000000 in
set_option maxRecDepth 100000 in
theorem copied_v (w : World) {u : Value} {n : Bool} {l m : List Nat} (h0 : QL w u n l m) : Calls Tryz.prog 47 #[u] w fun e w' => ∃ r, e = .returned r ∧ QL w' r n l m ∧ Grows w w' := by
  obtain ⟨A0, c0, B0, d0, rfl, s0, t0, hl0, hm0⟩ := h0
  have hk0 : szz (sg n (val l)) ≤ 1000 := by unfold szz; rw [sg_natAbs]; exact Nat.le_trans (sz_num s0) hl0
  go_enter Tryz.func47, Tryz.ntmps47
  go_upto_region 1 with fail
  obtain ⟨x0, ex0, HB, D0, DR⟩ := st_33 w 26 (.bool n) (.slice A0 l.length c0) (.slice B0 m.length d0) 26 (.bool false) (.slice none 0 0) (.slice none 0 0)
  rw [ex0]
  clear ex0
  replace HB := Lib.hid HB
  replace D0 := Lib.hid D0
  replace DR := Lib.hid DR
  have SN0 := Lib.hid (s0.below HB.out)
  clear s0
  have SD0 := Lib.hid (t0.below HB.out)
  clear t0
  refine wp_region_calm 7 [] ([fun vq wq => ∃ bq, vq = .slice (some bq) 0 0,
      fun vq _ => vq = .pointer (some ⟨w.heap.size, 0, none⟩),
      fun vq _ => vq = .pointer (some ⟨w.heap.size, 1, none⟩),
      fun vq _ => vq = .slice A0 l.length c0,
      fun vq wq => LV wq vq l ((val l)),
      fun vq _ => vq = .pointer (some ⟨w.heap.size, 0, none⟩),
      fun vq _ => vq = .pointer (some ⟨w.heap.size, 1, none⟩)]) (by kernel_rfl) (by decide) ?_ ?_ ?_
  · intro j hj; cases hj
  · refine po rfl (fun lq aq wq hk hr K hK => ?_) ?_
    · exact wp_of_value (v := .slice (some ⟨wq.heap.size, 0, none⟩) 0 0) (w' := wq.alloc (.cells #[] 43)) (by go_simp) (hK.out _ _ ((Grows.refl _).alloc _) (fun w2 h2 => ⟨_, rfl⟩) (fun h => absurd h (by decide)))
    refine po rfl (fun lq aq wq hk hr K hK => ?_) ?_
    · have B1 : ev aq (.tmp 1) = .pointer (some ⟨w.heap.size, 0, none⟩) := hk.base 1 (by kernel_rfl) rfl
      exact vc hK (by go_simp) (fun w2 h2 => rfl)
    refine po rfl (fun lq aq wq hk hr K hK => ?_) ?_
    · have E1 : ev aq (.tmp 4) = .pointer (some ⟨w.heap.size, 0, none⟩) := hk.dc hr 1 (by kernel_rfl) fun _ _ h => h
      exact vc hK (by go_simp) (fun w2 h2 => rfl)
    refine po rfl (fun lq aq wq hk hr K hK => ?_) ?_
    · have E2 : ev aq (.tmp 5) = .pointer (some ⟨w.heap.size, 1, none⟩) := hk.dc hr 2 (by kernel_rfl) fun _ _ h => h
      have hb : Below _ _ _ := hk.ext
      have c1 := (D0.out.below hb).c1
      exact vc hK (by go_simp) (fun w2 h2 => rfl)
    refine po rfl (fun lq aq wq hk hr K hK => ?_) ?_
    · obtain ⟨v0, E0, r0⟩ := hk.dp hr 0 3 (by kernel_rfl)
      have r0 : ∃ bq, v0 = .slice (some bq) 0 0 := r0
      obtain ⟨bq, rfl⟩ := r0
      have E3 : ev aq (.tmp 6) = .slice A0 l.length c0 := hk.dc hr 3 (by kernel_rfl) fun _ _ h => h
      obtain ⟨v9, w9, hrun, h1, h2⟩ := op_copy 3 6 bq E0 E3 (SN0.out.below hk.ext) hl0
      exact wp_of_value hrun (hK.out _ _ h2 (fun w3 h3 => h1.grow h3) (fun h => absurd h (by decide)))
    refine po rfl (fun lq aq wq hk hr K hK => ?_) ?_
    · have B1 : ev aq (.tmp 1) = .pointer (some ⟨w.heap.size, 0, none⟩) := hk.base 1 (by kernel_rfl) rfl
      exact vc hK (by go_simp) (fun w2 h2 => rfl)
    refine po rfl (fun lq aq wq hk hr K hK => ?_) ?_
    · have E5 : ev aq (.tmp 8) = .pointer (some ⟨w.heap.size, 0, none⟩) := hk.dc hr 5 (by kernel_rfl) fun _ _ h => h
      exact vc hK (by go_simp) (fun w2 h2 => rfl)
    exact AllOps.nil
  intro V x1 hG hV hap
  have r1 : (V 1) = .pointer (some ⟨w.heap.size, 0, none⟩) := hV 1 (by decide)
  have r3 : (V 3) = .slice A0 l.length c0 := hV 3 (by decide)
  have r4 : LV x1 (V 4) l ((val l)) := hV 4 (by decide)
  have r6 : (V 6) = .pointer (some ⟨w.heap.size, 1, none⟩) := hV 6 (by decide)
  clear hV hap
  simp only [List.take_succ_cons, List.take_zero, List.drop_succ_cons, List.drop_zero, putAll, Act.put, List.setIfInBounds_toArray, List.set_cons_zero, List.set_cons_succ]
  have hb := (show Below _ _ _ from hG)
  obtain ⟨A19, c19, e9, h9⟩ := r4
  simp only [e9, r6]
  rw [e9] at h9
  clear e9 r6 hG
  have D9 := D0.out.below hb
  refine wpList_of_skip rfl (op_storeC 9 7 _ _ rfl rfl D9.c1 (D9.f 1)) ?_
  replace D0 := Lib.hid (D9.set1 (.slice A19 l.length c19))
  replace DR := Lib.hid ((DR.out.below hb).apart (h := w.heap.size) (by omega) 1 (.slice A19 l.length c19))
  replace HB := Lib.hid ((HB.out.trans (Below.mono hb HB.out.size)).setCell (p := ⟨w.heap.size, 1, none⟩) (Nat.le_refl _) (.slice A19 l.length c19))
  replace SN0 := Lib.hid (Num.setC (i := 1) h9 D9 (.slice A19 l.length c19))
  replace SD0 := Lib.hid (Num.setC (i := 1) (SD0.out.below hb) D9 (.slice A19 l.length c19))
  clear hb h9 D9
  generalize x1.setCell ⟨w.heap.size, 1, none⟩ (.slice A19 l.length c19) = y2 at *
  go_upto_region 2 with fail
  refine wp_region_calm 5 [] ([fun vq wq => ∃ bq, vq = .slice (some bq) 0 0,
      fun vq _ => vq = .pointer (some ⟨w.heap.size, 2, none⟩),
      fun vq _ => vq = .slice B0 m.length d0,
      fun vq wq => LV wq vq m ((val m)),
      fun vq _ => vq = .pointer (some ⟨w.heap.size, 2, none⟩)]) (by kernel_rfl) (by decide) ?_ ?_ ?_
  · intro j hj; cases hj
  · refine po rfl (fun lq aq wq hk hr K hK => ?_) ?_
    · exact wp_of_value (v := .slice (some ⟨wq.heap.size, 0, none⟩) 0 0) (w' := wq.alloc (.cells #[] 43)) (by go_simp) (hK.out _ _ ((Grows.refl _).alloc _) (fun w2 h2 => ⟨_, rfl⟩) (fun h => absurd h (by decide)))
    refine po rfl (fun lq aq wq hk hr K hK => ?_) ?_
    · have B1 : ev aq (.tmp 1) = .pointer (some ⟨w.heap.size, 0, none⟩) := hk.base 1 (by kernel_rfl) rfl
      exact vc hK (by go_simp) (fun w2 h2 => rfl)
    refine po rfl (fun lq aq wq hk hr K hK => ?_) ?_
    · have E1 : ev aq (.tmp 11) = .pointer (some ⟨w.heap.size, 2, none⟩) := hk.dc hr 1 (by kernel_rfl) fun _ _ h => h
      have hb : Below _ _ _ := hk.ext
      have c2 := (D0.out.below hb).c2
      exact vc hK (by go_simp) (fun w2 h2 => rfl)
    refine po rfl (fun lq aq wq hk hr K hK => ?_) ?_
    · obtain ⟨v0, E0, r0⟩ := hk.dp hr 0 10 (by kernel_rfl)
      have r0 : ∃ bq, v0 = .slice (some bq) 0 0 := r0
      obtain ⟨bq, rfl⟩ := r0
      have E2 : ev aq (.tmp 12) = .slice B0 m.length d0 := hk.dc hr 2 (by kernel_rfl) fun _ _ h => h
      obtain ⟨v9, w9, hrun, h1, h2⟩ := op_copy 10 12 bq E0 E2 (SD0.out.below hk.ext) hm0
      exact wp_of_value hrun (hK.out _ _ h2 (fun w3 h3 => h1.grow h3) (fun h => absurd h (by decide)))
    refine po rfl (fun lq aq wq hk hr K hK => ?_) ?_
    · have B1 : ev aq (.tmp 1) = .pointer (some ⟨w.heap.size, 0, none⟩) := hk.base 1 (by kernel_rfl) rfl
      exact vc hK (by go_simp) (fun w2 h2 => rfl)
    exact AllOps.nil
  intro V x3 hG hV hap
  have r3 : LV x3 (V 3) m ((val m)) := hV 3 (by decide)
  have r4 : (V 4) = .pointer (some ⟨w.heap.size, 2, none⟩) := hV 4 (by decide)
  clear hV hap
  simp only [List.take_succ_cons, List.take_zero, List.drop_succ_cons, List.drop_zero, putAll, Act.put, List.setIfInBounds_toArray, List.set_cons_zero, List.set_cons_succ]
  have hb := (show Below _ _ _ from hG)
  obtain ⟨A29, c29, e9, h9⟩ := r3
  simp only [e9, r4]
  rw [e9] at h9
  clear e9 r4 hG
  have D9 := D0.out.below hb
  refine wpList_of_skip rfl (op_storeC 14 13 _ _ rfl rfl D9.c2 (D9.f 2)) ?_
  replace D0 := Lib.hid (D9.set2 (.slice A29 m.length c29))
  replace DR := Lib.hid ((DR.out.below hb).apart (h := w.heap.size) (by omega) 2 (.slice A29 m.length c29))
  replace HB := Lib.hid ((HB.out.trans (Below.mono hb HB.out.size)).setCell (p := ⟨w.heap.size, 2, none⟩) (Nat.le_refl _) (.slice A29 m.length c29))
  replace SN0 := Lib.hid (Num.setC (i := 2) (SN0.out.below hb) D9 (.slice A29 m.length c29))
  replace SD0 := Lib.hid (Num.setC (i := 2) h9 D9 (.slice A29 m.length c29))
  clear hb h9 D9
  generalize x3.setCell ⟨w.heap.size, 2, none⟩ (.slice A29 m.length c29) = y4 at *
  go_upto_region 3 with fail
  refine wp_region_calm 1 [] ([fun vq wq => QL wq vq n l m]) (by kernel_rfl) (by decide) ?_ ?_ ?_
  · intro j hj; cases hj
  · refine po rfl (fun lq aq wq hk hr K hK => ?_) ?_
    · have B1 : ev aq (.tmp 1) = .pointer (some ⟨w.heap.size, 0, none⟩) := hk.base 1 (by kernel_rfl) rfl
      have hb : Below _ _ _ := hk.ext
      exact vc hK (op_load3 1 _ B1 (D0.out.below hb)) (fun w2 h2 => QL.grow ⟨_, _, _, _, rfl, (SN0.out.below hb), (SD0.out.below hb), hl0, hm0⟩ h2)
    exact AllOps.nil
  intro V x5 hG hV hap
  have r0 : QL x5 (V 0) n l m := hV 0 (by decide)
  clear hV hap
  simp only [List.take_succ_cons, List.take_zero, List.drop_succ_cons, List.drop_zero, putAll, Act.put, List.setIfInBounds_toArray, List.set_cons_zero, List.set_cons_succ]
  have hb := (show Below _ _ _ from hG)
  obtain ⟨nR, AR, kR, cR, BR, jR, dR, y9, eR, ey, hQ, HQ, c0, c1, c2⟩ := ret3l r0 (DR.out.below hb) (HB.out.trans (Below.mono hb HB.out.size)) (by omega)
  simp only [eR]
  refine wpList_of_skip rfl (op_store3 2 15 _ rfl rfl (DR.out.below hb)) ?_
  rw [ey]
  clear eR ey hb hG HB DR
  go_wp2_with fail
  refine bodyPost_ret (v := .agg #[.bool nR, .slice AR kR cR, .slice BR jR dR]) (by simp [results, Tryz.results47, go_sem, c0, c1, c2]) rfl ⟨_, rfl, hQ, HQ⟩
end Go.Proofs.YtbippecchpaleaaGreatDoor
