import Derived.Test.YtbippecchpaleaaGreatDoorGArgR
/- Two bytes as an argument. -/
namespace Go.Proofs.YtbippecchpaleaaGreatDoor
open Go.RowKit Go.Num Go.ChangeShapes Go.WideShapes Go.ChangeAt Go.Lib
set_option maxRecDepth 100000
theorem pair_of_trod {H : Type} {en : TypeId × Value → H} {W : World} {base : Nat} {v : Value} {d : DataW H} {p : List MemPlace} (hval : Value.okWide Tryz.prog W .any base 51 v)
    (h : DataW.Trod en Tryz.prog W 0 (fun _ => true) true 51 v d p) : ∃ x y : Nat, v = .agg #[.int .u8 x, .int .u8 y] ∧ x < 256 ∧ y < 256 := by
  have hu : Tryz.prog.underlying 51 = some (.array 2 5) := Tryz.underlying51
  simp only [Value.okWide, hu] at hval
  obtain ⟨cs, rfl, hs, _⟩ := hval
  obtain ⟨fuel, hf⟩ := h
  obtain ⟨xs, m, _, _, hl, hxl, hx⟩ := DataW.trod_array hu hf
  have hc : Tryz.prog.cellsOf 5 = 1 := by kernel_rfl
  have hc2 : Tryz.prog.cellsOf 51 = 2 := by kernel_rfl
  obtain ⟨L⟩ := cs
  simp only [Value.cells] at hl hx
  rw [hc2] at hl
  match L, hl with
  | [a, b], _ =>
    have h0 := hx 0 (by decide)
    have h1 := hx 1 (by decide)
    rw [hc] at h0 h1
    rw [List.getElem?_eq_getElem (by omega)] at h0 h1
    obtain ⟨n0, e0, _, w0⟩ := DataW.trod_int Tryz.underlying5 h0
    obtain ⟨n1, e1, _, w1⟩ := DataW.trod_int Tryz.underlying5 h1
    simp at e0 e1
    subst e0
    subst e1
    simp [Lit.wf, IntKind.min, IntKind.max, IntKind.signed, IntKind.bits] at w0 w1
    refine ⟨n0.toNat, n1.toNat, ?_, by omega, by omega⟩
    have q0 : ((n0.toNat : Nat) : Int) = n0 := by omega
    have q1 : ((n1.toNat : Nat) : Int) = n1 := by omega
    rw [q0, q1]
end Go.Proofs.YtbippecchpaleaaGreatDoor

