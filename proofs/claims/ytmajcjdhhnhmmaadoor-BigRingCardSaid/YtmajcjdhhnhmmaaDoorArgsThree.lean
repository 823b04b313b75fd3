import Derived.Test.YtmajcjdhhnhmmaaDoorArgsBig
/- Arguments that are three whole numbers. -/
namespace Go.Proofs.YtmajcjdhhnhmmaaDoor
open Go.RowKit Go.Num Go.ChangeShapes Go.WideShapes Go.ChangeAt Go.Lib Go.Deep
section
variable {H : Type} {en : TypeId × Value → H} {W : World} {base fuel : Nat}
set_option maxRecDepth 100000 in
theorem three_of_trod {v : Value} {d : DataW H} {p : List MemPlace} (hval : Value.okWide Tryd.prog W .any base 44 v) (h : DataW.Trod en Tryd.prog W 0 (fun _ => true) true 44 v d p) :
    ∃ n0 m0 l0 n1 m1 l1 n2 m2 l2, v = .agg #[.bool n0, m0, .bool n1, m1, .bool n2, m2] ∧ IntArg W m0 l0 ∧ IntArg W m1 l1 ∧ IntArg W m2 l2 := by
  have hu : Tryd.prog.underlying 44 = some (.array 3 24) := Tryd.underlying44
  simp only [Value.okWide, hu] at hval
  obtain ⟨cs, rfl, hs, _⟩ := hval
  obtain ⟨fuel, hf⟩ := h
  obtain ⟨xs, m, _, _, hl, hxl, hx⟩ := DataW.trod_array hu hf
  have hc : Tryd.prog.cellsOf 24 = 2 := by kernel_rfl
  have hc2 : Tryd.prog.cellsOf 44 = 6 := by kernel_rfl
  obtain ⟨L⟩ := cs
  simp only [Value.cells] at hl hx
  rw [hc2] at hl
  match L, hl with
  | [a, b, c, d, e, f], _ =>
    have h0 := hx 0 (by decide)
    have h1 := hx 1 (by decide)
    have h2 := hx 2 (by decide)
    rw [hc] at h0 h1 h2
    rw [List.getElem?_eq_getElem (by omega)] at h0 h1 h2
    obtain ⟨n0, m0, l0, e0, a0⟩ := int_of_cells h0
    obtain ⟨n1, m1, l1, e1, a1⟩ := int_of_cells h1
    obtain ⟨n2, m2, l2, e2, a2⟩ := int_of_cells h2
    simp at e0 e1 e2
    obtain ⟨rfl, rfl⟩ := e0
    obtain ⟨rfl, rfl⟩ := e1
    obtain ⟨rfl, rfl⟩ := e2
    exact ⟨n0, _, l0, n1, _, l1, n2, _, l2, rfl, a0, a1, a2⟩
end
end Go.Proofs.YtmajcjdhhnhmmaaDoor
