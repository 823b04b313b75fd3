import Derived.Test.YtdmghakmhfhpiaaDoorArgs
import Derived.OpenShut
import Derived.ChangeMaps5
/- Arguments that are texts, or two bytes. -/
namespace Go.Proofs.YtdmghakmhfhpiaaDoor
open Go.RowKit Go.Num Go.ChangeShapes Go.WideShapes Go.ChangeAt Go.Lib
theorem text_of_trod {H : Type} {en : TypeId × Value → H} {W : World} {base : Nat} {v : Value} {d : DataW H} {p : List MemPlace} (hval : Value.okWide Tryd.prog W .any base 9 v)
    (h : DataW.Trod en Tryd.prog W 0 (fun _ => true) true 9 v d p) : ∃ l : List UInt8, v = .string ⟨l.toArray⟩ ∧ l.length ≤ 9223372036854775807 := by
  obtain ⟨s, rfl, _, _, hs⟩ := Go.ChangeMaps.open_string Tryd.underlying9 hval h
  refine ⟨s.data.toList, by simp, ?_⟩
  have : s.size = s.data.toList.length := by show s.data.size = _; rw [Array.length_toList]
  rw [← this]
  exact Nat.le_trans hs (by decide)
theorem pair_of_trod {H : Type} {en : TypeId × Value → H} {W : World} {base : Nat} {v : Value} {d : DataW H} {p : List MemPlace} (hval : Value.okWide Tryd.prog W .any base 27 v)
    (h : DataW.Trod en Tryd.prog W 0 (fun _ => true) true 27 v d p) : ∃ x y : Nat, v = .agg #[.int .u8 x, .int .u8 y] ∧ x < 256 ∧ y < 256 := by
  have hu : Tryd.prog.underlying 27 = some (.array 2 5) := Tryd.underlying27
  simp only [Value.okWide, hu] at hval
  obtain ⟨cs, rfl, hs, _⟩ := hval
  obtain ⟨fuel, hf⟩ := h
  obtain ⟨xs, m, _, _, hl, hxl, hx⟩ := DataW.trod_array hu hf
  have hc : Tryd.prog.cellsOf 5 = 1 := by kernel_rfl
  have hc2 : Tryd.prog.cellsOf 27 = 2 := by kernel_rfl
  obtain ⟨L⟩ := cs
  simp only [Value.cells] at hl hx
  rw [hc2] at hl
  match L, hl with
  | [a, b], _ =>
    have h0 := hx 0 (by decide)
    have h1 := hx 1 (by decide)
    rw [hc] at h0 h1
    rw [List.getElem?_eq_getElem (by omega)] at h0 h1
    obtain ⟨n0, e0, _, w0⟩ := DataW.trod_int Tryd.underlying5 h0
    obtain ⟨n1, e1, _, w1⟩ := DataW.trod_int Tryd.underlying5 h1
    simp at e0 e1
    subst e0
    subst e1
    simp [Lit.wf, IntKind.min, IntKind.max, IntKind.signed, IntKind.bits] at w0 w1
    refine ⟨n0.toNat, n1.toNat, ?_, by omega, by omega⟩
    have q0 : ((n0.toNat : Nat) : Int) = n0 := by omega
    have q1 : ((n1.toNat : Nat) : Int) = n1 := by omega
    rw [q0, q1]
end Go.Proofs.YtdmghakmhfhpiaaDoor
