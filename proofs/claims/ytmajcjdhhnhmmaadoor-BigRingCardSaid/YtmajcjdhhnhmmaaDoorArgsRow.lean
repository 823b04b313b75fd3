import Derived.Test.YtmajcjdhhnhmmaaDoorArgsThree
import Derived.Test.YtmajcjdhhnhmmaaDoorBigAll
/- An argument that is a row of whole numbers. -/
namespace Go.Proofs.YtmajcjdhhnhmmaaDoor
open Go.RowKit Go.Num Go.ChangeShapes Go.WideShapes Go.ChangeAt Go.Lib Go.Deep
set_option maxRecDepth 100000 in
theorem row_of_trod {H : Type} {en : TypeId × Value → H} {W : World} {base : Nat} {v : Value} {d : DataW H} {p : List MemPlace} (hval : Value.okWide Tryd.prog W .any base 45 v) (h : DataW.Trod en Tryd.prog W 0 (fun _ => true) true 45 v d p) :
    ∃ A c L, v = .slice A L.length c ∧ CellsI W A L ∧ L.length ≤ 9223372036854775807 := by
  obtain ⟨a0, len, cap, rfl⟩ := okWide_slice Tryd.underlying45 hval
  obtain ⟨fuel, hf⟩ := h
  have hc : Tryd.prog.cellsOf 24 = 2 := by kernel_rfl
  have hc0 : Tryd.prog.cellsOf 4 = 1 := by kernel_rfl
  have hc1 : Tryd.prog.cellsOf 22 = 1 := by kernel_rfl
  rcases open_slice_pairs Tryd.underlying45 Tryd.underlying24 hc rfl rfl hc0 hc1 hf with ⟨hcs, _⟩ | ⟨a, len', cap', m, n, V0, V1, D0, D1, P0, P1, hcs, _, hl, hm, hmm, _, hx⟩
  · simp [Value.cells] at hcs
    obtain ⟨rfl, rfl, rfl⟩ := hcs
    exact ⟨none, 0, [], rfl, fun h => absurd h (by simp), by simp⟩
  · simp [Value.cells] at hcs
    obtain ⟨rfl, rfl, rfl⟩ := hcs
    simp only [if_true] at hmm
    have hlc : len ≤ m := by omega
    have each : ∀ i, i < m → ∃ q : Bool × Value × List Nat, W.cell? (a.add (i * 2)) = some (.bool q.1) ∧ W.cell? (a.add (i * 2 + 1)) = some q.2.1 ∧ Arg encU W q.2.1 q.2.2 ∧ Lim q.2.2 ∧ q.2.2.length ≤ 9223372036854775807 := fun i hi => by
      obtain ⟨h0, h1, h2, h3⟩ := hx i hi
      obtain ⟨b, e0, _⟩ := DataW.trod_bool Tryd.underlying4 h2
      obtain ⟨v, l, e1, ha, hlim, hlen⟩ := limbs_of_cells h3
      simp only [List.cons.injEq, and_true] at e0 e1
      exact ⟨(b, v, l), by rw [h0, e0], by rw [h1, e1], ha, hlim, hlen⟩
    obtain ⟨q, hq⟩ := choose_lt each
    have hmax : cap ≤ 9223372036854775807 := Nat.le_trans hm (by decide)
    refine ⟨some a, cap, (List.range len).map q, by rw [List.length_map, List.length_range], fun h0 => ?_, by rw [List.length_map, List.length_range]; omega⟩
    rw [List.length_map, List.length_range] at h0
    have h1 := (hq 0 (by omega)).1
    have hs : a.spot = none := by
      cases hsp : a.spot with
      | none => rfl
      | some k =>
        exfalso
        simp only [Addr.add, World.cell?] at h1
        cases hh : W.heap[a.block]? with
        | none => simp [hh] at h1
        | some o => cases o <;> simp [hh, hsp] at h1
    obtain ⟨b, o, sp⟩ := a
    subst hs
    refine ⟨b, o, rfl, fun j p hj => ?_⟩
    have hjl : j < len := by
      have := (List.getElem?_eq_some_iff.1 hj).1
      rwa [List.length_map, List.length_range] at this
    rw [List.getElem?_map, List.getElem?_range hjl] at hj
    obtain rfl : q j = p := by simpa using hj
    obtain ⟨g1, g2, g3⟩ := hq j (by omega)
    rw [add_plain] at g1 g2
    exact ⟨g1, by rw [Nat.add_assoc]; exact g2, g3⟩
end Go.Proofs.YtmajcjdhhnhmmaaDoor
