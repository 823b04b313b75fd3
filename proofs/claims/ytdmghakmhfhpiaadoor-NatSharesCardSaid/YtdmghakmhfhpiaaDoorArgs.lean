import Derived.Test.YtdmghakmhfhpiaaDoorTold
import Derived.Test.YtdmghakmhfhpiaaDoorTie
import Derived.WalkKit
import Derived.ProofKit
import Derived.Lay
import Derived.LaidOnce
import Derived.SevenTiedAt
import Derived.ChangeSlices
import Derived.WideShapes
import Derived.Carry
/- An argument that reads as a row of limbs; the witness's world. -/
namespace Go.Proofs.YtdmghakmhfhpiaaDoor
open Go.RowKit Go.Num Go.ChangeShapes Go.WideShapes Go.ChangeAt Go.Lib
theorem laidOut' : laidOutB Tryd.prog = true := by kernel_rfl
theorem own' : ownKnob Tryd.prog.godebug = none := by kernel_rfl
theorem nat_of_wf {x : Int} (h : (Lit.int .u64 x).wf = true) : ∃ n : Nat, x = (n : Int) ∧ n < 18446744073709551616 := by
  simp [Lit.wf, IntKind.min, IntKind.max, IntKind.signed, IntKind.bits] at h
  exact ⟨x.toNat, by omega, by omega⟩
theorem arg_of_trod {H : Type} {en : TypeId × Value → H} {W : World} {base : Nat} {v : Value} {d : DataW H} {p : List MemPlace} (hval : Value.okWide Tryd.prog W .any base 22 v)
    (h : DataW.Trod en Tryd.prog W 0 (fun _ => true) true 22 v d p) : ∃ l, Arg encU W v l ∧ Lim l ∧ l.length ≤ 9223372036854775807 := by
  obtain ⟨a0, len, cap, rfl⟩ := okWide_slice Tryd.underlying22 hval
  obtain ⟨fuel, hf⟩ := h
  have hc : Tryd.prog.cellsOf 39 = 1 := by kernel_rfl
  rcases open_ints Tryd.underlying22 Tryd.underlying39 hc hf with ⟨hcs, hx⟩ | ⟨a, len', cap', zs, hcs, _, hl, hm, hz, hx, hcell, hwz⟩
  · simp [Value.cells] at hcs
    obtain ⟨rfl, rfl, rfl⟩ := hcs
    exact ⟨[], Arg.nil_ _ _ _ _, Lim.nil, by decide⟩
  · simp [Value.cells] at hcs
    obtain ⟨rfl, rfl, rfl⟩ := hcs
    simp only [if_true] at hz
    have hmax : cap ≤ 9223372036854775807 := Nat.le_trans hm (by decide)
    have hb : ∀ z ∈ zs, 0 ≤ z ∧ z < 4294967296 := fun z hzz => by
      have := hwz z hzz
      simp [Lit.wf, IntKind.min, IntKind.max, IntKind.signed, IntKind.bits] at this
      omega
    have hlen : ((zs.take len).map Int.toNat).length = len := by rw [List.length_map, List.length_take]; omega
    refine ⟨(zs.take len).map Int.toNat, ⟨_, cap, by rw [hlen], by omega, fun h0 => ?_⟩, ?_, by omega⟩
    · rw [hlen] at h0
      have h1 := hcell 0 (by omega)
      have hs : a.spot = none := by
        cases hsp : a.spot with
        | none => rfl
        | some k =>
          exfalso
          simp only [Addr.add, World.cell?] at h1
          cases hh : W.heap[a.block]? with
          | none => simp [hh] at h1
          | some o => cases o <;> simp [hh, hsp] at h1
      obtain ⟨b, o, sp⟩ := a
      subst hs
      refine ⟨b, o, rfl, fun j x hj => ?_⟩
      have hjl : j < len := by
        have := (List.getElem?_eq_some_iff.1 hj).1
        omega
      have h2 := hcell j (by omega)
      rw [add_plain] at h2
      rw [h2]
      rw [List.getElem?_map, List.getElem?_take] at hj
      simp only [hjl, if_true] at hj
      have hg : zs[j]? = some (zs.getD j 0) := by
        rw [List.getD_eq_getElem?_getD]
        rw [List.getElem?_eq_getElem (by omega)]
        rfl
      rw [hg] at hj
      simp only [Option.map_some, Option.some.injEq] at hj
      have hm0 : zs.getD j 0 ∈ zs := List.mem_of_getElem? hg
      have := (hb _ hm0).1
      simp only [encU]
      rw [← hj]
      congr 2
      omega
    · intro x hx
      obtain ⟨z, hz1, rfl⟩ := List.mem_map.1 hx
      have := hb z (List.mem_of_mem_take hz1)
      omega
end Go.Proofs.YtdmghakmhfhpiaaDoor
