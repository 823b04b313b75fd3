import Derived.Test.YtmajcjdhhnhmmaaDoorGSign
import Derived.Test.YtmajcjdhhnhmmaaDoorGNat
import Derived.Test.YtmajcjdhhnhmmaaDoorTie
import Derived.WalkKit
import Derived.ProofKit
import Derived.Lay
import Derived.LaidOnce
import Derived.SevenTiedAt
import Derived.ChangeSlices
import Derived.WideShapes
import Derived.Carry
import Derived.OpenShut
import Derived.ChangeMaps5
import Derived.Deep.SlicePairs
/- Arguments that read as whole numbers, arrays and rows of them, texts, pairs of bytes; the witness's world. -/
namespace Go.Proofs.YtmajcjdhhnhmmaaDoor
open Go.RowKit Go.Num Go.ChangeShapes Go.WideShapes Go.ChangeAt Go.Lib Go.Deep
theorem laidOut' : laidOutB Tryd.prog = true := by kernel_rfl
theorem own' : ownKnob Tryd.prog.godebug = none := by kernel_rfl
section
variable {H : Type} {en : TypeId × Value → H} {W : World} {base fuel : Nat}
set_option maxRecDepth 100000 in
theorem limbs_of_cells {cs : List Value} {x : DataW H × List MemPlace} (hf : DataW.trod en Tryd.prog W 0 (fun _ => true) true fuel 22 cs = some x) : ∃ v l, cs = [v] ∧ Arg encU W v l ∧ Lim l ∧ l.length ≤ 9223372036854775807 := by
  have hc : Tryd.prog.cellsOf 52 = 1 := by kernel_rfl
  rcases open_ints Tryd.underlying22 Tryd.underlying52 hc hf with ⟨hcs, hx⟩ | ⟨a, len, cap, zs, hcs, _, hl, hm, hz, hx, hcell, hwz⟩
  · exact ⟨_, [], hcs, Arg.nil_ _ _ _ _, Lim.nil, by decide⟩
  · simp only [if_true] at hz
    have hmax : cap ≤ 9223372036854775807 := Nat.le_trans hm (by decide)
    have hb : ∀ z ∈ zs, 0 ≤ z ∧ z < 4294967296 := fun z hzz => by
      have := hwz z hzz
      simp [Lit.wf, IntKind.min, IntKind.max, IntKind.signed, IntKind.bits] at this
      omega
    have hlen : ((zs.take len).map Int.toNat).length = len := by rw [List.length_map, List.length_take]; omega
    refine ⟨_, (zs.take len).map Int.toNat, hcs, ⟨_, cap, by rw [hlen], by omega, fun h0 => ?_⟩, ?_, by omega⟩
    · rw [hlen] at h0
      have h1 := hcell 0 (by omega)
      have hs : a.spot = none := by
        cases hsp : a.spot with
        | none => rfl
        | some k =>
          exfalso
          simp only [Addr.add, World.cell?] at h1
          cases hh : W.heap[a.block]? with
          | none => simp [hh] at h1
          | some o => cases o <;> simp [hh, hsp] at h1
      obtain ⟨b, o, sp⟩ := a
      subst hs
      refine ⟨b, o, rfl, fun j x hj => ?_⟩
      have hjl : j < len := by
        have := (List.getElem?_eq_some_iff.1 hj).1
        omega
      have h2 := hcell j (by omega)
      rw [add_plain] at h2
      rw [h2]
      rw [List.getElem?_map, List.getElem?_take] at hj
      simp only [hjl, if_true] at hj
      have hg : zs[j]? = some (zs.getD j 0) := by
        rw [List.getD_eq_getElem?_getD]
        rw [List.getElem?_eq_getElem (by omega)]
        rfl
      rw [hg] at hj
      simp only [Option.map_some, Option.some.injEq] at hj
      have hm0 : zs.getD j 0 ∈ zs := List.mem_of_getElem? hg
      have := (hb _ hm0).1
      simp only [encU]
      rw [← hj]
      congr 2
      omega
    · intro x hx
      obtain ⟨z, hz1, rfl⟩ := List.mem_map.1 hx
      have := hb z (List.mem_of_mem_take hz1)
      omega
/-- What an argument of big's type is: a sign, and a slice that reads as limbs. -/
structure IntArg (w : World) (m : Value) (l : List Nat) : Prop where
  arg : Arg encU w m l
  lim : Lim l
  len : l.length ≤ 9223372036854775807
theorem IntArg.below {w w' : World} {m : Value} {l : List Nat} (h : IntArg w m l) (hb : Below w.heap.size w w') : IntArg w' m l := ⟨h.arg.below hb, h.lim, h.len⟩
set_option maxRecDepth 100000 in
theorem int_of_cells {cs : List Value} {x : DataW H × List MemPlace} (hf : DataW.trod en Tryd.prog W 0 (fun _ => true) true fuel 24 cs = some x) : ∃ n m l, cs = [.bool n, m] ∧ IntArg W m l := by
  obtain ⟨y0, y1, k, _, hl, h0, h1⟩ := trod_struct2 Tryd.underlying24 hf
  have hc : Tryd.prog.cellsOf 24 = 2 := by kernel_rfl
  have hc0 : Tryd.prog.cellsOf 4 = 1 := by kernel_rfl
  have hc1 : Tryd.prog.cellsOf 22 = 1 := by kernel_rfl
  rw [hc] at hl
  match cs, hl with
  | [c0, c1], _ =>
    simp only [hc0, hc1, List.drop_zero, List.drop_succ_cons, List.take_succ_cons, List.take_zero] at h0 h1
    obtain ⟨b, e0, _⟩ := DataW.trod_bool Tryd.underlying4 h0
    obtain ⟨v, l, e1, ha, hlim, hlen⟩ := limbs_of_cells h1
    cases e0
    cases e1
    exact ⟨b, _, l, rfl, ha, hlim, hlen⟩
set_option maxRecDepth 100000 in
theorem int_of_trod {v : Value} {d : DataW H} {p : List MemPlace} (hval : Value.okWide Tryd.prog W .any base 24 v) (h : DataW.Trod en Tryd.prog W 0 (fun _ => true) true 24 v d p) :
    ∃ n m l, v = .agg #[.bool n, m] ∧ IntArg W m l := by
  obtain ⟨cs, rfl, _⟩ := okWide_struct Tryd.underlying24 hval
  obtain ⟨fuel, hf⟩ := h
  obtain ⟨n, m, l, e, ha⟩ := int_of_cells hf
  obtain ⟨L⟩ := cs
  simp only [Value.cells] at e
  subst e
  exact ⟨n, m, l, rfl, ha⟩
set_option maxRecDepth 100000 in
theorem i64_of_wf {x : Int} (h : (Lit.int .i64 x).wf = true) : -9223372036854775808 ≤ x ∧ x ≤ 9223372036854775807 := by
  simp [Lit.wf, IntKind.min, IntKind.max, IntKind.signed, IntKind.bits] at h
  omega
set_option maxRecDepth 100000 in
theorem i8_of_wf {x : Int} (h : (Lit.int .i8 x).wf = true) : -128 ≤ x ∧ x ≤ 127 := by
  simp [Lit.wf, IntKind.min, IntKind.max, IntKind.signed, IntKind.bits] at h
  omega
set_option maxRecDepth 100000 in
theorem text_of_trod {v : Value} {d : DataW H} {p : List MemPlace} (hval : Value.okWide Tryd.prog W .any base 9 v)
    (h : DataW.Trod en Tryd.prog W 0 (fun _ => true) true 9 v d p) : ∃ l : List UInt8, v = .string ⟨l.toArray⟩ ∧ l.length ≤ 9223372036854775807 := by
  obtain ⟨s, rfl, _, _, hs⟩ := Go.ChangeMaps.open_string Tryd.underlying9 hval h
  refine ⟨s.data.toList, by simp, ?_⟩
  have : s.size = s.data.toList.length := by show s.data.size = _; rw [Array.length_toList]
  rw [← this]
  exact Nat.le_trans hs (by decide)
end
end Go.Proofs.YtmajcjdhhnhmmaaDoor
