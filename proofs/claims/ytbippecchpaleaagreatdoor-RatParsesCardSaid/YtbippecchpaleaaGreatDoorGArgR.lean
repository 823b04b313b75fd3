import Derived.Test.YtbippecchpaleaaGreatDoorGSign
import Derived.Test.YtbippecchpaleaaGreatDoorGNat
import Derived.Test.YtbippecchpaleaaGreatDoorTie
import Derived.WalkKit
import Derived.ProofKit
import Derived.Lay
import Derived.LaidOnce
import Derived.SevenTiedAt
import Derived.ChangeSlices
import Derived.WideShapes
import Derived.Carry
import Derived.OpenShut
import Derived.ChangeMaps5
import Derived.Deep.SlicePairs
import Derived.Test.YtbippecchpaleaaGreatDoorRat15
import Derived.HandedShaped
import Derived.Shelf.Vars
/- Arguments that read as whole numbers, arrays and rows of them, texts, pairs of bytes; the witness's world. -/
namespace Go.Proofs.YtbippecchpaleaaGreatDoor
open Go.RowKit Go.Num Go.ChangeShapes Go.WideShapes Go.ChangeAt Go.Lib Go.Deep
theorem laidOut' : laidOutB Tryz.prog = true := by kernel_rfl
theorem own' : ownKnob Tryz.prog.godebug = none := by kernel_rfl
section
variable {H : Type} {en : TypeId × Value → H} {W : World} {base fuel : Nat}
set_option maxRecDepth 100000 in
theorem limbs_of_cells {cs : List Value} {x : DataW H × List MemPlace} (hf : DataW.trod en Tryz.prog W 0 (fun _ => true) true fuel 22 cs = some x) : ∃ v l, cs = [v] ∧ Arg encU W v l ∧ Lim l ∧ l.length ≤ 9223372036854775807 := by
  have hc : Tryz.prog.cellsOf 43 = 1 := by kernel_rfl
  rcases open_ints Tryz.underlying22 Tryz.underlying43 hc hf with ⟨hcs, hx⟩ | ⟨a, len, cap, zs, hcs, _, hl, hm, hz, hx, hcell, hwz⟩
  · exact ⟨_, [], hcs, Arg.nil_ _ _ _ _, Lim.nil, by decide⟩
  · simp only [if_true] at hz
    have hmax : cap ≤ 9223372036854775807 := Nat.le_trans hm (by decide)
    have hb : ∀ z ∈ zs, 0 ≤ z ∧ z < 4294967296 := fun z hzz => by
      have := hwz z hzz
      simp [Lit.wf, IntKind.min, IntKind.max, IntKind.signed, IntKind.bits] at this
      omega
    have hlen : ((zs.take len).map Int.toNat).length = len := by rw [List.length_map, List.length_take]; omega
    refine ⟨_, (zs.take len).map Int.toNat, hcs, ⟨_, cap, by rw [hlen], by omega, fun h0 => ?_⟩, ?_, by omega⟩
    · rw [hlen] at h0
      have h1 := hcell 0 (by omega)
      have hs : a.spot = none := by
        cases hsp : a.spot with
        | none => rfl
        | some k =>
          exfalso
          simp only [Addr.add, World.cell?] at h1
          cases hh : W.heap[a.block]? with
          | none => simp [hh] at h1
          | some o => cases o <;> simp [hh, hsp] at h1
      obtain ⟨b, o, sp⟩ := a
      subst hs
      refine ⟨b, o, rfl, fun j x hj => ?_⟩
      have hjl : j < len := by
        have := (List.getElem?_eq_some_iff.1 hj).1
        omega
      have h2 := hcell j (by omega)
      rw [add_plain] at h2
      rw [h2]
      rw [List.getElem?_map, List.getElem?_take] at hj
      simp only [hjl, if_true] at hj
      have hg : zs[j]? = some (zs.getD j 0) := by
        rw [List.getD_eq_getElem?_getD]
        rw [List.getElem?_eq_getElem (by omega)]
        rfl
      rw [hg] at hj
      simp only [Option.map_some, Option.some.injEq] at hj
      have hm0 : zs.getD j 0 ∈ zs := List.mem_of_getElem? hg
      have := (hb _ hm0).1
      simp only [encU]
      rw [← hj]
      congr 2
      omega
    · intro x hx
      obtain ⟨z, hz1, rfl⟩ := List.mem_map.1 hx
      have := hb z (List.mem_of_mem_take hz1)
      omega
/-- What an argument of big's type is: a sign, and a slice that reads as limbs. -/
structure IntArg (w : World) (m : Value) (l : List Nat) : Prop where
  arg : Arg encU w m l
  lim : Lim l
  len : l.length ≤ 9223372036854775807
theorem IntArg.below {w w' : World} {m : Value} {l : List Nat} (h : IntArg w m l) (hb : Below w.heap.size w w') : IntArg w' m l := ⟨h.arg.below hb, h.lim, h.len⟩
set_option maxRecDepth 100000 in
theorem int_of_cells {cs : List Value} {x : DataW H × List MemPlace} (hf : DataW.trod en Tryz.prog W 0 (fun _ => true) true fuel 24 cs = some x) : ∃ n m l, cs = [.bool n, m] ∧ IntArg W m l := by
  obtain ⟨y0, y1, k, _, hl, h0, h1⟩ := trod_struct2 Tryz.underlying24 hf
  have hc : Tryz.prog.cellsOf 24 = 2 := by kernel_rfl
  have hc0 : Tryz.prog.cellsOf 4 = 1 := by kernel_rfl
  have hc1 : Tryz.prog.cellsOf 22 = 1 := by kernel_rfl
  rw [hc] at hl
  match cs, hl with
  | [c0, c1], _ =>
    simp only [hc0, hc1, List.drop_zero, List.drop_succ_cons, List.take_succ_cons, List.take_zero] at h0 h1
    obtain ⟨b, e0, _⟩ := DataW.trod_bool Tryz.underlying4 h0
    obtain ⟨v, l, e1, ha, hlim, hlen⟩ := limbs_of_cells h1
    cases e0
    cases e1
    exact ⟨b, _, l, rfl, ha, hlim, hlen⟩
set_option maxRecDepth 100000 in
theorem text_of_trod {v : Value} {d : DataW H} {p : List MemPlace} (hval : Value.okWide Tryz.prog W .any base 9 v)
    (h : DataW.Trod en Tryz.prog W 0 (fun _ => true) true 9 v d p) : ∃ l : List UInt8, v = .string ⟨l.toArray⟩ ∧ l.length ≤ 9223372036854775807 := by
  obtain ⟨s, rfl, _, _, hs⟩ := Go.ChangeMaps.open_string Tryz.underlying9 hval h
  refine ⟨s.data.toList, by simp, ?_⟩
  have : s.size = s.data.toList.length := by show s.data.size = _; rw [Array.length_toList]
  rw [← this]
  exact Nat.le_trans hs (by decide)
end
end Go.Proofs.YtbippecchpaleaaGreatDoor
/- Arguments that read as fractions; a law's wrap that keeps what the world's shape says. -/
namespace Go.Proofs.YtbippecchpaleaaGreatDoor
open Go.RowKit Go.Num Go.ChangeShapes Go.WideShapes Go.ChangeAt Go.Lib Go.Deep
section
variable {H : Type} {en : TypeId × Value → H} {W : World} {base fuel : Nat}
set_option maxRecDepth 100000 in
theorem rat_of_trod {v : Value} {d : DataW H} {p : List MemPlace} (hval : Value.okWide Tryz.prog W .any base 26 v) (h : DataW.Trod en Tryz.prog W 0 (fun _ => true) true 26 v d p) :
    ∃ n m o l r, v = .agg #[.bool n, m, o] ∧ IntArg W m l ∧ IntArg W o r := by
  obtain ⟨cs, rfl, _⟩ := okWide_struct Tryz.underlying26 hval
  obtain ⟨fuel, hf⟩ := h
  obtain ⟨L⟩ := cs
  simp only [Value.cells] at hf
  obtain ⟨y0, y1, k, _, hl, h0, h1⟩ := trod_struct2 Tryz.underlying26 hf
  have hc : Tryz.prog.cellsOf 26 = 3 := by kernel_rfl
  have hc0 : Tryz.prog.cellsOf 24 = 2 := by kernel_rfl
  have hc1 : Tryz.prog.cellsOf 22 = 1 := by kernel_rfl
  rw [hc] at hl
  match L, hl with
  | [c0, c1, c2], _ =>
    simp only [hc0, hc1, List.drop_zero, List.drop_succ_cons, List.take_succ_cons, List.take_zero] at h0 h1
    obtain ⟨n, m, l, e0, a0⟩ := int_of_cells h0
    obtain ⟨o, r, e1, ha, hlim, hlen⟩ := limbs_of_cells h1
    cases e0
    cases e1
    exact ⟨n, _, _, l, r, rfl, a0, ⟨ha, hlim, hlen⟩⟩
theorem hasLen_of_shape (h : W.ShapedOpen Tryz.prog) : HasLen W := cell_of_shapedOpen_int (zero := #[.int .i64 0]) (t := 3) h (of_decide_eq_true (by kernel_rfl)) (by kernel_rfl) rfl (by kernel_rfl) (by kernel_rfl) Tryz.underlying3
end
/-- A law's wrap: what the row lists, and the world's shape. -/
theorem handed_of_contract {H : Type} {enc : TypeId × Value → H} {a : Assume} {C : Checked} {os : Os} {f : FuncId} {fn : Func} {s : ChangeSpec} {conds : List PathCond} {apart fresh handsOn again : Bool} {X : World → Array Value → Prop}
    (_hX : ∀ (w w' : World) (args : Array Value), w.heap = w'.heap → X w args → X w' args)
    (own : ownKnob C.prog.godebug = none) (started : os.Started) (noInit : C.prog.inits.idxOf? f = none) (hfn : C.prog.funcs[f]? = some fn)
    (witness : ∃ (w : World) (tape : Tape) (i : Input), w.os = os ∧ (w.forCall tape i).Shaped C.prog ∧ i.vars = [] ∧ Input.okWide C.prog (w.forCall tape i) .any w.heap.size f i ∧
      ((s.pre enc C.prog fn conds apart (w.forCall tape i).memory i.args ∧ X (w.forCall tape i).memory i.args) ∧ sizedMet enc C.prog fn (OpenSpec.ofChange s) apart (w.forCall tape i).memory i.args) ∧ a.holds C.prog (lone (Frame.enter C.prog f i.args .normal) [] (w.forCall tape i)))
    (contract : ∀ (W : World) (base : Nat) (args : Array Value) (ds gs : List (DataW H)) (before : List MemPlace),
      (∀ (j : Nat) t v, fn.params[j]? = some t → args[j]? = some v → Value.okWide C.prog W .any base t v) →
      DataW.Whole enc C.prog fn.params.toList s.vars apart W args.toList ds gs before → W.ShapedOpen C.prog →
      Calls C.prog f args W fun e W' => ∃ v, e = .returned v ∧ s.post enc C.prog fn apart fresh handsOn again W args v W') :
    ReturnsInHanded a C os f .any (fun w args => (s.pre enc C.prog fn conds apart w args ∧ X w args) ∧ sizedMet enc C.prog fn (OpenSpec.ofChange s) apart w args) (s.post enc C.prog fn apart fresh handsOn again) := by
  refine returnsInHanded_of_calls own started noInit witness ?_
  intro w tape i _ hsh _ hok hpre _
  obtain ⟨_, _, _, fn', hfn', _, _, _, _, hval⟩ := hok
  obtain rfl : fn' = fn := Option.some.inj (hfn'.symm.trans hfn)
  obtain ⟨⟨⟨ds, gs, before, hw, _⟩, _⟩, _⟩ := hpre
  refine (contract (w.forCall tape i) w.heap.size i.args ds gs before hval (DataW.Whole.of_heap (w' := w.forCall tape i) (by rfl) hw) hsh).mono fun e W' ⟨v, he, hp⟩ => ?_
  subst he
  exact ChangeSpec.post_blind hp
end Go.Proofs.YtbippecchpaleaaGreatDoor
