import Derived.Test.YtmajcjdhhnhmmaaDoorBigAll
/- Words for litmuslaw02.BigRing. -/
namespace Go.Proofs.YtmajcjdhhnhmmaaDoor
open Go.RowKit Go.Num Go.Kp
theorem ring_mul (a b c : Int) : decide (a * (b + c) = a * b + a * c) = true := decide_eq_true (Int.mul_add a b c)
theorem szz_foldl_add : ∀ (Z : List Int) (z0 : Int) (k i : Nat), szz z0 ≤ i → (∀ z ∈ Z, szz z ≤ k) → szz (Z.foldl (fun x y : Int => x + y) z0) ≤ max i k + Z.length
  | [], z0, k, i, h0, _ => by simp; omega
  | z :: Z, z0, k, i, h0, hz => by
    have h1 := szz_add h0 (hz z (by simp))
    have h2 := szz_foldl_add Z (z0 + z) k (max i k + 1) h1 (fun y hy => hz y (by simp [hy]))
    simp only [List.foldl_cons, List.length_cons]
    omega
theorem szz_foldl_mul : ∀ (Z : List Int) (z0 : Int) (k i : Nat), szz z0 ≤ i → (∀ z ∈ Z, szz z ≤ k) → szz (Z.foldl (fun x y : Int => x * y) z0) ≤ i + k * Z.length
  | [], z0, k, i, h0, _ => by simp; omega
  | z :: Z, z0, k, i, h0, hz => by
    have h1 := szz_mul h0 (hz z (by simp))
    have h2 := szz_foldl_mul Z (z0 * z) k (i + k) h1 (fun y hy => hz y (by simp [hy]))
    simp only [List.foldl_cons, List.length_cons, Nat.mul_add, Nat.mul_one]
    omega
theorem szz_fewZ (k : Nat) (p : Bool × Value × List Nat) (h : Lim p.2.2) : szz (fewZ k p) ≤ k := few_szz p.1 k h
theorem CellsI.lim {w : World} {A : Option Addr} {L : List (Bool × Value × List Nat)} (h : CellsI w A L) : ∀ p ∈ L, Lim p.2.2 := fun p hp => by
  obtain ⟨j, hj⟩ := List.mem_iff_getElem?.1 hp
  obtain ⟨b, o, _, hx⟩ := h (by have := (List.getElem?_eq_some_iff.1 hj).1; omega)
  exact (hx j p hj).2.2.2.1
theorem addN_v (w : World) {v : Value} {Z : List Int} (h : RowV w v Z) (hl : Z.length ≤ 6) (hz : ∀ z ∈ Z, szz z ≤ 10) : Calls Tryd.prog 27 #[v] w fun e w' => ∃ r, e = .returned r ∧ ZV w' r (Z.foldl (fun x y : Int => x + y) 0) ∧ Grows w w' := by
  obtain ⟨A, c, rfl, hc⟩ := h
  have hs : ∀ j, j ≤ Z.length → sz ((Z.take j).foldl (fun x y : Int => x + y) 0).natAbs ≤ 1000 := fun j _ => by
    have := szz_foldl_add (Z.take j) 0 10 0 szz_zero (fun z h => hz z (List.mem_of_mem_take h))
    rw [List.length_take] at this
    exact Nat.le_trans this (by omega)
  refine (Add_row w A c Z hc (by omega) hs).mono ?_
  rintro e w1 ⟨n, m, rfl, g⟩
  exact ⟨_, rfl, g.zv (by have := hs Z.length (Nat.le_refl _); rwa [List.take_length] at this), g.below⟩
theorem mulN_v (w : World) {v : Value} {Z : List Int} (h : RowV w v Z) (hl : Z.length ≤ 6) (hz : ∀ z ∈ Z, szz z ≤ 10) : Calls Tryd.prog 28 #[v] w fun e w' => ∃ r, e = .returned r ∧ ZV w' r (Z.foldl (fun x y : Int => x * y) 1) ∧ Grows w w' := by
  obtain ⟨A, c, rfl, hc⟩ := h
  have hs : ∀ j, j ≤ Z.length → sz ((Z.take j).foldl (fun x y : Int => x * y) 1).natAbs ≤ 1000 := fun j _ => by
    have := szz_foldl_mul (Z.take j) 1 10 1 (sz_le (by decide)) (fun z h => hz z (List.mem_of_mem_take h))
    rw [List.length_take] at this
    exact Nat.le_trans this (by omega)
  refine (Mul_row w A c Z hc (by omega) hs).mono ?_
  rintro e w1 ⟨n, m, rfl, g⟩
  exact ⟨_, rfl, g.zv (by have := hs Z.length (Nat.le_refl _); rwa [List.take_length] at this), g.below⟩
section
attribute [local go_sem] ev_const ev_func ev_global
theorem op_load_two {a : Act} {w : World} {d : Option Tmp} {ty : TypeId} {pos : String} {af : Array Edge} {gu : Option (Nat × Bool)} (t g i : Nat) {x y : Value} (he : ev a (.tmp t) = .pointer (some ⟨g, i, none⟩)) (h0 : w.cell? ⟨g, i, none⟩ = some x) (h1 : w.cell? ⟨g, i + 1, none⟩ = some y) :
    (execOp (ev a) ⟨d, .load 24 (.tmp t), ty, pos, af, gu⟩).run Tryd.prog w = .ok (.value (.agg #[x, y])) w := by
  go_simp
end
end Go.Proofs.YtmajcjdhhnhmmaaDoor
