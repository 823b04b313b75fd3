import Derived.Test.YtbippecchpaleaaGreatDoorGVal
/- Regions whose order is free: the steps of a walk in few words. No program in sight. -/
namespace Go.Kp
open Go Go.RowKit Go.Num
section
variable {P : Program} {ops : Array Oper} {Q : Exit → Act → World → Prop} {md : Region.Mode} {R : Nat → Value → World → Prop} {F : List Nat} {n i : Nat} {b a : Act} {w0 w : World} {o : Oper} {listed : Array Bool} {K : Act → World → Prop}
/-- One operation more, without a guard. -/
theorem po {l : List Oper} {k : Nat} (hg : o.guard = none) (h : ∀ (listed : Array Bool) (a : Act) (w : World), Going md ops n F Grows R b w0 listed a w → k ∈ Region.ready md ops listed → ∀ K : Act → World → Prop, Shut (∀ v w', Grows w w' → R k v w' → (k ∈ F → w.heap.size ≤ blkOf v) → K (a.put o.dst v) w') → Oper.wp P o a w K Q) (t : AllOps (Does P md ops n F Q Grows R b w0) (k + 1) l) : AllOps (Does P md ops n F Q Grows R b w0) k (o :: l) := AllOps.cons (Does.plain hg h) t
/-- A value, the world as it is. -/
theorem vc {v : Value} {S : Value → World → Prop} (hK : Shut (∀ v w', Grows w w' → S v w' → (i ∈ F → w.heap.size ≤ blkOf v) → K (a.put o.dst v) w')) (h : (execOp (ev a) o).run P w = .ok (.value v) w) (hR : S v w) (hF : F.contains i = false := by decide) : Oper.wp P o a w K Q :=
  wp_of_value h (hK.out _ _ (Grows.refl _) hR fun h => by rw [List.contains_iff_mem.2 h] at hF; cases hF)
/-- A call by its contract. -/
theorem yc {f : FuncId} {vs : Array Value} {D : World → Value → Prop} {S : Value → World → Prop} (hK : Shut (∀ v w', Grows w w' → S v w' → (i ∈ F → w.heap.size ≤ blkOf v) → K (a.put o.dst v) w')) (h : (execOp (ev a) o).run P w = .ok (.enter f vs) w) (hc : Calls P f vs w fun e w' => ∃ r, e = .returned r ∧ D w' r ∧ Grows w w') (hR : ∀ u w1, D w1 u → S u w1) (hF : F.contains i = false := by decide) : Oper.wp P o a w K Q := by
  refine wp_of_call h hc ?_
  rintro e w1 ⟨u, rfl, hu, hb⟩
  exact ⟨u, rfl, hK.out _ _ hb (hR u w1 hu) fun h => by rw [List.contains_iff_mem.2 h] at hF; cases hF⟩
section
variable {T : Nat → Value → World → Prop}
/-- One operation more, whose guard lets it. -/
theorem pl {l : List Oper} {k : Nat} (g d : Nat) (t : Bool) (hg : o.guard = some (g, t)) (hc : (waits md ops g k && ((ops[g]?).bind (·.dst) == some d)) = true) (hR : ∀ v w, T g v w → v = .bool t) (h : ∀ (listed : Array Bool) (a : Act) (w : World), Going md ops n F Grows (fun i => Stays Grows (T i)) b w0 listed a w → k ∈ Region.ready md ops listed → ∀ K : Act → World → Prop, Shut (∀ v w', Grows w w' → Stays Grows (T k) v w' → (k ∈ F → w.heap.size ≤ blkOf v) → K (a.put o.dst v) w') → Oper.wp P o a w K Q) (s : AllOps (Does P md ops n F Q Grows (fun i => Stays Grows (T i)) b w0) (k + 1) l) : AllOps (Does P md ops n F Q Grows (fun i => Stays Grows (T i)) b w0) k (o :: l) := by
  simp only [Bool.and_eq_true, beq_iff_eq] at hc
  exact AllOps.cons (Does.lets hg hc.2 hc.1 (fun v w h => hR v w (h w (Grows.refl w))) h) s
/-- .. whose guard bars it. -/
theorem pb {l : List Oper} {k : Nat} (g d : Nat) (t u : Bool) (hg : o.guard = some (g, t)) (hc : (waits md ops g k && ((ops[g]?).bind (·.dst) == some d)) = true) (hR : ∀ v w, T g v w → v = .bool u) (hu : u ≠ t) (hi : ∀ w, T k undef w) (hF : F.contains k = false) (s : AllOps (Does P md ops n F Q Grows (fun i => Stays Grows (T i)) b w0) (k + 1) l) : AllOps (Does P md ops n F Q Grows (fun i => Stays Grows (T i)) b w0) k (o :: l) := by
  simp only [Bool.and_eq_true, beq_iff_eq] at hc
  exact AllOps.cons (Does.bars hg hc.2 hc.1 (fun v w h => hR v w (h w (Grows.refl w))) hu (fun _ w _ => hi w) hF) s
/-- What an earlier operation has left. -/
theorem Going.dp {j : Nat} (h : Going md ops n F Grows (fun i => Stays Grows (T i)) b w0 listed a w) (hr : j ∈ Region.ready md ops listed) (i d : Nat) (hc : (waits md ops i j && ((ops[i]?).bind (·.dst) == some d)) = true) : ∃ v, ev a (.tmp d) = v ∧ T i v w := by
  simp only [Bool.and_eq_true, beq_iff_eq] at hc
  obtain ⟨v, h1, _, h2⟩ := h.dep hr i d hc.1 hc.2
  exact ⟨v, h1, h2 w (Grows.refl w)⟩
/-- .. a known value. -/
theorem Going.dc {j : Nat} {x : Value} (h : Going md ops n F Grows (fun i => Stays Grows (T i)) b w0 listed a w) (hr : j ∈ Region.ready md ops listed) (i : Nat) {d : Nat} (hc : (waits md ops i j && ((ops[i]?).bind (·.dst) == some d)) = true) (hR : ∀ v w, T i v w → v = x) : ev a (.tmp d) = x := by
  obtain ⟨v, h1, h2⟩ := h.dp hr i d hc
  rw [h1]
  exact hR _ _ h2
end
end
end Go.Kp

