import Derived.Test.YtmajcjdhhnhmmaaDoorGKept
/- A region that draws its order, whose first store (number n) may come up ahead of some operations (those of X): two stages. No program in sight. -/
namespace Go.Kp
open Go Go.RowKit
section
variable {P : Program} {ops : Array Oper} {Q : Exit → Act → World → Prop} {md : Region.Mode} {R : Nat → Value → World → Prop} {F : List Nat} {n : Nat} {b a : Act} {w0 w w' : World} {listed : Array Bool}

/-- Number n waits for all ahead of it but those of X; from there on they come in the text's order. -/
def tailedL (md : Region.Mode) (ops : Array Oper) (n : Nat) (X : List Nat) (f : Nat) : Bool :=
  decide (n < ops.size) && ((List.range n).all fun i => X.contains i || (backs md ops f [n]).contains i) && (List.range ops.size).all (fun j => decide (j ≤ n) || waits md ops (j - 1) j)
theorem Going.lateL {E : World → World → Prop} (h : Going md ops n F E R b w0 listed a w) {X : List Nat} {f : Nat} (ht : tailedL md ops n X f = true) {j : Nat} (hr : j ∈ Region.ready md ops listed) (hj : n ≤ j) : j = n ∧ ∀ i, i < n → i ∉ X → listed.getD i false = true := by
  obtain ⟨h1, o, ho, hall⟩ := mem_ready.1 hr
  have hlt := (Array.getElem?_eq_some_iff.1 ho).1
  unfold tailedL at ht
  simp only [Bool.and_eq_true, decide_eq_true_eq] at ht
  obtain ⟨⟨hn, hb⟩, hc⟩ := ht
  have hjn : j = n := by
    by_cases e : j = n
    · exact e
    · exfalso
      have h2 := List.all_eq_true.1 hc j (List.mem_range.2 hlt)
      simp only [Bool.or_eq_true, decide_eq_true_eq] at h2
      rcases h2 with h2 | h2
      · omega
      · have h3 := h.head _ (h.waited hr h2)
        omega
  subst hjn
  refine ⟨rfl, fun i hi hix => ?_⟩
  have h2 := List.all_eq_true.1 hb i (List.mem_range.2 hi)
  have h3 : i ∈ backs md ops f [j] := by simpa [hix] using h2
  have h4 := backs_all (fun k => k = j ∨ listed.getD k false = true) (fun k ok hk hok e he hbe => by
    rcases hk with rfl | hk
    · rw [ho] at hok
      cases hok
      exact .inr (hall e he hbe)
    · exact .inr (h.closed k ok hk hok e he hbe)) f [j] (fun k hk => .inl (by simpa using hk)) i h3
  rcases h4 with rfl | h4
  · omega
  · exact h4

/-- As wpAny_going, up to number n, which may come up as soon as all but those of X have. -/
theorem wpAny_goingL {E : World → World → Prop} (hs : sane md ops n b.tmps.size = true) (hn : n < ops.size) {X : List Nat} {ft : Nat} (ht : tailedL md ops n X ft = true) (mono : ∀ j v w w', E w w' → R j v w → R j v w') (trans : ∀ w w', E w0 w → E w w' → E w0 w') (hF : ∀ j, j ∈ F → ∀ v w, R j v w → blkOf v < w.heap.size)
    (step : ∀ i o, i < n → ops[i]? = some o → Does P md ops n F Q E R b w0 i o) (g : Nat) {on : Oper} (hon : ops[n]? = some on) (hgd : on.guard = none)
    (mid : ∀ f listed a w, Going md ops n F E R b w0 listed a w → ((List.range n).filter (fun j => !listed.getD j true)).length = f → (∀ i, i < n → i ∉ X → listed.getD i false = true) → n ∈ Region.ready md ops listed → ∃ w2, (execOp (ev a) on).run P w = .ok .skip w2 ∧ wpAny P md ops Q (f + g) (listed.setIfInBounds n true) (a.put on.dst undef) w2) :
    ∀ (f : Nat) (listed : Array Bool) (a : Act) (w : World), ((List.range n).filter (fun j => !listed.getD j true)).length = f → Going md ops n F E R b w0 listed a w → wpAny P md ops Q (f + g + 1) listed a w := by
  intro f
  induction f with
  | zero =>
    intro listed a w hf hk
    have h0 : (List.range n).filter (fun j => !listed.getD j true) = [] := List.length_eq_zero_iff.1 hf
    have hin : ∀ i, i ∈ Region.ready md ops listed → n ≤ i := fun i hi => by
      rcases Nat.lt_or_ge i n with h | h
      · exfalso
        obtain ⟨h1, o, ho, _⟩ := mem_ready.1 hi
        have : i ∈ (List.range n).filter (fun j => !listed.getD j true) := List.mem_filter.2 ⟨List.mem_range.2 h, by rw [h1]; rfl⟩
        rw [h0] at this
        cases this
      · exact h
    refine ⟨fun hr => ?_, fun i hi => ?_⟩
    · exfalso
      have hup := hk.all hs (Nat.le_of_lt hn) (fun i hi => hin i hi)
      have hnr : n ∈ Region.ready md ops listed := mem_ready.2 ⟨by
        have hh : ¬ listed.getD n false = true := fun h => absurd (hk.head n h) (Nat.lt_irrefl n)
        have : n < listed.size := by rw [hk.lsize]; exact hn
        simp [this] at hh ⊢; exact hh, on, hon, fun e he hb => hup e.on (sane_back hs hon he hb)⟩
      rw [hr] at hnr
      cases hnr
    · obtain ⟨rfl, hL⟩ := hk.lateL ht hi (hin i hi)
      obtain ⟨w2, hrun, hw⟩ := mid 0 listed a w hk hf hL hi
      refine wpOp_step hon fun K' hK => ?_
      rw [if_pos (by simp [Region.wanted, hgd])]
      exact wp_of_skip hrun (hK _ _ hw)
  | succ f ih =>
    intro listed a w hf hk
    refine ⟨fun hr => ?_, fun i hi => ?_⟩
    · exfalso
      have hup := hk.all hs (Nat.le_of_lt hn) (fun i hi => by rw [hr] at hi; cases hi)
      have h0 : (List.range n).filter (fun j => !listed.getD j true) = [] := List.filter_eq_nil_iff.2 fun j hj => by
        rw [wpAny_going.getD_true (hup j (List.mem_range.1 hj))]; simp
      rw [h0] at hf
      simp at hf
    · rcases Nat.lt_or_ge i n with hin | hin
      · obtain ⟨h1, o, ho, _⟩ := mem_ready.1 hi
        rw [show f + 1 + g = f + g + 1 by omega]
        refine wpOp_step ho fun K' hK => step i o hin ho listed a w hk hi K' fun v w' hE hR hf' => hK _ _ (ih _ _ _ ?_ (hk.next hs mono trans hF hin hi ho hE hR hf'))
        have hll : i < listed.size := by rw [hk.lsize]; exact (Array.getElem?_eq_some_iff.1 ho).1
        have hsub := wpAny_going.count_set (n := n) (ops := ops) (List.range n) (List.nodup_range) (List.mem_range.2 hin) hll h1
        omega
      · obtain ⟨rfl, hL⟩ := hk.lateL ht hi hin
        obtain ⟨w2, hrun, hw⟩ := mid (f + 1) listed a w hk hf hL hi
        refine wpOp_step hon fun K' hK => ?_
        rw [if_pos (by simp [Region.wanted, hgd])]
        exact wp_of_skip hrun (hK _ _ hw)

/-- As wpAny_going, from a state in which all but those of X have come up. -/
theorem wpAny_goingR {E : World → World → Prop} (hs : sane md ops n b.tmps.size = true) (hn : n ≤ ops.size) {X : List Nat} {ft : Nat} (ht : tailed md ops n ft = true) (mono : ∀ j v w w', E w w' → R j v w → R j v w') (trans : ∀ w w', E w0 w → E w w' → E w0 w') (hF : ∀ j, j ∈ F → ∀ v w, R j v w → blkOf v < w.heap.size)
    (step : ∀ i o, i < n → i ∈ X → ops[i]? = some o → Does P md ops n F Q E R b w0 i o) (g : Nat) (fin : ∀ listed a w, Going md ops n F E R b w0 listed a w → allUp n listed → wpAny P md ops Q g listed a w) :
    ∀ (f : Nat) (listed : Array Bool) (a : Act) (w : World), ((List.range n).filter (fun j => !listed.getD j true)).length = f → (∀ i, i < n → i ∉ X → listed.getD i false = true) → Going md ops n F E R b w0 listed a w → wpAny P md ops Q (f + g) listed a w := by
  intro f
  induction f with
  | zero =>
    intro listed a w hf hL hk
    rw [Nat.zero_add]
    refine fin _ _ _ hk (hk.all hs hn fun i hi => ?_)
    rcases Nat.lt_or_ge i n with h | h
    · exfalso
      have h0 : (List.range n).filter (fun j => !listed.getD j true) = [] := List.length_eq_zero_iff.1 (by omega)
      obtain ⟨h1, o, ho, _⟩ := mem_ready.1 hi
      have : i ∈ (List.range n).filter (fun j => !listed.getD j true) := List.mem_filter.2 ⟨List.mem_range.2 h, by rw [h1]; rfl⟩
      rw [h0] at this
      cases this
    · exact h
  | succ f ih =>
    intro listed a w hf hL hk
    have hno : ¬ allUp n listed := fun hall => by
      have h0 : (List.range n).filter (fun j => !listed.getD j true) = [] := List.filter_eq_nil_iff.2 fun j hj => by
        rw [wpAny_going.getD_true (hall j (List.mem_range.1 hj))]; simp
      rw [h0] at hf
      simp at hf
    rw [show f + 1 + g = (f + g) + 1 by omega]
    refine ⟨fun hr => absurd (hk.all hs hn fun i hi => (by rw [hr] at hi; cases hi)) hno, fun i hi => ?_⟩
    obtain ⟨h1, o, ho, _⟩ := mem_ready.1 hi
    have hin : i < n := by
      rcases Nat.lt_or_ge i n with h | h
      · exact h
      · exact absurd (hk.late ht hi h).2 hno
    have hiX : i ∈ X := Decidable.byContradiction fun hx => by
      have h2 := wpAny_going.getD_true (hL i hin hx)
      rw [h2] at h1
      cases h1
    have hll : i < listed.size := by rw [hk.lsize]; exact (Array.getElem?_eq_some_iff.1 ho).1
    refine wpOp_step ho fun K' hK => step i o hin hiX ho listed a w hk hi K' fun v w' hE hR hf' => hK _ _ (ih _ _ _ ?_ (fun j hj hjx => ?_) (hk.next hs mono trans hF hin hi ho hE hR hf'))
    · have hsub := wpAny_going.count_set (n := n) (ops := ops) (List.range n) (List.nodup_range) (List.mem_range.2 hin) hll h1
      omega
    · by_cases e : j = i
      · subst e; simp [hll]
      · rw [getD_set_ne false (Ne.symm e)]; exact hL j hj hjx

/-- A region that draws its order: the first n but for those of X come up ahead of number n, a store; those of X anywhere; then the rest, in the text's order. -/
theorem wp_region_late {id : Nat} {l : List Oper} (n : Nat) (X F : List Nat) (Rs : List (Value → World → Prop)) {on : Oper} (hon : l[n]? = some on) (hgd : on.guard = none) (hdst : on.dst = none) (hm : P.follows .mixedOrders = true) (hs : sane .any l.toArray n a.tmps.size = true) (hs2 : sane .any l.toArray (n + 1) a.tmps.size = true) (hn : n < l.length)
    (ht : tailedL .any l.toArray n X n = true) (ht2 : tailed .any l.toArray (n + 1) (n + 1) = true) (hq : Region.seqB .any l.toArray (l.length - (n + 1)) (n + 1) ((List.range l.length).map fun j => decide (j < n + 1)).toArray = true)
    (hF : ∀ j, j ∈ F → ∀ v w, (Rs.getD j fun _ _ => True) v w → blkOf v < w.heap.size)
    (steps : AllOps (Does P .any l.toArray n F Q Grows (fun i => Stays Grows (Rs.getD i fun _ _ => True)) a w.drew) 0 (l.take n))
    (mid : ∀ listed a' w', Going .any l.toArray n F Grows (fun i => Stays Grows (Rs.getD i fun _ _ => True)) a w.drew listed a' w' → (∀ i, i < n → i ∉ X → listed.getD i false = true) →
      ∃ (w2 : World) (R2 : List (Value → World → Prop)), (execOp (ev a') on).run P w' = .ok .skip w2 ∧ Stays Grows (R2.getD n fun _ _ => True) undef w2 ∧
        (∀ j o, listed.getD j false = true → l[j]? = some o → ∃ v, (∀ d, o.dst = some d → a'.tmps[d]? = some v) ∧ Stays Grows (R2.getD j fun _ _ => True) v w2) ∧
        (∀ i o, i < n + 1 → i ∈ X → l[i]? = some o → Does P .any l.toArray (n + 1) [] Q Grows (fun i => Stays Grows (R2.getD i fun _ _ => True)) a w2 i o) ∧
        (∀ (V : Nat → Value) (w3 : World), Grows w2 w3 → (∀ j, j < n + 1 → (R2.getD j fun _ _ => True) (V j) w3) → wpList P l.toArray Q (l.drop (n + 1)) (putAll V (l.take (n + 1)) 0 a) w3)) : (Code.region id l.toArray true).wp P Q a w := by
  refine wp_region_any hm ?_
  have hsz : l.toArray.size = n + (l.length - (n + 1)) + 1 := by simp; omega
  have hrep : ((List.range n).filter (fun j => !(Array.replicate l.toArray.size false).getD j true)).length = n := by
    rw [List.filter_eq_self.2 fun j hj => ?_, List.length_range]
    have : j < l.length := Nat.lt_trans (List.mem_range.1 hj) hn
    simp [this]
  have hona : l.toArray[n]? = some on := by simpa using hon
  have key := wpAny_goingL (P := P) (Q := Q) (F := F) (E := Grows) (R := fun i => Stays Grows (Rs.getD i fun _ _ => True)) (b := a) (w0 := w.drew) (ops := l.toArray) (X := X) hs (by simpa using hn) ht (fun j v w w' h1 h2 w'' h3 => h2 w'' (h1.trans h3)) (fun w w' h1 h2 => h1.trans h2) (fun j hj v w h => hF j hj v w (h w (Grows.refl w)))
    (fun i o hi ho => by
      have := AllOps.get steps (j := i) (o := o) (by rw [List.getElem?_take_of_lt hi]; simpa using ho)
      rwa [Nat.zero_add] at this) (l.length - (n + 1)) hona hgd (fun f listed a' w' hk hf hL hr => ?_) n (Array.replicate l.toArray.size false) a w.drew hrep (Going.start (Grows.refl _))
  · rw [← hsz] at key
    exact key
  · obtain ⟨w2, R2, hrun, hRn, hrel, hstep, hfin⟩ := mid listed a' w' hk hL
    refine ⟨w2, hrun, ?_⟩
    have hll : n < listed.size := by rw [hk.lsize]; simpa using hn
    have hput : a'.put on.dst undef = a' := by rw [hdst]; rfl
    rw [hput]
    have hg2 : Going .any l.toArray (n + 1) [] Grows (fun i => Stays Grows (R2.getD i fun _ _ => True)) a w2 (listed.setIfInBounds n true) a' w2 := by
      have hget : ∀ j, (listed.setIfInBounds n true).getD j false = true → j = n ∨ j ≠ n ∧ listed.getD j false = true := fun j hj => by
        by_cases e : j = n
        · exact .inl e
        · exact .inr ⟨e, by rwa [getD_set_ne false (Ne.symm e)] at hj⟩
      have hset : ∀ j, listed.getD j false = true → (listed.setIfInBounds n true).getD j false = true := fun j hj => by
        by_cases e : j = n
        · subst e; simp [hll]
        · rwa [getD_set_ne false (Ne.symm e)]
      refine ⟨Grows.refl _, by simp [hk.lsize], hk.tsize, hk.defers, fun j hj => ?_, fun t ht => hk.keep t fun j o hl ho => ht j o (hset j hl) ho, fun j o hl ho => ?_, fun j o hl ho e he hb => ?_, fun i _ _ _ _ _ hi => by cases hi⟩
      · rcases hget j hj with rfl | ⟨_, h⟩
        · omega
        · have := hk.head j h; omega
      · rcases hget j hl with rfl | ⟨_, h⟩
        · rw [hona] at ho
          cases ho
          exact ⟨undef, fun d hd => (by rw [hdst] at hd; cases hd), hRn⟩
        · exact hrel j o h (by simpa using ho)
      · rcases hget j hl with rfl | ⟨_, h⟩
        · obtain ⟨_, o', ho', hall⟩ := mem_ready.1 hr
          rw [ho] at ho'
          cases ho'
          exact hset _ (hall e he hb)
        · exact hset _ (hk.closed j o h ho e he hb)
    have hcount : ((List.range (n + 1)).filter (fun j => !(listed.setIfInBounds n true).getD j true)).length = f := by
      rw [List.range_succ, List.filter_append]
      have e1 : [n].filter (fun j => !(listed.setIfInBounds n true).getD j true) = [] := by simp [hll]
      have e2 : (List.range n).filter (fun j => !(listed.setIfInBounds n true).getD j true) = (List.range n).filter (fun j => !listed.getD j true) := List.filter_congr fun j hj => by
        rw [getD_set_ne true (fun e => by have := List.mem_range.1 hj; omega)]
      rw [e1, e2, List.append_nil]
      exact hf
    refine wpAny_goingR (P := P) (Q := Q) (F := []) (E := Grows) (R := fun i => Stays Grows (R2.getD i fun _ _ => True)) (b := a) (w0 := w2) (ops := l.toArray) (X := X) hs2 (by simp; omega) ht2 (fun j v w w' h1 h2 w'' h3 => h2 w'' (h1.trans h3)) (fun w w' h1 h2 => h1.trans h2) (fun j hj => by cases hj) (fun i o hi hiX ho => hstep i o hi hiX (by simpa using ho)) (l.length - (n + 1)) (fun listed a' w' hk hall => ?_) f _ _ _ hcount (fun i hi hix => ?_) hg2
    · have hle := listed_eq hk hall
      have hdl : (l.drop (n + 1)).length = l.length - (n + 1) := by simp
      obtain ⟨V, he, h2, h3⟩ := Going.ends hk hs2 hall
      have hf2 := hfin V w' hk.ext h2
      rw [← he] at hf2
      have := wpAny_of_seq (md := .any) (ops := l.toArray) (Q' := Q) (l.drop (n + 1)) (n + 1) listed a' w' (fun j => by simp [List.getElem?_drop]) (by rw [hdl, hle]; simpa using hq) hf2
      rwa [hdl] at this
    · by_cases e : i = n
      · subst e; simp [hll]
      · rw [getD_set_ne false (Ne.symm e)]
        exact hL i (by omega) hix
end
end Go.Kp
