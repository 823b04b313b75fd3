import Derived.Test.YtmajcjdhhnhmmaaDoorKept
/- A region that draws its order, of which one operation that touches no world (number x) may come up late: it is taken as soon as it may. No program in sight. -/
namespace Go.Kp
open Go Go.RowKit
section
variable {P : Program} {ops : Array Oper} {Q : Exit → Act → World → Prop} {md : Region.Mode} {R : Nat → Value → World → Prop} {F : List Nat} {n : Nat} {b a : Act} {w0 w w' : World} {listed : Array Bool}

/-- Number n waits for all ahead of it but x; and for all that x waits for. -/
def tailedX (md : Region.Mode) (ops : Array Oper) (n x f : Nat) : Bool :=
  decide (n < ops.size) && decide (x < n) && ((List.range n).all fun i => i == x || (backs md ops f [n]).contains i) &&
    ((match ops[x]? with | some o => o.after.all (fun e => !Region.binds md e || (decide (e.on ≠ x) && (backs md ops f [n]).contains e.on)) | none => false) &&
    (List.range ops.size).all (fun j => decide (j ≤ n) || waits md ops (j - 1) j))
/-- x stands apart from all that do not wait for it. -/
def freeX (md : Region.Mode) (ops : Array Oper) (x : Nat) : Bool :=
  match ops[x]? with
  | none => false
  | some ox => (List.range ops.size).all fun j => j == x || match ops[j]? with
      | some oj => oj.after.any (fun e => Region.binds md e && e.on == x) || ox.apart ops oj
      | none => true

theorem freeX_spec {x : Nat} {ox : Oper} (hx : ops[x]? = some ox) (h : freeX md ops x = true) (j : Nat) (oj : Oper) (hj : ops[j]? = some oj) (hne : j ≠ x) (hno : ∀ e ∈ oj.after, Region.binds md e = true → e.on ≠ x) : ox.apart ops oj = true := by
  unfold freeX at h
  simp only [hx] at h
  have h1 := List.all_eq_true.1 h j (List.mem_range.2 (Array.getElem?_eq_some_iff.1 hj).1)
  simp only [hj, Bool.or_eq_true, beq_iff_eq, hne, false_or] at h1
  rcases h1 with h1 | h1
  · exfalso
    obtain ⟨e, he, hb⟩ := Array.any_eq_true'.1 h1
    simp only [Bool.and_eq_true, beq_iff_eq] at hb
    exact hno e he hb.1 hb.2
  · exact h1

theorem Going.lateX {E : World → World → Prop} (h : Going md ops n F E R b w0 listed a w) (hs : sane md ops n b.tmps.size = true) {x f : Nat} (ht : tailedX md ops n x f = true) {j : Nat} (hr : j ∈ Region.ready md ops listed) (hj : n ≤ j) (hx : x ∉ Region.ready md ops listed) : allUp n listed := by
  obtain ⟨h1, o, ho, hall⟩ := mem_ready.1 hr
  have hlt := (Array.getElem?_eq_some_iff.1 ho).1
  unfold tailedX at ht
  simp only [Bool.and_eq_true, decide_eq_true_eq] at ht
  obtain ⟨⟨⟨hn, hxn⟩, hb⟩, hd, hc⟩ := ht
  have hjn : j = n := by
    by_cases e : j = n
    · exact e
    · exfalso
      have h2 := List.all_eq_true.1 hc j (List.mem_range.2 hlt)
      simp only [Bool.or_eq_true, decide_eq_true_eq] at h2
      rcases h2 with h2 | h2
      · omega
      · have h3 := h.head _ (h.waited hr h2)
        omega
  subst hjn
  have hback : ∀ i ∈ backs md ops f [j], i = j ∨ listed.getD i false = true := backs_all (fun k => k = j ∨ listed.getD k false = true) (fun k ok hk hok e he hbe => by
    rcases hk with rfl | hk
    · rw [ho] at hok
      cases hok
      exact .inr (hall e he hbe)
    · exact .inr (h.closed k ok hk hok e he hbe)) f [j] (fun k hk => .inl (by simpa using hk))
  have hrest : ∀ i, i < j → i ≠ x → listed.getD i false = true := fun i hi hix => by
    have h2 := List.all_eq_true.1 hb i (List.mem_range.2 hi)
    have h3 : i ∈ backs md ops f [j] := by simpa [hix] using h2
    rcases hback i h3 with rfl | h4
    · omega
    · exact h4
  intro i hi
  by_cases hix : i = x
  · subst hix
    cases hl : listed.getD i false with
    | true => rfl
    | false =>
      exfalso
      have hil : i < ops.size := by omega
      have hoi : ops[i]? = some ops[i] := Array.getElem?_eq_getElem hil
      refine hx (mem_ready.2 ⟨?_, _, hoi, fun e he hbe => ?_⟩)
      · have : i < listed.size := by rw [h.lsize]; exact hil
        simp [this] at hl ⊢; exact hl
      · simp only [hoi] at hd
        have h5 := Array.all_eq_true_iff_forall_mem.1 hd e he
        simp only [hbe, Bool.not_true, Bool.false_or, Bool.and_eq_true, decide_eq_true_eq] at h5
        have h6 : e.on ∈ backs md ops f [j] := by simpa using h5.2
        rcases hback _ h6 with h7 | h7
        · have h8 := sane_back hs hoi he hbe
          omega
        · exact h7
  · exact hrest i hi hix

theorem wpAny_goingX {E : World → World → Prop} (hs : sane md ops n b.tmps.size = true) (hn : n ≤ ops.size) {ft x : Nat} {ox : Oper} (hx : ops[x]? = some ox) (hsel : Region.noSelect ops = true) (hfr : freeX md ops x = true) (ht : tailedX md ops n x ft = true) (refl : ∀ w, E w w) (mono : ∀ j v w w', E w w' → R j v w → R j v w') (trans : ∀ w w', E w0 w → E w w' → E w0 w') (hF : ∀ j, j ∈ F → ∀ v w, R j v w → blkOf v < w.heap.size) (hxF : x ∉ F)
    (hQ : ∀ c a w v, Q (.panic c) (a.put ox.dst v) w → Q (.panic c) a w)
    (hy : ∀ listed a w, Going md ops n F E R b w0 listed a w → x ∈ Region.ready md ops listed → ∃ v, Yields P ops ox v a ∧ R x v w)
    (step : ∀ i o, i < n → i ≠ x → ops[i]? = some o → Does P md ops n F Q E R b w0 i o) (g : Nat) (fin : ∀ listed a w, Going md ops n F E R b w0 listed a w → allUp n listed → wpAny P md ops Q g listed a w) :
    ∀ (f : Nat) (listed : Array Bool) (a : Act) (w : World), ((List.range n).filter (fun j => !listed.getD j true)).length = f → Going md ops n F E R b w0 listed a w → wpAny P md ops Q (f + g) listed a w := by
  have hxn : x < n := by
    unfold tailedX at ht
    simp only [Bool.and_eq_true, decide_eq_true_eq] at ht
    exact ht.1.1.2
  have hsel' := Region.noSelect_spec hsel
  intro f
  induction f with
  | zero =>
    intro listed a w hf hk
    rw [Nat.zero_add]
    refine fin _ _ _ hk (hk.all hs hn fun i hi => ?_)
    rcases Nat.lt_or_ge i n with h | h
    · exfalso
      have h0 : (List.range n).filter (fun j => !listed.getD j true) = [] := List.length_eq_zero_iff.1 (by omega)
      obtain ⟨h1, o, ho, _⟩ := mem_ready.1 hi
      have : i ∈ (List.range n).filter (fun j => !listed.getD j true) := List.mem_filter.2 ⟨List.mem_range.2 h, by rw [h1]; rfl⟩
      rw [h0] at this
      cases this
    · exact h
  | succ f ih =>
    intro listed a w hf hk
    have hno : ¬ allUp n listed := fun hall => by
      have h0 : (List.range n).filter (fun j => !listed.getD j true) = [] := List.filter_eq_nil_iff.2 fun j hj => by
        have h1 := hall j (List.mem_range.1 hj)
        have h2 := wpAny_going.getD_true h1
        rw [h2]; simp
      rw [h0] at hf
      simp at hf
    rw [show f + 1 + g = (f + g) + 1 by omega]
    by_cases hxr : x ∈ Region.ready md ops listed
    · obtain ⟨v, hv, hR⟩ := hy listed a w hk hxr
      refine wpAny_first hx hsel' (fun c a w h => hQ c a w v h) (f + g) listed a w (fun j oj hj hne _ hno' => freeX_spec hx hfr j oj hj hne hno') hxr hv (ih _ _ _ ?_ (hk.next hs mono trans hF hxn hxr hx (refl w) hR (fun h => absurd h hxF)))
      obtain ⟨h1, _⟩ := mem_ready.1 hxr
      have hll : x < listed.size := by rw [hk.lsize]; omega
      have hsub := wpAny_going.count_set (n := n) (ops := ops) (List.range n) (List.nodup_range) (List.mem_range.2 hxn) hll h1
      omega
    · refine ⟨fun hr => absurd (hk.all hs hn fun i hi => (by rw [hr] at hi; cases hi)) hno, fun i hi => ?_⟩
      obtain ⟨h1, o, ho, _⟩ := mem_ready.1 hi
      have hin : i < n := by
        rcases Nat.lt_or_ge i n with h | h
        · exact h
        · exact absurd (hk.lateX hs ht hi h hxr) hno
      refine wpOp_step ho fun K' hK => step i o hin (fun e => hxr (e ▸ hi)) ho listed a w hk hi K' fun v w' hE hR hf' => hK _ _ (ih _ _ _ ?_ (hk.next hs mono trans hF hin hi ho hE hR hf'))
      have hlt : i < ops.size := (Array.getElem?_eq_some_iff.1 ho).1
      have hll : i < listed.size := by rw [hk.lsize]; exact hlt
      have hsub := wpAny_going.count_set (n := n) (ops := ops) (List.range n) (List.nodup_range) (List.mem_range.2 hin) hll h1
      omega

/-- As wp_region_going, but number x of the first n may come up behind number n. -/
theorem wp_region_prompt {id : Nat} {l : List Oper} (n x : Nat) (F : List Nat) (Rs : List (Value → World → Prop)) {ox : Oper} (hx : l[x]? = some ox) (hm : P.follows .mixedOrders = true) (hs : sane .any l.toArray n a.tmps.size = true) (hn : n ≤ l.length)
    (ht : tailedX .any l.toArray n x n = true) (hsel : Region.noSelect l.toArray = true) (hfr : freeX .any l.toArray x = true) (hq : Region.seqB .any l.toArray (l.length - n) n ((List.range l.length).map fun j => decide (j < n)).toArray = true) (hxF : x ∉ F)
    (hQ : ∀ c a w v, Q (.panic c) (a.put ox.dst v) w → Q (.panic c) a w)
    (hF : ∀ j, j ∈ F → ∀ v w, (Rs.getD j fun _ _ => True) v w → blkOf v < w.heap.size)
    (hy : ∀ listed a' w', Going .any l.toArray n F Grows (fun i => Stays Grows (Rs.getD i fun _ _ => True)) a w.drew listed a' w' → x ∈ Region.ready .any l.toArray listed → ∃ v, Yields P l.toArray ox v a' ∧ Stays Grows (Rs.getD x fun _ _ => True) v w')
    (steps : AllOps (fun i o => i ≠ x → Does P .any l.toArray n F Q Grows (fun i => Stays Grows (Rs.getD i fun _ _ => True)) a w.drew i o) 0 (l.take n))
    (fin : ∀ (V : Nat → Value) (w' : World), Grows w.drew w' → (∀ j, j < n → (Rs.getD j fun _ _ => True) (V j) w') → (∀ i j, i < n → j < n → i ∈ F → j ∈ F → i ≠ j → ((l[i]?).bind (·.dst)).isSome → ((l[j]?).bind (·.dst)).isSome → blkOf (V i) ≠ blkOf (V j)) → wpList P l.toArray Q (l.drop n) (putAll V (l.take n) 0 a) w') : (Code.region id l.toArray true).wp P Q a w := by
  refine wp_region_any hm ?_
  have hsz : l.toArray.size = n + (l.length - n) := by simp; omega
  have hrep : ((List.range n).filter (fun j => !(Array.replicate l.toArray.size false).getD j true)).length = n := by
    rw [List.filter_eq_self.2 fun j hj => ?_, List.length_range]
    have : j < l.length := Nat.lt_of_lt_of_le (List.mem_range.1 hj) hn
    simp [this]
  have key := wpAny_goingX (P := P) (Q := Q) (F := F) (E := Grows) (R := fun i => Stays Grows (Rs.getD i fun _ _ => True)) (b := a) (w0 := w.drew) (ops := l.toArray) (x := x) (ox := ox) hs (by simpa using hn) (by simpa using hx) hsel hfr ht Grows.refl (fun j v w w' h1 h2 w'' h3 => h2 w'' (h1.trans h3)) (fun w w' h1 h2 => h1.trans h2) (fun j hj v w h => hF j hj v w (h w (Grows.refl w))) hxF hQ hy
    (fun i o hi hix ho => by
      have := AllOps.get steps (j := i) (o := o) (by rw [List.getElem?_take_of_lt hi]; simpa using ho)
      rw [Nat.zero_add] at this
      exact this hix) (l.length - n) (fun listed a' w' hk hall => ?_) n (Array.replicate l.toArray.size false) a w.drew hrep (Going.start (Grows.refl _))
  · rw [← hsz] at key
    exact key
  · have hle := listed_eq hk hall
    have hdl : (l.drop n).length = l.length - n := by simp
    obtain ⟨V, he, h2, h3⟩ := Going.ends hk hs hall
    have hfin := fin V w' hk.ext h2 h3
    rw [← he] at hfin
    have := wpAny_of_seq (md := .any) (ops := l.toArray) (Q' := Q) (l.drop n) n listed a' w' (fun j => by simp [List.getElem?_drop]) (by rw [hdl, hle]; simpa using hq) hfin
    rwa [hdl] at this
/-- The one that may come late does this. -/
theorem yields_of {o : Oper} {v : Value} (hg : o.guard = none) (h : ∀ w, (execOp (ev a) o).run P w = .ok (.value v) w) : Yields P ops o v a := .inl ⟨by simp [Region.wanted, hg], h⟩
end
end Go.Kp
