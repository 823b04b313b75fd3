import Derived.StillTail
import Derived.Below
import Derived.Deep.RegionHeld
/- A region that draws its order: what each operation answers is said apart, whatever came up before it. No program in sight. -/
namespace Go.Kp
open Go Go.RowKit
section
variable {P : Program} {ops : Array Oper} {Q : Exit → Act → World → Prop} {md : Region.Mode} {E : World → World → Prop} {R : Nat → Value → World → Prop} {F : List Nat} {n : Nat} {b a : Act} {w0 w w' : World} {listed : Array Bool}

/-- Which block a value points to. -/
def blkOf : Value → Nat
  | .pointer (some a) => a.block
  | .slice (some a) _ _ => a.block
  | _ => 0

/-- Each operation waits for earlier ones alone; each of the first n has a temporary of its own, which is there. -/
def sane (md : Region.Mode) (ops : Array Oper) (n m : Nat) : Bool :=
  (List.range ops.size).all fun j => match ops[j]? with
    | none => true
    | some o => o.after.all (fun e => !Region.binds md e || decide (e.on < j)) && (decide (n ≤ j) || match o.dst with
      | none => true
      | some d => decide (d < m) && (List.range n).all fun i => i == j || ((ops[i]?).bind (·.dst)) != some d)
/-- Does j wait for i itself? -/
def waits (md : Region.Mode) (ops : Array Oper) (i j : Nat) : Bool :=
  ((ops[j]?).map fun o => o.after.any fun e => Region.binds md e && e.on == i).getD false
/-- What a row of operations waits for, a step back. -/
def stepBack (md : Region.Mode) (ops : Array Oper) (M : List Nat) : List Nat :=
  M ++ (M.flatMap fun j => ((ops[j]?).map fun o => (o.after.toList.filter (Region.binds md)).map (·.on)).getD []).filter (fun i => !M.contains i)
def backs (md : Region.Mode) (ops : Array Oper) : Nat → List Nat → List Nat
  | 0, M => M
  | f + 1, M => backs md ops f (stepBack md ops M).eraseDups
/-- From number n on they come in the text's order, each behind all that stand ahead of it. -/
def tailed (md : Region.Mode) (ops : Array Oper) (n f : Nat) : Bool :=
  decide (n = ops.size) || (decide (n < ops.size) && ((List.range n).all fun i => (backs md ops f [n]).contains i) && (List.range ops.size).all (fun j => decide (j ≤ n) || waits md ops (j - 1) j))

theorem waits_spec {i j : Nat} (h : waits md ops i j = true) : ∃ o, ops[j]? = some o ∧ ∃ e ∈ o.after, Region.binds md e = true ∧ e.on = i := by
  unfold waits at h
  cases ho : ops[j]? with
  | none => simp [ho] at h
  | some o =>
    simp only [ho, Option.map_some, Option.getD_some] at h
    obtain ⟨e, he, hb⟩ := Array.any_eq_true'.1 h
    simp only [Bool.and_eq_true, beq_iff_eq] at hb
    exact ⟨o, rfl, e, he, hb.1, hb.2⟩
theorem sane_back {m j : Nat} {o : Oper} (h : sane md ops n m = true) (ho : ops[j]? = some o) {e : Edge} (he : e ∈ o.after) (hb : Region.binds md e = true) : e.on < j := by
  have hj : j < ops.size := (Array.getElem?_eq_some_iff.1 ho).1
  have h1 := List.all_eq_true.1 h j (List.mem_range.2 hj)
  simp only [ho, Bool.and_eq_true] at h1
  have h2 := Array.all_eq_true_iff_forall_mem.1 h1.1 e he
  simpa [hb] using h2
theorem sane_dst {m j d : Nat} {o : Oper} (h : sane md ops n m = true) (hn : j < n) (ho : ops[j]? = some o) (hd : o.dst = some d) : d < m ∧ ∀ i o', i < n → ops[i]? = some o' → i ≠ j → o'.dst ≠ some d := by
  have hj : j < ops.size := (Array.getElem?_eq_some_iff.1 ho).1
  have h1 := List.all_eq_true.1 h j (List.mem_range.2 hj)
  simp only [ho, hd, Bool.and_eq_true, Bool.or_eq_true, decide_eq_true_eq] at h1
  rcases h1.2 with h2 | h2
  · omega
  · refine ⟨h2.1, fun i o' hin hi hij he => ?_⟩
    have h2 := List.all_eq_true.1 h2.2 i (List.mem_range.2 hin)
    simp [hi, he, hij] at h2

/-- What is so while the first n come up. -/
structure Going (md : Region.Mode) (ops : Array Oper) (n : Nat) (F : List Nat) (E : World → World → Prop) (R : Nat → Value → World → Prop) (b : Act) (w0 : World) (listed : Array Bool) (a : Act) (w : World) : Prop where
  ext : E w0 w
  lsize : listed.size = ops.size
  tsize : a.tmps.size = b.tmps.size
  defers : a.defers = b.defers
  head : ∀ j, listed.getD j false = true → j < n
  keep : ∀ t, (∀ j o, listed.getD j false = true → ops[j]? = some o → o.dst ≠ some t) → a.tmps[t]? = b.tmps[t]?
  rel : ∀ j o, listed.getD j false = true → ops[j]? = some o → ∃ v, (∀ d, o.dst = some d → a.tmps[d]? = some v) ∧ R j v w
  closed : ∀ j o, listed.getD j false = true → ops[j]? = some o → ∀ e ∈ o.after, Region.binds md e = true → listed.getD e.on false = true
  apart : ∀ i j d d' v v', i ∈ F → j ∈ F → i ≠ j → listed.getD i false = true → listed.getD j false = true → (ops[i]?).bind (·.dst) = some d → (ops[j]?).bind (·.dst) = some d' → a.tmps[d]? = some v → a.tmps[d']? = some v' → blkOf v ≠ blkOf v'

theorem Going.start (h : E w0 w) : Going md ops n F E R b w0 (Array.replicate ops.size false) b w :=
  ⟨h, by simp, rfl, rfl, fun j hl => (by rw [getD_replicate_false] at hl; cases hl), fun _ _ => rfl, fun j o hl => (by rw [getD_replicate_false] at hl; cases hl), fun j o hl => (by rw [getD_replicate_false] at hl; cases hl), fun i _ _ _ _ _ _ _ _ hl => (by rw [getD_replicate_false] at hl; cases hl)⟩

/-- What the value of an operand is. -/
def ev (a : Act) : Operand → Value := a.eval
theorem ev_const (a : Act) (v : Value) : ev a (.const v) = v := rfl
theorem ev_func (a : Act) (f : FuncId) : ev a (.func f) = .func (.func f) #[] #[] := rfl
theorem ev_global (a : Act) (g : Nat) : ev a (.global g) = .pointer (some ⟨g, 0, none⟩) := rfl
theorem ev_tmp {a : Act} {t : Nat} {v : Value} (h : a.tmps[t]? = some v) : ev a (.tmp t) = v := by
  show a.tmps.getD t undef = v
  rw [Array.getD_eq_getD_getElem?, h]; rfl

theorem Going.waited (_h : Going md ops n F E R b w0 listed a w) {i j : Nat} (hr : j ∈ Region.ready md ops listed) (ha : waits md ops i j = true) : listed.getD i false = true := by
  obtain ⟨o, ho, e, he, hb, rfl⟩ := waits_spec ha
  obtain ⟨_, o', ho', hall⟩ := mem_ready.1 hr
  rw [ho] at ho'
  cases ho'
  exact hall e he hb
/-- What an operation that number j waits for has left. -/
theorem Going.dep (h : Going md ops n F E R b w0 listed a w) {j : Nat} (hr : j ∈ Region.ready md ops listed) (i d : Nat) (ha : waits md ops i j = true) (hd : (ops[i]?).bind (·.dst) = some d) : ∃ v, ev a (.tmp d) = v ∧ a.tmps[d]? = some v ∧ R i v w := by
  have hl := h.waited hr ha
  obtain ⟨o, ho, hod⟩ := Option.bind_eq_some_iff.1 hd
  obtain ⟨v, hv, hR⟩ := h.rel i o hl ho
  exact ⟨v, ev_tmp (hv d hod), hv d hod, hR⟩
/-- A slot that none of the first n writes. -/
theorem Going.base (h : Going md ops n F E R b w0 listed a w) (t : Nat) {v : Value} (ht : (List.range n).all (fun i => ((ops[i]?).bind (·.dst)) != some t) = true) (hv : b.tmps[t]? = some v) : ev a (.tmp t) = v := by
  refine ev_tmp (.trans (h.keep t fun i o hl ho hd => ?_) hv)
  have h1 := List.all_eq_true.1 ht i (List.mem_range.2 (h.head i hl))
  simp [ho, hd] at h1

/-- What is so behind one more. -/
theorem Going.next (hs : sane md ops n b.tmps.size = true) (mono : ∀ j v w w', E w w' → R j v w → R j v w') (trans : ∀ w w', E w0 w → E w w' → E w0 w') (hF : ∀ j, j ∈ F → ∀ v w, R j v w → blkOf v < w.heap.size) (h : Going md ops n F E R b w0 listed a w) {i : Nat} {o : Oper} (hin : i < n) (hr : i ∈ Region.ready md ops listed) (ho : ops[i]? = some o)
    {v : Value} (hE : E w w') (hR : R i v w') (hf : i ∈ F → w.heap.size ≤ blkOf v) : Going md ops n F E R b w0 (listed.setIfInBounds i true) (a.put o.dst v) w' := by
  have hi : i < listed.size := by rw [h.lsize]; exact (Array.getElem?_eq_some_iff.1 ho).1
  have hget : ∀ j, (listed.setIfInBounds i true).getD j false = true → j = i ∨ j ≠ i ∧ listed.getD j false = true := fun j hj => by
    by_cases e : j = i
    · exact .inl e
    · exact .inr ⟨e, by rwa [getD_set_ne false (Ne.symm e)] at hj⟩
  have hset : ∀ j, listed.getD j false = true → (listed.setIfInBounds i true).getD j false = true := fun j hj => by
    by_cases e : j = i
    · subst e; simp [hi]
    · rwa [getD_set_ne false (Ne.symm e)]
  have hput : ∀ t, o.dst ≠ some t → (a.put o.dst v).tmps[t]? = a.tmps[t]? := fun t ht => by
    cases hd : o.dst with
    | none => rfl
    | some d =>
      have hne : d ≠ t := fun e => ht (by rw [hd, e])
      show (a.tmps.setIfInBounds d v)[t]? = _
      rw [Array.getElem?_setIfInBounds_ne hne]
  have hown : ∀ d, o.dst = some d → (a.put o.dst v).tmps[d]? = some v := fun d hd => by
    have hlt := (sane_dst hs hin ho hd).1
    rw [hd]
    show (a.tmps.setIfInBounds d v)[d]? = _
    rw [Array.getElem?_setIfInBounds_self_of_lt (by rw [h.tsize]; exact hlt)]
  refine ⟨trans _ _ h.ext hE, by simp [h.lsize], ?_, ?_, ?_, ?_, ?_, ?_, ?_⟩
  · cases hd : o.dst with
    | none => exact h.tsize
    | some d => show (a.tmps.setIfInBounds d v).size = _; rw [Array.size_setIfInBounds]; exact h.tsize
  · cases hd : o.dst with
    | none => exact h.defers
    | some d => exact h.defers
  · intro j hl
    rcases hget j hl with rfl | ⟨_, hl'⟩
    · exact hin
    · exact h.head j hl'
  · intro t ht
    have hot : o.dst ≠ some t := ht i o (by simp [hi]) ho
    rw [hput t hot]
    exact h.keep t fun j oj hl hoj => ht j oj (hset j hl) hoj
  · intro j oj hl hoj
    rcases hget j hl with rfl | ⟨hne, hl'⟩
    · rw [ho] at hoj
      cases hoj
      exact ⟨v, hown, hR⟩
    · obtain ⟨u, hu, hRu⟩ := h.rel j oj hl' hoj
      refine ⟨u, fun d hd => ?_, mono _ _ _ _ hE hRu⟩
      rw [hput d ((sane_dst hs (h.head j hl') hoj hd).2 i o hin ho (Ne.symm hne))]
      exact hu d hd
  · intro j oj hl hoj e he hb
    rcases hget j hl with rfl | ⟨_, hl'⟩
    · obtain ⟨_, o', ho', hall⟩ := mem_ready.1 hr
      rw [hoj] at ho'
      cases ho'
      exact hset _ (hall e he hb)
    · exact hset _ (h.closed j oj hl' hoj e he hb)
  · have old : ∀ j d u, j ≠ i → j ∈ F → listed.getD j false = true → (ops[j]?).bind (·.dst) = some d → (a.put o.dst v).tmps[d]? = some u → a.tmps[d]? = some u ∧ blkOf u < w.heap.size := fun j d u hji hjF hl hd hu => by
      obtain ⟨oj, hoj, hod⟩ := Option.bind_eq_some_iff.1 hd
      rw [hput d ((sane_dst hs (h.head j hl) hoj hod).2 i o hin ho (Ne.symm hji))] at hu
      obtain ⟨v', hv', hR'⟩ := h.rel j oj hl hoj
      have e := hv' d hod
      rw [hu] at e
      cases e
      exact ⟨hu, hF j hjF _ _ hR'⟩
    have new : ∀ d u, (ops[i]?).bind (·.dst) = some d → (a.put o.dst v).tmps[d]? = some u → u = v := fun d u hd hu => by
      rw [ho] at hd
      rw [hown d hd] at hu
      exact (Option.some.inj hu).symm
    intro j k d d' u u' hj hk hjk hlj hlk hd hd' hu hu'
    rcases hget j hlj with rfl | ⟨hji, hlj'⟩
    · rcases hget k hlk with rfl | ⟨hki, hlk'⟩
      · exact absurd rfl hjk
      · have h1 := new d u hd hu
        have h2 := old k d' u' hki hk hlk' hd' hu'
        have h3 := hf hj
        rw [h1]
        omega
    · rcases hget k hlk with rfl | ⟨hki, hlk'⟩
      · have h1 := new d' u' hd' hu'
        have h2 := old j d u hji hj hlj' hd hu
        have h3 := hf hk
        rw [h1]
        omega
      · exact h.apart j k d d' u u' hj hk hjk hlj' hlk' hd hd' (old j d u hji hj hlj' hd hu).1 (old k d' u' hki hk hlk' hd' hu').1

/-- The first n have come up. -/
def allUp (n : Nat) (listed : Array Bool) : Prop := ∀ j, j < n → listed.getD j false = true

theorem Going.all (h : Going md ops n F E R b w0 listed a w) (hs : sane md ops n b.tmps.size = true) (hn : n ≤ ops.size) (hr : ∀ i ∈ Region.ready md ops listed, n ≤ i) : allUp n listed := by
  intro j
  induction j using Nat.strongRecOn with
  | _ j ih =>
    intro hjn
    have hj : j < ops.size := Nat.lt_of_lt_of_le hjn hn
    by_cases hl : listed.getD j false = true
    · exact hl
    · exfalso
      have ho : ops[j]? = some ops[j] := Array.getElem?_eq_getElem hj
      have hmem : j ∈ Region.ready md ops listed := mem_ready.2 ⟨by
        have : j < listed.size := by rw [h.lsize]; exact hj
        simp [this] at hl ⊢; exact hl, ops[j], ho, fun e he hb => ih e.on (sane_back hs ho he hb) (Nat.lt_trans (sane_back hs ho he hb) hjn)⟩
      have := hr j hmem
      omega

theorem backs_all (P : Nat → Prop) (hP : ∀ j o, P j → ops[j]? = some o → ∀ e ∈ o.after, Region.binds md e = true → P e.on) : ∀ (f : Nat) (M : List Nat), (∀ j ∈ M, P j) → ∀ j ∈ backs md ops f M, P j
  | 0, _, h => h
  | f + 1, M, h => by
    refine backs_all P hP f _ fun j hj => ?_
    have hj' := List.mem_eraseDups.1 hj
    unfold stepBack at hj'
    rcases List.mem_append.1 hj' with h1 | h1
    · exact h j h1
    · have h2 := (List.mem_filter.1 h1).1
      obtain ⟨k, hk, hjk⟩ := List.mem_flatMap.1 h2
      cases ho : ops[k]? with
      | none => simp [ho] at hjk
      | some o =>
        simp only [ho, Option.map_some, Option.getD_some] at hjk
        obtain ⟨e, he, rfl⟩ := List.mem_map.1 hjk
        obtain ⟨h3, h4⟩ := List.mem_filter.1 he
        exact hP k o (h k hk) ho e (Array.mem_toList_iff.1 h3) h4

/-- Once one of the tail may come up, all of the head have. -/
theorem Going.late (h : Going md ops n F E R b w0 listed a w) {f : Nat} (ht : tailed md ops n f = true) {j : Nat} (hr : j ∈ Region.ready md ops listed) (hj : n ≤ j) : j = n ∧ allUp n listed := by
  obtain ⟨h1, o, ho, hall⟩ := mem_ready.1 hr
  have hlt := (Array.getElem?_eq_some_iff.1 ho).1
  unfold tailed at ht
  simp only [Bool.or_eq_true, Bool.and_eq_true, decide_eq_true_eq] at ht
  rcases ht with ht | ⟨⟨hn, hb⟩, hc⟩
  · omega
  have hjn : j = n := by
    by_cases e : j = n
    · exact e
    · exfalso
      have h2 := List.all_eq_true.1 hc j (List.mem_range.2 hlt)
      simp only [Bool.or_eq_true, decide_eq_true_eq] at h2
      rcases h2 with h2 | h2
      · omega
      · have h3 := h.head _ (h.waited hr h2)
        omega
  subst hjn
  refine ⟨rfl, fun i hi => ?_⟩
  have h2 := List.all_eq_true.1 hb i (List.mem_range.2 hi)
  have h3 : i ∈ backs md ops f [j] := by simpa using h2
  have h4 := backs_all (fun k => k = j ∨ listed.getD k false = true) (fun k ok hk hok e he hbe => by
    rcases hk with rfl | hk
    · rw [ho] at hok
      cases hok
      exact .inr (hall e he hbe)
    · exact .inr (h.closed k ok hk hok e he hbe)) f [j] (fun k hk => .inl (by simpa using hk)) i h3
  rcases h4 with rfl | h4
  · omega
  · exact h4

/-- What each operation does, in whatever state it may come up. -/
def Does (P : Program) (md : Region.Mode) (ops : Array Oper) (n : Nat) (F : List Nat) (Q : Exit → Act → World → Prop) (E : World → World → Prop) (R : Nat → Value → World → Prop) (b : Act) (w0 : World) (i : Nat) (o : Oper) : Prop :=
  ∀ (listed : Array Bool) (a : Act) (w : World), Going md ops n F E R b w0 listed a w → i ∈ Region.ready md ops listed → ∀ K : Act → World → Prop, Shut (∀ v w', E w w' → R i v w' → (i ∈ F → w.heap.size ≤ blkOf v) → K (a.put o.dst v) w') → if Region.wanted o (yielded ops a.tmps) = true then Oper.wp P o a w K Q else K (a.put o.dst undef) w

theorem wpAny_going (hs : sane md ops n b.tmps.size = true) (hn : n ≤ ops.size) {ft : Nat} (ht : tailed md ops n ft = true) (mono : ∀ j v w w', E w w' → R j v w → R j v w') (trans : ∀ w w', E w0 w → E w w' → E w0 w') (hF : ∀ j, j ∈ F → ∀ v w, R j v w → blkOf v < w.heap.size)
    (step : ∀ i o, i < n → ops[i]? = some o → Does P md ops n F Q E R b w0 i o) (g : Nat) (fin : ∀ listed a w, Going md ops n F E R b w0 listed a w → allUp n listed → wpAny P md ops Q g listed a w) :
    ∀ (f : Nat) (listed : Array Bool) (a : Act) (w : World), ((List.range n).filter (fun j => !listed.getD j true)).length = f → Going md ops n F E R b w0 listed a w → wpAny P md ops Q (f + g) listed a w := by
  intro f
  induction f with
  | zero =>
    intro listed a w hf hk
    rw [Nat.zero_add]
    refine fin _ _ _ hk (hk.all hs hn fun i hi => ?_)
    rcases Nat.lt_or_ge i n with h | h
    · exfalso
      have h0 : (List.range n).filter (fun j => !listed.getD j true) = [] := List.length_eq_zero_iff.1 (by omega)
      obtain ⟨h1, o, ho, _⟩ := mem_ready.1 hi
      have : i ∈ (List.range n).filter (fun j => !listed.getD j true) := List.mem_filter.2 ⟨List.mem_range.2 h, by rw [h1]; rfl⟩
      rw [h0] at this
      cases this
    · exact h
  | succ f ih =>
    intro listed a w hf hk
    have hno : ¬ allUp n listed := fun hall => by
      have h0 : (List.range n).filter (fun j => !listed.getD j true) = [] := List.filter_eq_nil_iff.2 fun j hj => by
        have h1 := hall j (List.mem_range.1 hj)
        have h2 := getD_true h1
        rw [h2]; simp
      rw [h0] at hf
      simp at hf
    rw [show f + 1 + g = (f + g) + 1 by omega]
    refine ⟨fun hr => absurd (hk.all hs hn fun i hi => (by rw [hr] at hi; cases hi)) hno, fun i hi => ?_⟩
    obtain ⟨h1, o, ho, _⟩ := mem_ready.1 hi
    have hin : i < n := by
      rcases Nat.lt_or_ge i n with h | h
      · exact h
      · exact absurd (hk.late ht hi h).2 hno
    refine wpOp_step ho fun K' hK => step i o hin ho listed a w hk hi K' fun v w' hE hR hf' => hK _ _ (ih _ _ _ ?_ (hk.next hs mono trans hF hin hi ho hE hR hf'))
    have hlt : i < ops.size := (Array.getElem?_eq_some_iff.1 ho).1
    have hll : i < listed.size := by rw [hk.lsize]; exact hlt
    have hsub := count_set (List.range n) (List.nodup_range) (List.mem_range.2 hin) hll h1
    omega
where
  getD_true {listed : Array Bool} {j : Nat} (h : listed.getD j false = true) : listed.getD j true = true := by
    rcases Nat.lt_or_ge j listed.size with h' | h'
    · simp [h'] at h ⊢; exact h
    · simp [Array.getElem?_eq_none h']
  count_set {listed : Array Bool} {i : Nat} (l : List Nat) (hd : l.Nodup) (hi : i ∈ l) (hll : i < listed.size) (h1 : listed.getD i true = false) : (l.filter (fun j => !(listed.setIfInBounds i true).getD j true)).length + 1 = (l.filter (fun j => !listed.getD j true)).length := by
    induction l with
    | nil => cases hi
    | cons x l ih =>
      have hd' := List.nodup_cons.1 hd
      by_cases e : x = i
      · subst e
        have hrest : l.filter (fun j => !(listed.setIfInBounds x true).getD j true) = l.filter (fun j => !listed.getD j true) := List.filter_congr fun j hj => by
          rw [getD_set_ne true (fun e => hd'.1 (by rw [e]; exact hj))]
        have e1 : (!(listed.setIfInBounds x true).getD x true) = false := by simp [hll]
        have e2 : (!listed.getD x true) = true := by rw [h1]; rfl
        rw [List.filter_cons, List.filter_cons, e1, e2, hrest]
        simp
      · have hi' : i ∈ l := by
          rcases List.mem_cons.1 hi with h | h
          · exact absurd h.symm e
          · exact h
        have := ih hd'.2 hi'
        have e1 : (listed.setIfInBounds i true).getD x true = listed.getD x true := getD_set_ne true (Ne.symm e)
        cases hx : listed.getD x true
        · rw [List.filter_cons, List.filter_cons, e1, hx]
          simp only [Bool.not_false, if_true, List.length_cons]
          omega
        · rw [List.filter_cons, List.filter_cons, e1, hx]
          exact this

/-- What all have left. -/
def putAll (V : Nat → Value) : List Oper → Nat → Act → Act
  | [], _, a => a
  | o :: l, k, a => putAll V l (k + 1) (a.put o.dst (V k))
theorem putAll_defers (V : Nat → Value) : ∀ (l : List Oper) (k : Nat) (a : Act), (putAll V l k a).defers = a.defers
  | [], _, _ => rfl
  | o :: l, k, a => by
    unfold putAll
    rw [putAll_defers V l]
    cases h : o.dst <;> rfl
theorem put_size (a : Act) (d : Option Tmp) (v : Value) : (a.put d v).tmps.size = a.tmps.size := by
  cases d with
  | none => rfl
  | some d => show (a.tmps.setIfInBounds d v).size = _; rw [Array.size_setIfInBounds]
theorem put_far (a : Act) {d : Option Tmp} {t : Tmp} (v : Value) (h : d ≠ some t) : (a.put d v).tmps[t]? = a.tmps[t]? := by
  cases d with
  | none => rfl
  | some d =>
    show (a.tmps.setIfInBounds d v)[t]? = _
    rw [Array.getElem?_setIfInBounds_ne (fun e => h (by rw [e]))]
theorem putAll_far (V : Nat → Value) {t : Tmp} : ∀ (l : List Oper) (k : Nat) (a : Act), (∀ o ∈ l, o.dst ≠ some t) → (putAll V l k a).tmps[t]? = a.tmps[t]?
  | [], _, _, _ => rfl
  | o :: l, k, a, h => by
    unfold putAll
    rw [putAll_far V l _ _ fun o' ho' => h o' (List.mem_cons_of_mem _ ho'), put_far _ _ (h o (by simp))]
theorem putAll_at (V : Nat → Value) {t : Tmp} : ∀ (l : List Oper) (k : Nat) (a : Act) (j : Nat) (o : Oper), l[j]? = some o → o.dst = some t → (∀ i o', l[i]? = some o' → i ≠ j → o'.dst ≠ some t) → t < a.tmps.size → (putAll V l k a).tmps[t]? = some (V (k + j))
  | [], _, _, _, _, h, _, _, _ => by simp at h
  | o :: l, k, a, 0, o', h, hd, hno, ht => by
    have e : o = o' := by simpa using h
    subst e
    unfold putAll
    rw [putAll_far V l _ _ fun o' ho' => ?_]
    · rw [hd]
      show (a.tmps.setIfInBounds t (V k))[t]? = _
      rw [Array.getElem?_setIfInBounds_self_of_lt ht]
      rfl
    · obtain ⟨i, hi⟩ := List.getElem?_of_mem ho'
      exact hno (i + 1) o' (by simpa using hi) (by simp)
  | o :: l, k, a, j + 1, o', h, hd, hno, ht => by
    unfold putAll
    rw [putAll_at V l (k + 1) _ j o' (by simpa using h) hd (fun i o'' hi hij => hno (i + 1) o'' (by simpa using hi) (by simpa using hij)) (by rw [put_size]; exact ht)]
    congr 2
    omega

/-- So in every later world, too. -/
def Stays (E : World → World → Prop) (R : Value → World → Prop) (v : Value) (w : World) : Prop := ∀ w', E w w' → R v w'
/-- Each operation of a list, from number k on. -/
def AllOps (f : Nat → Oper → Prop) : Nat → List Oper → Prop
  | _, [] => True
  | k, o :: l => f k o ∧ AllOps f (k + 1) l
theorem AllOps.nil {f : Nat → Oper → Prop} {k : Nat} : AllOps f k [] := trivial
theorem AllOps.cons {f : Nat → Oper → Prop} {k : Nat} {o : Oper} {l : List Oper} (h : f k o) (t : AllOps f (k + 1) l) : AllOps f k (o :: l) := ⟨h, t⟩
theorem AllOps.get {f : Nat → Oper → Prop} : ∀ {l : List Oper} {k j : Nat} {o : Oper}, AllOps f k l → l[j]? = some o → f (k + j) o
  | [], _, _, _, _, h => by simp at h
  | o :: l, k, 0, o', h, hj => by
    have e : o = o' := by simpa using hj
    subst e
    exact h.1
  | o :: l, k, j + 1, o', h, hj => by
    have := AllOps.get h.2 (j := j) (o := o') (by simpa using hj)
    rwa [show k + (j + 1) = k + 1 + j by omega]

/-- The world only grows. -/
def Grows (w w' : World) : Prop := Below w.heap.size w w'
theorem Grows.refl (w : World) : Grows w w := Below.refl _ _
theorem Grows.trans {w w1 w2 : World} (h : Grows w w1) (k : Grows w1 w2) : Grows w w2 := Below.trans h (Below.mono k (Below.size h))
theorem Grows.alloc {w w1 : World} (h : Grows w w1) (o : Obj) : Grows w (w1.alloc o) := Below.alloc h (Below.size h) o
theorem Grows.drew {w w1 : World} (h : Grows w w1) : Grows w w1.drew := Below.drew h

/-- The listed ones are just the first n. -/
theorem listed_eq (hk : Going md ops n F E R b w0 listed a w) (hall : allUp n listed) : listed = ((List.range ops.size).map fun j => decide (j < n)).toArray := by
  refine Array.ext (by simp [hk.lsize]) fun j h1 h2 => ?_
  by_cases e : j < n
  · have h3 := hall j e
    simp [h1] at h3
    simp [h3, e]
  · have h3 : ¬ listed.getD j false = true := fun h => e (hk.head j h)
    simp [h1] at h3
    simp [h3, e]

theorem getD_size {listed : Array Bool} {j : Nat} (h : listed.getD j false = true) : j < listed.size := by
  rcases Nat.lt_or_ge j listed.size with h' | h'
  · exact h'
  · simp [Array.getElem?_eq_none h'] at h
/-- What stands at the head's end. -/
theorem Going.ends {l : List Oper} {Rs : List (Value → World → Prop)} {a' : Act} (hk : Going md l.toArray n F Grows (fun i => Stays Grows (Rs.getD i fun _ _ => True)) a w0 listed a' w') (hs : sane md l.toArray n a.tmps.size = true) (hall : allUp n listed) :
    ∃ V : Nat → Value, a' = putAll V (l.take n) 0 a ∧ (∀ j, j < n → (Rs.getD j fun _ _ => True) (V j) w') ∧ (∀ i j, i < n → j < n → i ∈ F → j ∈ F → i ≠ j → ((l[i]?).bind (·.dst)).isSome → ((l[j]?).bind (·.dst)).isSome → blkOf (V i) ≠ blkOf (V j)) := by
  have hex : ∀ j, ∃ v, ∀ o : Oper, j < n → l[j]? = some o → (∀ d, o.dst = some d → a'.tmps[d]? = some v) ∧ (Rs.getD j fun _ _ => True) v w' := fun j => by
    by_cases hjn : j < n
    · cases ho : l[j]? with
      | none => exact ⟨undef, fun o _ h => by cases h⟩
      | some o =>
        obtain ⟨v, hv, hR⟩ := hk.rel j o (hall j hjn) (by simpa using ho)
        exact ⟨v, fun o' _ ho' => by cases ho'; exact ⟨hv, hR w' (Grows.refl _)⟩⟩
    · exact ⟨undef, fun o h => absurd h hjn⟩
  obtain ⟨V, hV⟩ : ∃ V : Nat → Value, ∀ (j : Nat) (o : Oper), j < n → l[j]? = some o → (∀ d, o.dst = some d → a'.tmps[d]? = some (V j)) ∧ (Rs.getD j fun _ _ => True) (V j) w' := ⟨fun j => Classical.choose (hex j), fun j => Classical.choose_spec (hex j)⟩
  have htake : ∀ {j : Nat} {o : Oper}, (l.take n)[j]? = some o → j < n ∧ l[j]? = some o := fun {j o} h => by
    have h1 : j < n := by
      have := (List.getElem?_eq_some_iff.1 h).1
      rw [List.length_take] at this
      omega
    exact ⟨h1, by rwa [List.getElem?_take_of_lt h1] at h⟩
  have he : a' = putAll V (l.take n) 0 a := by
    have ht : a'.tmps = (putAll V (l.take n) 0 a).tmps := by
      refine Array.ext_getElem? fun t => ?_
      by_cases hd : ∃ (j : Nat) (o : Oper), (l.take n)[j]? = some o ∧ o.dst = some t
      · obtain ⟨j, o, hj, hd⟩ := hd
        obtain ⟨hjn, hj'⟩ := htake hj
        have hs' := sane_dst hs (j := j) (o := o) hjn (by simpa using hj') hd
        rw [putAll_at V (l.take n) 0 a j o hj hd (fun i o' hi hij => hs'.2 i o' (htake hi).1 (by simpa using (htake hi).2) hij) hs'.1, Nat.zero_add]
        exact (hV j o hjn hj').1 t hd
      · rw [putAll_far V (l.take n) 0 a fun o ho hd' => hd (by obtain ⟨i, hi⟩ := List.getElem?_of_mem ho; exact ⟨i, o, hi, hd'⟩)]
        exact hk.keep t fun j o hl ho hd' => hd ⟨j, o, by rw [List.getElem?_take_of_lt (hk.head j hl)]; simpa using ho, hd'⟩
    have hdef : a'.defers = (putAll V (l.take n) 0 a).defers := by rw [putAll_defers]; exact hk.defers
    cases a'
    generalize putAll V (l.take n) 0 a = c at *
    cases c
    simp only at ht hdef
    rw [ht, hdef]
  refine ⟨V, he, fun j hj => ?_, fun i j hi hj hiF hjF hij hdi hdj => ?_⟩
  · rcases Nat.lt_or_ge j l.length with h | h
    · exact (hV j l[j] hj (List.getElem?_eq_getElem h)).2
    · exact absurd hj (by
        have := hall j hj
        have h2 := getD_size this
        rw [hk.lsize] at h2
        simp at h2
        omega)
  · obtain ⟨d, hd⟩ := Option.isSome_iff_exists.1 hdi
    obtain ⟨d', hd'⟩ := Option.isSome_iff_exists.1 hdj
    obtain ⟨o, ho, hod⟩ := Option.bind_eq_some_iff.1 hd
    obtain ⟨o', ho', hod'⟩ := Option.bind_eq_some_iff.1 hd'
    exact hk.apart i j d d' _ _ hiF hjF hij (hall i hi) (hall j hj) (by simpa using hd) (by simpa using hd') ((hV i o hi ho).1 d hod) ((hV j o' hj ho').1 d' hod')

/-- A region that draws its order: of each of its first n operations (number i) Rs says what it leaves, in whatever world behind it; the others come in the text's order. -/
theorem wp_region_going {id : Nat} {l : List Oper} (n : Nat) (F : List Nat) (Rs : List (Value → World → Prop)) (hm : P.follows .mixedOrders = true) (hs : sane .any l.toArray n a.tmps.size = true) (hn : n ≤ l.length)
    (ht : tailed .any l.toArray n n = true) (hq : Region.seqB .any l.toArray (l.length - n) n ((List.range l.length).map fun j => decide (j < n)).toArray = true)
    (hF : ∀ j, j ∈ F → ∀ v w, (Rs.getD j fun _ _ => True) v w → blkOf v < w.heap.size)
    (steps : AllOps (Does P .any l.toArray n F Q Grows (fun i => Stays Grows (Rs.getD i fun _ _ => True)) a w.drew) 0 (l.take n))
    (fin : ∀ (V : Nat → Value) (w' : World), Grows w.drew w' → (∀ j, j < n → (Rs.getD j fun _ _ => True) (V j) w') → (∀ i j, i < n → j < n → i ∈ F → j ∈ F → i ≠ j → ((l[i]?).bind (·.dst)).isSome → ((l[j]?).bind (·.dst)).isSome → blkOf (V i) ≠ blkOf (V j)) → wpList P l.toArray Q (l.drop n) (putAll V (l.take n) 0 a) w') : (Code.region id l.toArray true).wp P Q a w := by
  refine wp_region_any hm ?_
  have hsz : l.toArray.size = n + (l.length - n) := by simp; omega
  have hrep : ((List.range n).filter (fun j => !(Array.replicate l.toArray.size false).getD j true)).length = n := by
    rw [List.filter_eq_self.2 fun j hj => ?_, List.length_range]
    have : j < l.length := Nat.lt_of_lt_of_le (List.mem_range.1 hj) hn
    simp [this]
  have key := wpAny_going (P := P) (Q := Q) (F := F) (E := Grows) (R := fun i => Stays Grows (Rs.getD i fun _ _ => True)) (b := a) (w0 := w.drew) hs (by simpa using hn) ht (fun j v w w' h1 h2 w'' h3 => h2 w'' (h1.trans h3)) (fun w w' h1 h2 => h1.trans h2) (fun j hj v w h => hF j hj v w (h w (Grows.refl w)))
    (fun i o hi ho => by
      have := AllOps.get steps (j := i) (o := o) (by rw [List.getElem?_take_of_lt hi]; simpa using ho)
      rwa [Nat.zero_add] at this) (l.length - n) (fun listed a' w' hk hall => ?_) n (Array.replicate l.toArray.size false) a w.drew hrep (Going.start (Grows.refl _))
  · rw [← hsz] at key
    exact key
  · have hle := listed_eq hk hall
    have hdl : (l.drop n).length = l.length - n := by simp
    obtain ⟨V, he, h2, h3⟩ := Going.ends hk hs hall
    have hfin := fin V w' hk.ext h2 h3
    rw [← he] at hfin
    have := wpAny_of_seq (md := .any) (ops := l.toArray) (Q' := Q) (l.drop n) n listed a' w' (fun j => by simp [List.getElem?_drop]) (by rw [hdl, hle]; simpa using hq) hfin
    rwa [hdl] at this

/-- A region in the text's order: the same of its first n operations. -/
theorem wpList_going {l : List Oper} {n : Nat} (hs : sane md l.toArray n b.tmps.size = true) (hn : n ≤ l.length) (mono : ∀ j v w w', E w w' → R j v w → R j v w') (trans : ∀ w w', E w0 w → E w w' → E w0 w') (hF : ∀ j, j ∈ F → ∀ v w, R j v w → blkOf v < w.heap.size)
    (step : ∀ i o, i < n → l[i]? = some o → Does P md l.toArray n F Q E R b w0 i o) (fin : ∀ listed a w, Going md l.toArray n F E R b w0 listed a w → allUp n listed → wpList P l.toArray Q (l.drop n) a w) :
    ∀ (f k : Nat) (listed : Array Bool) (a : Act) (w : World), k + f = n → (∀ j, j < k → listed.getD j false = true) → (∀ j, k ≤ j → listed.getD j false = false) → Going md l.toArray n F E R b w0 listed a w → wpList P l.toArray Q (l.drop k) a w := by
  intro f
  induction f with
  | zero =>
    intro k listed a w hk hlo _ hg
    have : k = n := by omega
    subst this
    exact fin _ _ _ hg hlo
  | succ f ih =>
    intro k listed a w hk hlo hhi hg
    have hkl : k < l.length := by omega
    have ho : l[k]? = some l[k] := List.getElem?_eq_getElem hkl
    rw [List.drop_eq_getElem_cons hkl]
    have hll : k < listed.size := by rw [hg.lsize]; simpa using hkl
    have hr : k ∈ Region.ready md l.toArray listed := mem_ready.2 ⟨by
      have h1 := hhi k (Nat.le_refl _)
      simp [hll] at h1 ⊢; exact h1, l[k], by simp, fun e he hb => hlo e.on (sane_back hs (by simp) he hb)⟩
    refine wpList_step fun K hK => step k l[k] (by omega) ho listed a w hg hr K fun v w' hE hR hf => hK _ _ (ih (k + 1) (listed.setIfInBounds k true) _ _ (by omega) (fun j hj => ?_) (fun j hj => ?_) (hg.next hs mono trans hF (by omega) hr (by simp) hE hR hf))
    · by_cases e : j = k
      · subst e; simp [hll]
      · rw [getD_set_ne false (Ne.symm e)]; exact hlo j (by omega)
    · rw [getD_set_ne false (by omega)]; exact hhi j (by omega)
theorem wp_region_calm {id : Nat} {l : List Oper} (n : Nat) (F : List Nat) (Rs : List (Value → World → Prop)) (hs : sane .any l.toArray n a.tmps.size = true) (hn : n ≤ l.length)
    (hF : ∀ j, j ∈ F → ∀ v w, (Rs.getD j fun _ _ => True) v w → blkOf v < w.heap.size)
    (steps : AllOps (Does P .any l.toArray n F Q Grows (fun i => Stays Grows (Rs.getD i fun _ _ => True)) a w) 0 (l.take n))
    (fin : ∀ (V : Nat → Value) (w' : World), Grows w w' → (∀ j, j < n → (Rs.getD j fun _ _ => True) (V j) w') → (∀ i j, i < n → j < n → i ∈ F → j ∈ F → i ≠ j → ((l[i]?).bind (·.dst)).isSome → ((l[j]?).bind (·.dst)).isSome → blkOf (V i) ≠ blkOf (V j)) → wpList P l.toArray Q (l.drop n) (putAll V (l.take n) 0 a) w') : (Code.region id l.toArray false).wp P Q a w := by
  refine wp_region_lit ?_
  have key := wpList_going (P := P) (Q := Q) (F := F) (E := Grows) (R := fun i => Stays Grows (Rs.getD i fun _ _ => True)) (b := a) (w0 := w) (md := .any) hs hn (fun j v w w' h1 h2 w'' h3 => h2 w'' (h1.trans h3)) (fun w w' h1 h2 => h1.trans h2) (fun j hj v w h => hF j hj v w (h w (Grows.refl w)))
    (fun i o hi ho => by
      have := AllOps.get steps (j := i) (o := o) (by rw [List.getElem?_take_of_lt hi]; exact ho)
      rwa [Nat.zero_add] at this) (fun listed a' w' hk hall => by
      obtain ⟨V, h1, h2, h3⟩ := Going.ends hk hs hall
      rw [h1]
      exact fin V w' hk.ext h2 h3) n 0 (Array.replicate l.toArray.size false) a w (by omega) (fun j hj => absurd hj (by omega)) (fun j _ => getD_replicate_false _ _) (Going.start (Grows.refl _))
  simpa using key
end

/-! The operations, one by one. -/
section
variable {P : Program} {ops : Array Oper} {Q : Exit → Act → World → Prop} {md : Region.Mode} {R : Nat → Value → World → Prop} {F : List Nat} {n : Nat} {b a : Act} {w0 w w' : World} {i : Nat} {o : Oper} {K : Act → World → Prop} {v : Value} {listed : Array Bool}
/-- No guard. -/
theorem Does.plain (hg : o.guard = none) (h : ∀ (listed : Array Bool) (a : Act) (w : World), Going md ops n F Grows R b w0 listed a w → i ∈ Region.ready md ops listed → ∀ K : Act → World → Prop, Shut (∀ v w', Grows w w' → R i v w' → (i ∈ F → w.heap.size ≤ blkOf v) → K (a.put o.dst v) w') → Oper.wp P o a w K Q) : Does P md ops n F Q Grows R b w0 i o := fun listed a w hk hr K hK => by
  rw [if_pos (by simp [Region.wanted, hg])]
  exact h listed a w hk hr K hK
theorem yield_of {g d : Nat} {t : Bool} (hk : Going md ops n F Grows R b w0 listed a w) (hr : i ∈ Region.ready md ops listed) (hd : (ops[g]?).bind (·.dst) = some d) (hw : waits md ops g i = true) (hR : ∀ v w, R g v w → v = .bool t) : yielded ops a.tmps g = some t := by
  obtain ⟨v, _, hv, hRv⟩ := hk.dep hr g d hw hd
  unfold yielded
  rw [hd]
  show (match (a.tmps[d]? : Option Value) with | some (.bool b) => some b | _ => none) = some t
  rw [hv, hR _ _ hRv]
/-- The guard lets it. -/
theorem Does.lets {g d : Nat} {t : Bool} (hg : o.guard = some (g, t)) (hd : (ops[g]?).bind (·.dst) = some d) (hw : waits md ops g i = true) (hR : ∀ v w, R g v w → v = .bool t)
    (h : ∀ (listed : Array Bool) (a : Act) (w : World), Going md ops n F Grows R b w0 listed a w → i ∈ Region.ready md ops listed → ∀ K : Act → World → Prop, Shut (∀ v w', Grows w w' → R i v w' → (i ∈ F → w.heap.size ≤ blkOf v) → K (a.put o.dst v) w') → Oper.wp P o a w K Q) : Does P md ops n F Q Grows R b w0 i o := fun listed a w hk hr K hK => by
  have hy := yield_of hk hr hd hw hR
  rw [if_pos (by simp [Region.wanted, hg, hy])]
  exact h listed a w hk hr K hK
/-- The guard bars it. -/
theorem Does.bars {g d : Nat} {t u : Bool} (hg : o.guard = some (g, t)) (hd : (ops[g]?).bind (·.dst) = some d) (hw : waits md ops g i = true) (hR : ∀ v w, R g v w → v = .bool u) (hu : u ≠ t) (hi : ∀ w, R i undef w) (hF : F.contains i = false) : Does P md ops n F Q Grows R b w0 i o := fun listed a w hk hr K hK => by
  have hy := yield_of hk hr hd hw hR
  rw [if_neg (by simp [Region.wanted, hg, hy, hu])]
  exact hK.out _ _ (Grows.refl _) (hi _) (fun h => by rw [List.contains_iff_mem.2 h] at hF; cases hF)
theorem wp_of_value {v : Value} {w' : World} (h : (execOp (ev a) o).run P w = .ok (.value v) w') (hK : K (a.put o.dst v) w') : Oper.wp P o a w K Q := by
  unfold Oper.wp
  rw [show a.eval = ev a from rfl, h]
  exact hK
theorem wp_of_skip {w' : World} (h : (execOp (ev a) o).run P w = .ok .skip w') (hK : K (a.put o.dst undef) w') : Oper.wp P o a w K Q := by
  unfold Oper.wp
  rw [show a.eval = ev a from rfl, h]
  exact hK
theorem wp_of_call {f : FuncId} {vs : Array Value} {R' : Ending → World → Prop} (h : (execOp (ev a) o).run P w = .ok (.enter f vs) w) (hc : Calls P f vs w R') (hK : ∀ e w', R' e w' → ∃ v, e = .returned v ∧ K (a.put o.dst v) w') : Oper.wp P o a w K Q := by
  unfold Oper.wp
  rw [show a.eval = ev a from rfl, h]
  refine hc.mono fun e w' he => ?_
  obtain ⟨v, rfl, hk⟩ := hK e w' he
  exact hk
end
end Go.Kp
/- A region that draws its order, of which one operation that touches no world (number x) may come up late: it is taken as soon as it may. No program in sight. -/
namespace Go.Kp
open Go Go.RowKit
section
variable {P : Program} {ops : Array Oper} {Q : Exit → Act → World → Prop} {md : Region.Mode} {R : Nat → Value → World → Prop} {F : List Nat} {n : Nat} {b a : Act} {w0 w w' : World} {listed : Array Bool}

/-- Number n waits for all ahead of it but x; and for all that x waits for. -/
def tailedX (md : Region.Mode) (ops : Array Oper) (n x f : Nat) : Bool :=
  decide (n < ops.size) && decide (x < n) && ((List.range n).all fun i => i == x || (backs md ops f [n]).contains i) &&
    ((match ops[x]? with | some o => o.after.all (fun e => !Region.binds md e || (decide (e.on ≠ x) && (backs md ops f [n]).contains e.on)) | none => false) &&
    (List.range ops.size).all (fun j => decide (j ≤ n) || waits md ops (j - 1) j))
/-- x stands apart from all that do not wait for it. -/
def freeX (md : Region.Mode) (ops : Array Oper) (x : Nat) : Bool :=
  match ops[x]? with
  | none => false
  | some ox => (List.range ops.size).all fun j => j == x || ox.after.any (fun e => Region.binds md e && e.on == j) || match ops[j]? with
      | some oj => oj.after.any (fun e => Region.binds md e && e.on == x) || ox.apart ops oj
      | none => true

theorem freeX_spec {x : Nat} {ox : Oper} (hx : ops[x]? = some ox) (h : freeX md ops x = true) (j : Nat) (oj : Oper) (hj : ops[j]? = some oj) (hne : j ≠ x) (hno : ∀ e ∈ oj.after, Region.binds md e = true → e.on ≠ x) (hnd : ∀ e ∈ ox.after, Region.binds md e = true → e.on ≠ j) : ox.apart ops oj = true := by
  unfold freeX at h
  simp only [hx] at h
  have h1 := List.all_eq_true.1 h j (List.mem_range.2 (Array.getElem?_eq_some_iff.1 hj).1)
  simp only [hj, Bool.or_eq_true, beq_iff_eq, hne, false_or] at h1
  rcases h1 with h1 | h1 | h1
  · exfalso
    obtain ⟨e, he, hb⟩ := Array.any_eq_true'.1 h1
    simp only [Bool.and_eq_true, beq_iff_eq] at hb
    exact hnd e he hb.1 hb.2
  · exfalso
    obtain ⟨e, he, hb⟩ := Array.any_eq_true'.1 h1
    simp only [Bool.and_eq_true, beq_iff_eq] at hb
    exact hno e he hb.1 hb.2
  · exact h1

theorem Going.lateX {E : World → World → Prop} (h : Going md ops n F E R b w0 listed a w) (hs : sane md ops n b.tmps.size = true) {x f : Nat} (ht : tailedX md ops n x f = true) {j : Nat} (hr : j ∈ Region.ready md ops listed) (hj : n ≤ j) (hx : x ∉ Region.ready md ops listed) : allUp n listed := by
  obtain ⟨h1, o, ho, hall⟩ := mem_ready.1 hr
  have hlt := (Array.getElem?_eq_some_iff.1 ho).1
  unfold tailedX at ht
  simp only [Bool.and_eq_true, decide_eq_true_eq] at ht
  obtain ⟨⟨⟨hn, hxn⟩, hb⟩, hd, hc⟩ := ht
  have hjn : j = n := by
    by_cases e : j = n
    · exact e
    · exfalso
      have h2 := List.all_eq_true.1 hc j (List.mem_range.2 hlt)
      simp only [Bool.or_eq_true, decide_eq_true_eq] at h2
      rcases h2 with h2 | h2
      · omega
      · have h3 := h.head _ (h.waited hr h2)
        omega
  subst hjn
  have hback : ∀ i ∈ backs md ops f [j], i = j ∨ listed.getD i false = true := backs_all (fun k => k = j ∨ listed.getD k false = true) (fun k ok hk hok e he hbe => by
    rcases hk with rfl | hk
    · rw [ho] at hok
      cases hok
      exact .inr (hall e he hbe)
    · exact .inr (h.closed k ok hk hok e he hbe)) f [j] (fun k hk => .inl (by simpa using hk))
  have hrest : ∀ i, i < j → i ≠ x → listed.getD i false = true := fun i hi hix => by
    have h2 := List.all_eq_true.1 hb i (List.mem_range.2 hi)
    have h3 : i ∈ backs md ops f [j] := by simpa [hix] using h2
    rcases hback i h3 with rfl | h4
    · omega
    · exact h4
  intro i hi
  by_cases hix : i = x
  · subst hix
    cases hl : listed.getD i false with
    | true => rfl
    | false =>
      exfalso
      have hil : i < ops.size := by omega
      have hoi : ops[i]? = some ops[i] := Array.getElem?_eq_getElem hil
      refine hx (mem_ready.2 ⟨?_, _, hoi, fun e he hbe => ?_⟩)
      · have : i < listed.size := by rw [h.lsize]; exact hil
        simp [this] at hl ⊢; exact hl
      · simp only [hoi] at hd
        have h5 := Array.all_eq_true_iff_forall_mem.1 hd e he
        simp only [hbe, Bool.not_true, Bool.false_or, Bool.and_eq_true, decide_eq_true_eq] at h5
        have h6 : e.on ∈ backs md ops f [j] := by simpa using h5.2
        rcases hback _ h6 with h7 | h7
        · have h8 := sane_back hs hoi he hbe
          omega
        · exact h7
  · exact hrest i hi hix

theorem wpAny_goingX {E : World → World → Prop} (hs : sane md ops n b.tmps.size = true) (hn : n ≤ ops.size) {ft x : Nat} {ox : Oper} (hx : ops[x]? = some ox) (hsel : Region.noSelect ops = true) (hfr : freeX md ops x = true) (ht : tailedX md ops n x ft = true) (refl : ∀ w, E w w) (mono : ∀ j v w w', E w w' → R j v w → R j v w') (trans : ∀ w w', E w0 w → E w w' → E w0 w') (hF : ∀ j, j ∈ F → ∀ v w, R j v w → blkOf v < w.heap.size) (hxF : x ∉ F)
    (hQ : ∀ c a w v, Q (.panic c) (a.put ox.dst v) w → Q (.panic c) a w)
    (hy : ∀ listed a w, Going md ops n F E R b w0 listed a w → x ∈ Region.ready md ops listed → ∃ v, Yields P ops ox v a ∧ R x v w)
    (step : ∀ i o, i < n → i ≠ x → ops[i]? = some o → Does P md ops n F Q E R b w0 i o) (g : Nat) (fin : ∀ listed a w, Going md ops n F E R b w0 listed a w → allUp n listed → wpAny P md ops Q g listed a w) :
    ∀ (f : Nat) (listed : Array Bool) (a : Act) (w : World), ((List.range n).filter (fun j => !listed.getD j true)).length = f → Going md ops n F E R b w0 listed a w → wpAny P md ops Q (f + g) listed a w := by
  have hxn : x < n := by
    unfold tailedX at ht
    simp only [Bool.and_eq_true, decide_eq_true_eq] at ht
    exact ht.1.1.2
  have hsel' := Region.noSelect_spec hsel
  intro f
  induction f with
  | zero =>
    intro listed a w hf hk
    rw [Nat.zero_add]
    refine fin _ _ _ hk (hk.all hs hn fun i hi => ?_)
    rcases Nat.lt_or_ge i n with h | h
    · exfalso
      have h0 : (List.range n).filter (fun j => !listed.getD j true) = [] := List.length_eq_zero_iff.1 (by omega)
      obtain ⟨h1, o, ho, _⟩ := mem_ready.1 hi
      have : i ∈ (List.range n).filter (fun j => !listed.getD j true) := List.mem_filter.2 ⟨List.mem_range.2 h, by rw [h1]; rfl⟩
      rw [h0] at this
      cases this
    · exact h
  | succ f ih =>
    intro listed a w hf hk
    have hno : ¬ allUp n listed := fun hall => by
      have h0 : (List.range n).filter (fun j => !listed.getD j true) = [] := List.filter_eq_nil_iff.2 fun j hj => by
        have h1 := hall j (List.mem_range.1 hj)
        have h2 := wpAny_going.getD_true h1
        rw [h2]; simp
      rw [h0] at hf
      simp at hf
    rw [show f + 1 + g = (f + g) + 1 by omega]
    by_cases hxr : x ∈ Region.ready md ops listed
    · obtain ⟨v, hv, hR⟩ := hy listed a w hk hxr
      refine wpAny_first hx hsel' (fun c a w h => hQ c a w v h) (f + g) listed a w (fun j oj hj hne hun hno' => freeX_spec hx hfr j oj hj hne hno' fun e he hbe e' => (by
        obtain ⟨_, o', ho', hall⟩ := mem_ready.1 hxr
        rw [hx] at ho'
        cases ho'
        have h1 := hall e he hbe
        rw [e'] at h1
        rw [wpAny_going.getD_true h1] at hun
        cases hun)) hxr hv (ih _ _ _ ?_ (hk.next hs mono trans hF hxn hxr hx (refl w) hR (fun h => absurd h hxF)))
      obtain ⟨h1, _⟩ := mem_ready.1 hxr
      have hll : x < listed.size := by rw [hk.lsize]; omega
      have hsub := wpAny_going.count_set (n := n) (ops := ops) (List.range n) (List.nodup_range) (List.mem_range.2 hxn) hll h1
      omega
    · refine ⟨fun hr => absurd (hk.all hs hn fun i hi => (by rw [hr] at hi; cases hi)) hno, fun i hi => ?_⟩
      obtain ⟨h1, o, ho, _⟩ := mem_ready.1 hi
      have hin : i < n := by
        rcases Nat.lt_or_ge i n with h | h
        · exact h
        · exact absurd (hk.lateX hs ht hi h hxr) hno
      refine wpOp_step ho fun K' hK => step i o hin (fun e => hxr (e ▸ hi)) ho listed a w hk hi K' fun v w' hE hR hf' => hK _ _ (ih _ _ _ ?_ (hk.next hs mono trans hF hin hi ho hE hR hf'))
      have hlt : i < ops.size := (Array.getElem?_eq_some_iff.1 ho).1
      have hll : i < listed.size := by rw [hk.lsize]; exact hlt
      have hsub := wpAny_going.count_set (n := n) (ops := ops) (List.range n) (List.nodup_range) (List.mem_range.2 hin) hll h1
      omega

/-- As wp_region_going, but number x of the first n may come up behind number n. -/
theorem wp_region_prompt {id : Nat} {l : List Oper} (n x : Nat) (F : List Nat) (Rs : List (Value → World → Prop)) {ox : Oper} (hx : l[x]? = some ox) (hm : P.follows .mixedOrders = true) (hs : sane .any l.toArray n a.tmps.size = true) (hn : n ≤ l.length)
    (ht : tailedX .any l.toArray n x n = true) (hsel : Region.noSelect l.toArray = true) (hfr : freeX .any l.toArray x = true) (hq : Region.seqB .any l.toArray (l.length - n) n ((List.range l.length).map fun j => decide (j < n)).toArray = true) (hxF : x ∉ F)
    (hQ : ∀ c a w v, Q (.panic c) (a.put ox.dst v) w → Q (.panic c) a w)
    (hF : ∀ j, j ∈ F → ∀ v w, (Rs.getD j fun _ _ => True) v w → blkOf v < w.heap.size)
    (hy : ∀ listed a' w', Going .any l.toArray n F Grows (fun i => Stays Grows (Rs.getD i fun _ _ => True)) a w.drew listed a' w' → x ∈ Region.ready .any l.toArray listed → ∃ v, Yields P l.toArray ox v a' ∧ Stays Grows (Rs.getD x fun _ _ => True) v w')
    (steps : AllOps (fun i o => i ≠ x → Does P .any l.toArray n F Q Grows (fun i => Stays Grows (Rs.getD i fun _ _ => True)) a w.drew i o) 0 (l.take n))
    (fin : ∀ (V : Nat → Value) (w' : World), Grows w.drew w' → (∀ j, j < n → (Rs.getD j fun _ _ => True) (V j) w') → (∀ i j, i < n → j < n → i ∈ F → j ∈ F → i ≠ j → ((l[i]?).bind (·.dst)).isSome → ((l[j]?).bind (·.dst)).isSome → blkOf (V i) ≠ blkOf (V j)) → wpList P l.toArray Q (l.drop n) (putAll V (l.take n) 0 a) w') : (Code.region id l.toArray true).wp P Q a w := by
  refine wp_region_any hm ?_
  have hsz : l.toArray.size = n + (l.length - n) := by simp; omega
  have hrep : ((List.range n).filter (fun j => !(Array.replicate l.toArray.size false).getD j true)).length = n := by
    rw [List.filter_eq_self.2 fun j hj => ?_, List.length_range]
    have : j < l.length := Nat.lt_of_lt_of_le (List.mem_range.1 hj) hn
    simp [this]
  have key := wpAny_goingX (P := P) (Q := Q) (F := F) (E := Grows) (R := fun i => Stays Grows (Rs.getD i fun _ _ => True)) (b := a) (w0 := w.drew) (ops := l.toArray) (x := x) (ox := ox) hs (by simpa using hn) (by simpa using hx) hsel hfr ht Grows.refl (fun j v w w' h1 h2 w'' h3 => h2 w'' (h1.trans h3)) (fun w w' h1 h2 => h1.trans h2) (fun j hj v w h => hF j hj v w (h w (Grows.refl w))) hxF hQ hy
    (fun i o hi hix ho => by
      have := AllOps.get steps (j := i) (o := o) (by rw [List.getElem?_take_of_lt hi]; simpa using ho)
      rw [Nat.zero_add] at this
      exact this hix) (l.length - n) (fun listed a' w' hk hall => ?_) n (Array.replicate l.toArray.size false) a w.drew hrep (Going.start (Grows.refl _))
  · rw [← hsz] at key
    exact key
  · have hle := listed_eq hk hall
    have hdl : (l.drop n).length = l.length - n := by simp
    obtain ⟨V, he, h2, h3⟩ := Going.ends hk hs hall
    have hfin := fin V w' hk.ext h2 h3
    rw [← he] at hfin
    have := wpAny_of_seq (md := .any) (ops := l.toArray) (Q' := Q) (l.drop n) n listed a' w' (fun j => by simp [List.getElem?_drop]) (by rw [hdl, hle]; simpa using hq) hfin
    rwa [hdl] at this
/-- The one that may come late does this. -/
theorem yields_of {o : Oper} {v : Value} (hg : o.guard = none) (h : ∀ w, (execOp (ev a) o).run P w = .ok (.value v) w) : Yields P ops o v a := .inl ⟨by simp [Region.wanted, hg], h⟩
end
end Go.Kp

