import Derived.Test.YtbippecchpaleaaGreatDoorGRat3
import Derived.Test.YtbippecchpaleaaGreatDoorGRat1
import Derived.Lib.CutLaws
/- Which texts are whole numbers', numbers', fractions'; what big.Parse and nat.Parse answer of any text. -/
namespace Go.Num
open Go Go.RowKit Go.Kp Go.Proofs.YtbippecchpaleaaGreatDoor
theorem dtz_full : ∀ (D : List Nat) (h : D ≠ []), D.getLast h ≠ 0 → dtz D = D
  | [], h, _ => absurd rfl h
  | [x], _, hx => by
    have hx' : x ≠ 0 := by simpa using hx
    rw [dtz_cons]; simp [dtz, hx']
  | x :: y :: l, _, hx => by
    have ih := dtz_full (y :: l) (by simp) (by simpa using hx)
    rw [dtz_cons, ih]; simp
theorem dig_byte {c : UInt8} (h : isDig c = true) : byteOf (c.toNat - 48) = c ∧ c.toNat - 48 < 10 := by
  obtain ⟨h1, h2⟩ := (isDig_iff c).1 h
  refine ⟨?_, by omega⟩
  unfold byteOf
  rw [show 48 + (c.toNat - 48) = c.toNat by omega]
  simp
theorem dec_tval {l : List UInt8} (h : goodText l = true) : dec (tval 0 l) = l := by
  unfold goodText at h
  simp only [Bool.and_eq_true, Bool.or_eq_true] at h
  obtain ⟨⟨h1, h2⟩, h3⟩ := h
  have hall : ∀ c ∈ l, isDig c = true := List.all_eq_true.1 h2
  have hne : l ≠ [] := by intro e; rw [e] at h1; simp at h1
  have hD : ((l.map fun c => c.toNat - 48).reverse.map byteOf).reverse = l := by
    rw [List.map_reverse, List.reverse_reverse, List.map_map]
    conv => rhs; rw [← List.map_id l]
    exact List.map_congr_left fun c hc => (dig_byte (hall c hc)).1
  have hdig : Dig (l.map fun c => c.toNat - 48).reverse := by
    intro x hx
    obtain ⟨c, hc, rfl⟩ := List.mem_map.1 (List.mem_reverse.1 hx)
    exact (dig_byte (hall c hc)).2
  have ht : tval 0 l = dval (l.map fun c => c.toNat - 48).reverse := by rw [← tval_rev _ hdig, hD]
  by_cases h48 : l = [48]
  · subst h48; rfl
  · have hh : l.head? ≠ some 48 := by
      rcases h3 with h3 | h3
      · simpa using h3
      · exact absurd (by simpa using h3) h48
    have hf : dtz (l.map fun c => c.toNat - 48).reverse = (l.map fun c => c.toNat - 48).reverse := by
      refine dtz_full _ (by simpa using hne) ?_
      rw [List.getLast_reverse]
      cases l with
      | nil => exact absurd rfl hne
      | cons c t =>
        have hc := (isDig_iff c).1 (hall c (by simp))
        simp only [List.map_cons, List.head_cons]
        intro e
        refine hh ?_
        have : c.toNat = 48 := by omega
        simp only [List.head?_cons]
        exact congrArg some (UInt8.toNat_inj.1 this)
    have hn0 : tval 0 l ≠ 0 := by
      rw [ht]
      intro e
      have := (dtz_nil_iff _).2 e
      rw [hf] at this
      exact hne (by simpa using this)
    unfold dec
    rw [if_neg hn0]
    unfold decs
    rw [ht, vdig_dval hdig, hf]
    exact hD
theorem dec_all (n : Nat) : (dec n).all isDig = true := by
  have h := goodText_dec n
  unfold goodText at h
  simp only [Bool.and_eq_true] at h
  exact h.1.2
theorem dec_no (n : Nat) : (47 : UInt8) ∉ dec n := fun h => by
  have := List.all_eq_true.1 (dec_all n) 47 h
  exact absurd this (by decide)
theorem ztext_no (z : Int) : (47 : UInt8) ∉ ztext z := fun h => by
  by_cases hz : z < 0
  · rw [ztext_neg hz] at h
    rcases List.mem_cons.1 h with h | h
    · exact absurd h (by decide)
    · exact dec_no _ h
  · rw [ztext_pos hz] at h
    exact dec_no _ h
theorem dec_sz {n : Nat} (h : (dec n).length ≤ 200) : sz n ≤ 100 := by
  refine sz_le (Nat.lt_of_lt_of_le (show n < 10 ^ 200 from ?_) (by decide))
  unfold dec at h
  split at h
  · rename_i h0; subst h0; decide
  · exact (decs_length_le n 200).1 h
theorem ztext_sz {z : Int} (h : (ztext z).length ≤ 200) : szz z ≤ 100 := by
  by_cases hz : z < 0
  · rw [ztext_neg hz, List.length_cons] at h
    exact dec_sz (by omega)
  · rw [ztext_pos hz] at h
    exact dec_sz h
/-- The text l is z's, or none's. -/
def ReadsZ (l : List UInt8) (z : Int) (t : Bool) : Prop := t = true ∧ l = ztext z ∧ szz z ≤ 100 ∨ t = false ∧ z = 0 ∧ ∀ z', l ≠ ztext z'
def ReadsN (l : List UInt8) (a : Nat) (t : Bool) : Prop := t = true ∧ l = dec a ∧ sz a ≤ 100 ∨ t = false ∧ a = 0 ∧ ∀ a', l ≠ dec a'
def ReadsQ (l : List UInt8) (q : Rat) (t : Bool) : Prop := t = true ∧ l = qtext q ∧ Qsz q 100 ∨ t = false ∧ q = 0 ∧ ∀ q', l ≠ qtext q'
theorem readsZ_any {l : List UInt8} (hl : l.length ≤ 200) : ∃ z t, ReadsZ l z t := by
  by_cases h : ∃ z, l = ztext z
  · obtain ⟨z, rfl⟩ := h
    exact ⟨z, true, .inl ⟨rfl, rfl, ztext_sz hl⟩⟩
  · exact ⟨0, false, .inr ⟨rfl, rfl, fun z e => h ⟨z, e⟩⟩⟩
theorem readsN_any {l : List UInt8} (hl : l.length ≤ 200) : ∃ a t, ReadsN l a t := by
  by_cases h : ∃ a, l = dec a
  · obtain ⟨a, rfl⟩ := h
    exact ⟨a, true, .inl ⟨rfl, rfl, dec_sz hl⟩⟩
  · exact ⟨0, false, .inr ⟨rfl, rfl, fun z e => h ⟨z, e⟩⟩⟩
theorem ReadsZ.sz {l : List UInt8} {z : Int} {t : Bool} (h : ReadsZ l z t) : szz z ≤ 100 := by
  rcases h with ⟨_, _, h⟩ | ⟨_, rfl, _⟩
  · exact h
  · exact Nat.le_trans szz_zero (by decide)
theorem ReadsN.sz {l : List UInt8} {a : Nat} {t : Bool} (h : ReadsN l a t) : Num.sz a ≤ 100 := by
  rcases h with ⟨_, _, h⟩ | ⟨_, rfl, _⟩
  · exact h
  · exact sz_le (by decide)
theorem no_num {l : List UInt8} (h : ∀ z, l ≠ ztext z) : (∃ t, l = 45 :: t ∧ (goodText t = false ∨ goodText t = true ∧ tval 0 t = 0)) ∨ l.head? ≠ some 45 ∧ goodText l = false := by
  by_cases h45 : l.head? = some 45
  · obtain ⟨t, rfl⟩ : ∃ t, l = 45 :: t := by
      cases l with
      | nil => simp at h45
      | cons c t => simp at h45; exact ⟨t, by rw [h45]⟩
    cases hg : goodText t with
    | false => exact .inl ⟨t, rfl, .inl hg⟩
    | true =>
      by_cases h0 : tval 0 t = 0
      · exact .inl ⟨t, rfl, .inr ⟨hg, h0⟩⟩
      · refine absurd ?_ (h (-(tval 0 t : Int)))
        rw [ztext_neg (by omega), Int.natAbs_neg, Int.natAbs_natCast, dec_tval hg]
  · cases hg : goodText l with
    | false => exact .inr ⟨h45, rfl⟩
    | true =>
      refine absurd ?_ (h (tval 0 l : Int))
      rw [ztext_pos (by omega), Int.natAbs_natCast, dec_tval hg]
theorem no_dec {l : List UInt8} (h : ∀ a, l ≠ dec a) : goodText l = false := by
  cases hg : goodText l with
  | false => rfl
  | true => exact absurd (dec_tval hg).symm (h _)
/-! The first slash. -/
theorem idx_no : ∀ {l : List UInt8}, (47 : UInt8) ∉ l → Lib.index l [47] = -1
  | [], _ => rfl
  | b :: l, h => by
    have hb : ((47 : UInt8) == b) = false := by rw [beq_eq_false_iff_ne]; exact fun e => h (by rw [e]; simp)
    have ih := idx_no (l := l) (fun h' => h (by simp [h']))
    unfold Lib.index
    rw [ih]
    simp [List.isPrefixOf, hb]
theorem idx_yes : ∀ {h t : List UInt8}, (47 : UInt8) ∉ h → Lib.index (h ++ 47 :: t) [47] = h.length
  | [], t, _ => by unfold Lib.index; simp [List.isPrefixOf]
  | b :: l, t, h => by
    have hb : ((47 : UInt8) == b) = false := by rw [beq_eq_false_iff_ne]; exact fun e => h (by rw [e]; simp)
    have ih := idx_yes (h := l) (t := t) (fun h' => h (by simp [h']))
    rw [List.cons_append]
    unfold Lib.index
    rw [ih]
    have h2 : ((l.length : Int) == -1) = false := by rw [beq_eq_false_iff_ne]; omega
    simp [List.isPrefixOf, hb, h2]
theorem cut_no {l : List UInt8} (h : (47 : UInt8) ∉ l) : Lib.cut l [47] = (l, [], false) := by
  unfold Lib.cut
  rw [idx_no h, if_neg (by omega)]
theorem cut_yes {h t : List UInt8} (hh : (47 : UInt8) ∉ h) : Lib.cut (h ++ 47 :: t) [47] = (h, t, true) := by
  unfold Lib.cut
  rw [idx_yes hh, if_pos (by omega)]
  simp
theorem slash_or : ∀ (l : List UInt8), (47 : UInt8) ∉ l ∨ ∃ h t, (47 : UInt8) ∉ h ∧ l = h ++ 47 :: t
  | [] => .inl (by simp)
  | b :: l => by
    by_cases hb : b = 47
    · exact .inr ⟨[], l, by simp, by rw [hb]; rfl⟩
    · rcases slash_or l with h | ⟨h, t, hh, rfl⟩
      · exact .inl (by simp [h, Ne.symm hb])
      · exact .inr ⟨b :: h, t, by simp [hh, Ne.symm hb], rfl⟩
theorem slash_inj {h t h' t' : List UInt8} (hh : (47 : UInt8) ∉ h) (hh' : (47 : UInt8) ∉ h') (e : h ++ 47 :: t = h' ++ 47 :: t') : h = h' ∧ t = t' := by
  have e1 := cut_yes (t := t) hh
  have e2 := cut_yes (t := t') hh'
  rw [e] at e1
  rw [e1] at e2
  simp only [Prod.mk.injEq] at e2
  exact ⟨e2.1, e2.2.1⟩
theorem qtext_one {q : Rat} (h : q.den = 1) : qtext q = ztext q.num := by unfold qtext; rw [if_pos h]
theorem qtext_far {q : Rat} (h : ¬ q.den = 1) : qtext q = ztext q.num ++ 47 :: dec q.den := by unfold qtext; rw [if_neg h]
theorem qtext_inj {q r : Rat} (e : qtext q = qtext r) : q = r := by
  by_cases h : q.den = 1
  · by_cases g : r.den = 1
    · rw [qtext_one h, qtext_one g] at e
      exact Rat.ext (ztext_inj e) (h.trans g.symm)
    · rw [qtext_one h, qtext_far g] at e
      exact absurd (show (47 : UInt8) ∈ ztext q.num by rw [e]; simp) (ztext_no _)
  · by_cases g : r.den = 1
    · rw [qtext_far h, qtext_one g] at e
      exact absurd (show (47 : UInt8) ∈ ztext r.num by rw [← e]; simp) (ztext_no _)
    · rw [qtext_far h, qtext_far g] at e
      obtain ⟨e1, e2⟩ := slash_inj (ztext_no _) (ztext_no _) e
      exact Rat.ext (ztext_inj e1) (dec_inj e2)
theorem ReadsQ.one {l : List UInt8} {q r : Rat} {t u : Bool} (h : ReadsQ l q t) (g : ReadsQ l r u) : q = r ∧ t = u := by
  rcases h with ⟨rfl, e, _⟩ | ⟨rfl, rfl, e⟩ <;> rcases g with ⟨rfl, e', _⟩ | ⟨rfl, rfl, e'⟩
  · exact ⟨qtext_inj (e.symm.trans e'), rfl⟩
  · exact absurd e (e' _)
  · exact absurd e' (e _)
  · exact ⟨rfl, rfl⟩
theorem ReadsQ.sz {l : List UInt8} {q : Rat} {t : Bool} (h : ReadsQ l q t) : Qsz q 100 := by
  rcases h with ⟨_, _, h⟩ | ⟨_, rfl, _⟩
  · exact h
  · exact Qsz.zero.mono (by decide)
/-- A text that is its number's. -/
theorem reads_yes {l : List UInt8} {z : Int} {a : Nat} (hz : szz z ≤ 100) (ha : sz a ≤ 100) (e : qtext (mkRat z (dn a)) = l) : ReadsQ l (mkRat z (dn a)) true := by
  refine .inl ⟨rfl, e.symm, mkRat_sz (dn_ne a) hz ?_⟩
  unfold dn
  split
  · exact sz_le (by decide)
  · exact ha
/-- No slash, and not read so: no fraction's. -/
theorem reads_no1 {l : List UInt8} {z : Int} {t : Bool} (h : ReadsZ l z t) (hs : (47 : UInt8) ∉ l) (hn : t = true → qtext (mkRat z (dn 1)) ≠ l) : ReadsQ l 0 false := by
  refine .inr ⟨rfl, rfl, fun q e => ?_⟩
  by_cases hd : q.den = 1
  · rw [qtext_one hd] at e
    rcases h with ⟨ht, e', _⟩ | ⟨_, _, h⟩
    · have hz : z = q.num := ztext_inj (e'.symm.trans e)
      refine hn ht ?_
      have hq : mkRat z (dn 1) = q := by
        rw [hz, show dn 1 = q.den by rw [hd]; rfl, Rat.mkRat_self]
      rw [hq, qtext_one hd, e]
    · exact h _ e
  · rw [qtext_far hd] at e
    exact hs (by rw [e]; simp)
theorem reads_no2 {h t : List UInt8} {z : Int} {a : Nat} {u v : Bool} (hz : ReadsZ h z u) (ha : ReadsN t a v) (hs : (47 : UInt8) ∉ h) (hn : u = true → v = true → qtext (mkRat z (dn a)) ≠ h ++ 47 :: t) : ReadsQ (h ++ 47 :: t) 0 false := by
  refine .inr ⟨rfl, rfl, fun q e => ?_⟩
  by_cases hd : q.den = 1
  · rw [qtext_one hd] at e
    exact ztext_no q.num (by rw [← e]; simp)
  · rw [qtext_far hd] at e
    obtain ⟨e1, e2⟩ := slash_inj hs (ztext_no _) e
    rcases hz with ⟨hu, e', _⟩ | ⟨_, _, h'⟩
    · rcases ha with ⟨hv, e3, _⟩ | ⟨_, _, h'⟩
      · have h1 : z = q.num := ztext_inj (e'.symm.trans e1)
        have h2 : a = q.den := dec_inj (e3.symm.trans e2)
        refine hn hu hv ?_
        have hq : mkRat z (dn a) = q := by
          rw [h1, h2, dn_of_pos q.den_pos, Rat.mkRat_self]
        rw [hq, qtext_far hd, e1, e2]
      · exact h' _ e2
    · exact h' _ e1
end Go.Num
namespace Go.Proofs.YtbippecchpaleaaGreatDoor
open Go.RowKit Go.Num Go.Kp
theorem bparse_any_v (w : World) {l : List UInt8} {z : Int} {t : Bool} {s : ByteArray} (h : ReadsZ l z t) (hl : l.length ≤ 900000) (e : ByteArray.mk l.toArray = s) : Calls Tryz.prog 87 #[.string s] w fun e w' => ∃ r, e = .returned r ∧ (∃ u0, r = .tuple #[u0, .bool t] ∧ ZV w' u0 z) ∧ Grows w w' := by
  rcases h with ⟨rfl, h, hs⟩ | ⟨rfl, rfl, h⟩
  · exact parse_v w (h ▸ e) (Nat.le_trans hs (by decide))
  · exact parse_no_v w l hl (no_num h) e
theorem nparse_any_v (w : World) {l : List UInt8} {a : Nat} {t : Bool} {s : ByteArray} (h : ReadsN l a t) (hl : l.length ≤ 900000) (e : ByteArray.mk l.toArray = s) : Calls Tryz.prog 89 #[.string s] w fun e w' => ∃ r, e = .returned r ∧ (∃ u0, r = .tuple #[u0, .bool t] ∧ LV w' u0 (limbs a) a) ∧ Grows w w' := by
  subst e
  rcases h with ⟨rfl, h, hs⟩ | ⟨rfl, rfl, h⟩
  · refine (parse_yes w l (h ▸ goodText_dec a) hl).mono ?_
    rintro e w1 ⟨v, rfl, g⟩
    exact ⟨_, rfl, ⟨_, rfl, by rw [h, tval_dec] at g; exact g.lv (Nat.le_trans hs (by decide))⟩, g.below⟩
  · refine (parse_no w l (no_dec h) hl).mono ?_
    rintro e w1 ⟨rfl, g⟩
    exact ⟨_, rfl, ⟨_, rfl, ⟨none, 0, by rw [limbs_zero]; rfl, (Sound.nil_ w1 0).num⟩⟩, g⟩
end Go.Proofs.YtbippecchpaleaaGreatDoor
/- Fractions by their rows: right or not; alike, limb by limb. -/
namespace Go.Num
open Go Go.RowKit Go.Kp
/-- The fraction that rows make. -/
def lrat (n : Bool) (l m : List Nat) : Rat := mkRat (sg n (val l)) (dn (val m))
/-- The value's rows are l and m. -/
def QL (w : World) (v : Value) (n : Bool) (l m : List Nat) : Prop := ∃ A c B d, v = .agg #[.bool n, .slice A l.length c, .slice B m.length d] ∧ Num w (.slice A l.length c) l (val l) ∧ Num w (.slice B m.length d) m (val m) ∧ l.length ≤ 1000 ∧ m.length ≤ 1000
section
variable {w w' : World} {v : Value} {n : Bool} {l m : List Nat} {q : Rat}
theorem QL.grow (h : QL w v n l m) (hb : Grows w w') : QL w' v n l m := by
  obtain ⟨A, c, B, d, e, h1, h2, h3⟩ := h
  exact ⟨A, c, B, d, e, h1.below hb, h2.below hb, h3⟩
theorem QL.qv (h : QL w v n l m) : QV w v (lrat n l m) := by
  obtain ⟨A, c, B, d, e, h1, h2, h3, h4⟩ := h
  exact ⟨n, A, _, c, B, _, d, e, _, m, _, ⟨l, _, h1, h3, rfl⟩, h2, h4, rfl⟩
theorem RV.ql (h : RV w v q) : QL w v (decide (q.num < 0)) (limbs q.num.natAbs) (limbs q.den) := by
  obtain ⟨n, A, k, c, B, j, d, e, h1, h2, h3⟩ := h
  obtain ⟨A', c', e1, _, _⟩ := h1.num.arg.open_
  obtain ⟨B', d', e2, _, _⟩ := h2.arg.open_
  simp only [Value.slice.injEq] at e1 e2
  obtain ⟨rfl, rfl, rfl⟩ := e1
  obtain ⟨rfl, rfl, rfl⟩ := e2
  obtain rfl := h1.sign
  exact ⟨_, _, _, _, e, by rw [val_limbs]; exact h1.num, by rw [val_limbs]; exact h2, h1.short, h3⟩
end
theorem QL.zero (w : World) : QL w (.agg #[.bool false, .slice none 0 0, .slice none 0 0]) false [] [] :=
  have h : Num w (.slice none 0 0) [] 0 := by have h := (Sound.nil_ w 0).num; rwa [show (0 : Int).natAbs = 0 from rfl, limbs_zero] at h
  ⟨none, 0, none, 0, rfl, h, h, by decide, by decide⟩
theorem QV.zero (w : World) : QV w (.agg #[.bool false, .slice none 0 0, .slice none 0 0]) 0 := (QL.zero w).qv
theorem lim_eq : ∀ {l l' : List Nat}, Lim l → Lim l' → l.length = l'.length → val l = val l' → l = l'
  | [], [], _, _, _, _ => rfl
  | x :: l, y :: l', h, h', hn, hv => by
    have hx := h x (by simp)
    have hy := h' y (by simp)
    rw [val_cons, val_cons] at hv
    obtain rfl : x = y := by omega
    rw [lim_eq (l := l) (l' := l') (fun z hz => h z (by simp [hz])) (fun z hz => h' z (by simp [hz])) (by simpa using hn) (by omega)]
theorem lim_alike {l l' : List Nat} (h : Lim l) (h' : Lim l') : (decide (l.length = l'.length) && decide (val l = val l')) = decide (l = l') := by
  by_cases e : l = l'
  · subst e; simp
  · rw [decide_eq_false e]
    by_cases e1 : l.length = l'.length
    · rw [decide_eq_false (fun e2 => e (lim_eq h h' e1 e2))]; simp
    · rw [decide_eq_false e1]; rfl
/-- Are the rows right? -/
def lright (n : Bool) (l m : List Nat) : Bool := (n == decide ((lrat n l m).num < 0)) && decide (l = limbs (lrat n l m).num.natAbs) && decide (m = limbs (lrat n l m).den)
/-- Are the rows alike? -/
def lsame (n : Bool) (l m : List Nat) (n' : Bool) (l' m' : List Nat) : Bool := (n == n') && decide (l = l') && decide (m = m')
theorem lsame_rat (q r : Rat) : lsame (decide (q.num < 0)) (limbs q.num.natAbs) (limbs q.den) (decide (r.num < 0)) (limbs r.num.natAbs) (limbs r.den) = decide (q = r) := by
  by_cases e : q = r
  · subst e; simp [lsame]
  · rw [decide_eq_false e]
    unfold lsame
    by_cases h1 : decide (q.num < 0) = decide (r.num < 0)
    · by_cases h2 : limbs q.num.natAbs = limbs r.num.natAbs
      · by_cases h3 : limbs q.den = limbs r.den
        · refine absurd (Rat.ext ?_ (limbs_inj h3)) e
          have h4 := limbs_inj h2
          rw [← sg_own q.num, ← sg_own r.num, h1, h4]
        · rw [decide_eq_false h3, Bool.and_false]
      · rw [decide_eq_false h2, Bool.and_false, Bool.false_and]
    · rw [beq_eq_false_iff_ne.2 h1]; rfl
end Go.Num
/- rat.Right: what it returns. -/
namespace Go.Proofs.YtbippecchpaleaaGreatDoor
open Go.RowKit Go.Num Go.Kp
attribute [local go_sem] Oper.semAt_some u64_mask ev_const ev_func ev_global
set_option maxHeartbeats 4000000 in
set_option maxRecDepth 100000 in
theorem alike_v (w : World) {u v : Value} {l l' : List Nat} {a b : Nat} {t : Bool} (h0 : LV w u l a) (h1 : LV w v l' b) (hl : l.length ≤ 1000) (hl' : l'.length ≤ 1000) (ht : (decide (l.length = l'.length) && decide (a = b)) = t) : Calls Tryz.prog 57 #[u, v] w fun e w' => ∃ r, e = .returned r ∧ r = .bool t ∧ Grows w w' := by
  obtain ⟨A0, c0, rfl, q0⟩ := h0
  obtain ⟨A1, c1, rfl, q1⟩ := h1
  go_enter Tryz.func57, Tryz.ntmps57
  go_upto_region 1 with fail
  have HB := Below.refl w.heap.size w
  have z0 : w.heap.size = w.heap.size := rfl
  clear z0
  replace HB := Lib.hid HB
  have Q0 := Lib.hid (q0.below HB.out)
  have Q1 := Lib.hid (q1.below HB.out)
  clear q0 q1
  have hl4 : (l.length : Int) < 4611686018427387904 := by omega
  have hl5 : (l'.length : Int) < 4611686018427387904 := by omega
  rcases Decidable.em (l.length = l'.length) with he | he
  · skip
    have ht1 : decide (a = b) = t := by rw [← ht, decide_eq_true he]; simp
    obtain ⟨k, hkc⟩ : ∃ k, cmpN a b = k := ⟨_, rfl⟩
    have hkt : (k == 0) = t := by rw [← hkc, cmpN_zero]; exact ht1
    replace hkc := Lib.hid hkc
    refine wp_region_calm 11 [] ([fun vq _ => vq = .slice A0 l.length c0,
        fun vq _ => vq = .int .i64 (l.length : Nat),
        fun vq _ => vq = .slice A1 l'.length c1,
        fun vq _ => vq = .int .i64 (l'.length : Nat),
        fun vq _ => vq = .bool true,
        fun vq _ => vq = .bool true,
        fun vq _ => vq = .slice A0 l.length c0,
        fun vq _ => vq = .slice A1 l'.length c1,
        fun vq _ => vq = .int .i64 k,
        fun vq _ => vq = .bool t,
        fun vq _ => vq = .bool t]) (by kernel_rfl) (by decide) ?_ ?_ ?_
    · intro j hj; cases hj
    · refine po rfl (fun lq aq wq hk hr K hK => ?_) ?_
      · have B0 : ev aq (.tmp 0) = .slice A0 l.length c0 := hk.base 0 (by kernel_rfl) rfl
        exact vc hK (by go_simp) (fun w2 h2 => rfl)
      refine po rfl (fun lq aq wq hk hr K hK => ?_) ?_
      · have E0 : ev aq (.tmp 5) = .slice A0 l.length c0 := hk.dc hr 0 (by kernel_rfl) fun _ _ h => h
        exact vc hK (by go_simp) (fun w2 h2 => rfl)
      refine po rfl (fun lq aq wq hk hr K hK => ?_) ?_
      · have B1 : ev aq (.tmp 1) = .slice A1 l'.length c1 := hk.base 1 (by kernel_rfl) rfl
        exact vc hK (by go_simp) (fun w2 h2 => rfl)
      refine po rfl (fun lq aq wq hk hr K hK => ?_) ?_
      · have E2 : ev aq (.tmp 7) = .slice A1 l'.length c1 := hk.dc hr 2 (by kernel_rfl) fun _ _ h => h
        exact vc hK (by go_simp) (fun w2 h2 => rfl)
      refine po rfl (fun lq aq wq hk hr K hK => ?_) ?_
      · have E1 : ev aq (.tmp 6) = .int .i64 (l.length : Nat) := hk.dc hr 1 (by kernel_rfl) fun _ _ h => h
        have E3 : ev aq (.tmp 8) = .int .i64 (l'.length : Nat) := hk.dc hr 3 (by kernel_rfl) fun _ _ h => h
        exact vc hK (by first | (go_simp; done) | (go_simp; omega)) (fun w2 h2 => rfl)
      refine po rfl (fun lq aq wq hk hr K hK => ?_) ?_
      · have E4 : ev aq (.tmp 9) = .bool true := hk.dc hr 4 (by kernel_rfl) fun _ _ h => h
        exact vc hK (by go_simp) (fun w2 h2 => rfl)
      refine pl 5 10 true rfl (by kernel_rfl) (fun _ _ h => h) (fun lq aq wq hk hr K hK => ?_) ?_
      · have B0 : ev aq (.tmp 0) = .slice A0 l.length c0 := hk.base 0 (by kernel_rfl) rfl
        exact vc hK (by go_simp) (fun w2 h2 => rfl)
      refine pl 5 10 true rfl (by kernel_rfl) (fun _ _ h => h) (fun lq aq wq hk hr K hK => ?_) ?_
      · have B1 : ev aq (.tmp 1) = .slice A1 l'.length c1 := hk.base 1 (by kernel_rfl) rfl
        exact vc hK (by go_simp) (fun w2 h2 => rfl)
      refine pl 5 10 true rfl (by kernel_rfl) (fun _ _ h => h) (fun lq aq wq hk hr K hK => ?_) ?_
      · have E6 : ev aq (.tmp 11) = .slice A0 l.length c0 := hk.dc hr 6 (by kernel_rfl) fun _ _ h => h
        have E7 : ev aq (.tmp 12) = .slice A1 l'.length c1 := hk.dc hr 7 (by kernel_rfl) fun _ _ h => h
        exact yc hK (by go_simp) (ncmp_v wq (Q0.out.below hk.ext).lv (Q1.out.below hk.ext).lv hkc.out) (fun u w1 hu w2 h2 => hu)
      refine pl 5 10 true rfl (by kernel_rfl) (fun _ _ h => h) (fun lq aq wq hk hr K hK => ?_) ?_
      · have E8 : ev aq (.tmp 13) = .int .i64 k := hk.dc hr 8 (by kernel_rfl) fun _ _ h => h
        exact vc hK (by go_simp) (fun w2 h2 => rfl)
      refine po rfl (fun lq aq wq hk hr K hK => ?_) ?_
      · have E5 : ev aq (.tmp 10) = .bool true := hk.dc hr 5 (by kernel_rfl) fun _ _ h => h
        have E9 : ev aq (.tmp 14) = .bool t := hk.dc hr 9 (by kernel_rfl) fun _ _ h => h
        exact vc hK (by go_simp) (fun w2 h2 => rfl)
      exact AllOps.nil
    intro V x1 hG hV hap
    have r5 : (V 5) = .bool true := hV 5 (by decide)
    have r10 : (V 10) = .bool t := hV 10 (by decide)
    clear hV hap
    simp only [List.take_succ_cons, List.take_zero, List.drop_succ_cons, List.drop_zero, putAll, Act.put, List.setIfInBounds_toArray, List.set_cons_zero, List.set_cons_succ]
    have hb := (show Below _ _ _ from hG)
    replace Q0 := Lib.hid (Q0.out.below hb)
    replace Q1 := Lib.hid (Q1.out.below hb)
    replace HB := Lib.hid (HB.out.trans (Below.mono hb HB.out.size))
    clear hb hG
    rw [r10]
    clear r10
    go_wp2_with fail
    go_ret
    exact ⟨_, rfl, rfl, HB.out⟩
  · skip
    have ht1 := Lib.hid (show false = t by rw [← ht, decide_eq_false he]; rfl)
    refine wp_region_calm 11 [] ([fun vq _ => vq = .slice A0 l.length c0,
        fun vq _ => vq = .int .i64 (l.length : Nat),
        fun vq _ => vq = .slice A1 l'.length c1,
        fun vq _ => vq = .int .i64 (l'.length : Nat),
        fun vq _ => vq = .bool false,
        fun vq _ => vq = .bool false,
        fun vq _ => vq = undef,
        fun vq _ => vq = undef,
        fun vq _ => vq = undef,
        fun vq _ => vq = undef,
        fun vq _ => vq = .bool false]) (by kernel_rfl) (by decide) ?_ ?_ ?_
    · intro j hj; cases hj
    · refine po rfl (fun lq aq wq hk hr K hK => ?_) ?_
      · have B0 : ev aq (.tmp 0) = .slice A0 l.length c0 := hk.base 0 (by kernel_rfl) rfl
        exact vc hK (by go_simp) (fun w2 h2 => rfl)
      refine po rfl (fun lq aq wq hk hr K hK => ?_) ?_
      · have E0 : ev aq (.tmp 5) = .slice A0 l.length c0 := hk.dc hr 0 (by kernel_rfl) fun _ _ h => h
        exact vc hK (by go_simp) (fun w2 h2 => rfl)
      refine po rfl (fun lq aq wq hk hr K hK => ?_) ?_
      · have B1 : ev aq (.tmp 1) = .slice A1 l'.length c1 := hk.base 1 (by kernel_rfl) rfl
        exact vc hK (by go_simp) (fun w2 h2 => rfl)
      refine po rfl (fun lq aq wq hk hr K hK => ?_) ?_
      · have E2 : ev aq (.tmp 7) = .slice A1 l'.length c1 := hk.dc hr 2 (by kernel_rfl) fun _ _ h => h
        exact vc hK (by go_simp) (fun w2 h2 => rfl)
      refine po rfl (fun lq aq wq hk hr K hK => ?_) ?_
      · have E1 : ev aq (.tmp 6) = .int .i64 (l.length : Nat) := hk.dc hr 1 (by kernel_rfl) fun _ _ h => h
        have E3 : ev aq (.tmp 8) = .int .i64 (l'.length : Nat) := hk.dc hr 3 (by kernel_rfl) fun _ _ h => h
        exact vc hK (by first | (go_simp; done) | (go_simp; omega)) (fun w2 h2 => rfl)
      refine po rfl (fun lq aq wq hk hr K hK => ?_) ?_
      · have E4 : ev aq (.tmp 9) = .bool false := hk.dc hr 4 (by kernel_rfl) fun _ _ h => h
        exact vc hK (by go_simp) (fun w2 h2 => rfl)
      refine pb 5 10 true false rfl (by kernel_rfl) (fun _ _ h => h) (by decide) (fun _ => rfl) rfl ?_
      refine pb 5 10 true false rfl (by kernel_rfl) (fun _ _ h => h) (by decide) (fun _ => rfl) rfl ?_
      refine pb 5 10 true false rfl (by kernel_rfl) (fun _ _ h => h) (by decide) (fun _ => rfl) rfl ?_
      refine pb 5 10 true false rfl (by kernel_rfl) (fun _ _ h => h) (by decide) (fun _ => rfl) rfl ?_
      refine po rfl (fun lq aq wq hk hr K hK => ?_) ?_
      · have E5 : ev aq (.tmp 10) = .bool false := hk.dc hr 5 (by kernel_rfl) fun _ _ h => h
        exact vc hK (by go_simp) (fun w2 h2 => rfl)
      exact AllOps.nil
    intro V x1 hG hV hap
    have r5 : (V 5) = .bool false := hV 5 (by decide)
    have r10 : (V 10) = .bool false := hV 10 (by decide)
    clear hV hap
    simp only [List.take_succ_cons, List.take_zero, List.drop_succ_cons, List.drop_zero, putAll, Act.put, List.setIfInBounds_toArray, List.set_cons_zero, List.set_cons_succ]
    have hb := (show Below _ _ _ from hG)
    replace Q0 := Lib.hid (Q0.out.below hb)
    replace Q1 := Lib.hid (Q1.out.below hb)
    replace HB := Lib.hid (HB.out.trans (Below.mono hb HB.out.size))
    clear hb hG
    rw [r10]
    clear r10
    go_wp2_with fail
    go_ret
    exact ⟨_, rfl, congrArg Value.bool ht1.out, HB.out⟩
theorem right1_f : ∀ (vs : Array Value) (w1 : World), (callFunc 56 vs).run Tryz.prog w1 = .ok (.enter 56 vs) w1 := run_callFunc_go Tryz.func56 (by kernel_rfl) (by kernel_rfl)
end Go.Proofs.YtbippecchpaleaaGreatDoor
/- rat.Right: what it returns. -/
namespace Go.Proofs.YtbippecchpaleaaGreatDoor
open Go.RowKit Go.Num Go.Kp
attribute [local go_sem] Oper.semAt_some u64_mask ev_const ev_func ev_global
set_option maxHeartbeats 16000000 in
set_option maxRecDepth 100000 in
theorem right1_v (w : World) {u : Value} {q : Rat} {t : Bool} (pa : Nat) (h0 : RV w u q) (n : Bool) (A : Option Addr) (c : Nat) (B : Option Addr) (d : Nat) (l m : List Nat) (Da : Box3 w pa 26 (.bool n) (.slice A l.length c) (.slice B m.length d)) (SNa : Num w (.slice A l.length c) l (val l)) (SDa : Num w (.slice B m.length d) m (val m)) (hla : l.length ≤ 1000) (hma : m.length ≤ 1000) (ht : ((n == decide (q.num < 0)) && decide (l = limbs q.num.natAbs) && decide (m = limbs q.den)) = t) : Calls Tryz.prog 56 #[u, .pointer (some ⟨pa, 0, none⟩)] w fun e w' => ∃ r, e = .returned r ∧ r = .bool t ∧ Grows w w' := by
  have hka : szz (sg n (val l)) ≤ 1000 := by unfold szz; rw [sg_natAbs]; exact Nat.le_trans (sz_num SNa) hla
  have hLl := SNa.lim
  have hLm := SDa.lim
  obtain ⟨n0, A0, k0, c0, B0, j0, d0, rfl, s0, t0, hd0⟩ := h0
  go_enter Tryz.func56, Tryz.ntmps56
  go_upto_region 1 with fail
  obtain ⟨x0, ex0, HB, D0⟩ := st_3 w 26 (.bool n0) (.slice A0 k0 c0) (.slice B0 j0 d0)
  rw [ex0]
  clear ex0
  replace HB := Lib.hid HB
  replace D0 := Lib.hid D0
  have SN0 := Lib.hid (s0.below HB.out)
  clear s0
  have SD0 := Lib.hid (t0.below HB.out)
  clear t0
  have lca := Da.lt
  replace Da := Lib.hid (Da.below HB.out)
  replace SNa := Lib.hid (SNa.below HB.out)
  replace SDa := Lib.hid (SDa.below HB.out)
  have ht' : (n == n0) = true → decide (l = limbs q.num.natAbs) = true → decide (m = limbs q.den) = t := by
    intro e1 e2
    rw [← ht, ← SN0.out.sign, e1, e2]; rfl
  have hta : (n == n0) = true → decide (l = limbs q.num.natAbs) = false → false = t := by
    intro e1 e2
    rw [← ht, ← SN0.out.sign, e1, e2]; rfl
  have htn : (n == n0) = false → false = t := by
    intro e1
    rw [← ht, ← SN0.out.sign, e1]; rfl
  have ha1 := lim_alike hLl (limbs_lim q.num.natAbs)
  have ha2 := lim_alike hLm (limbs_lim q.den)
  rw [val_limbs] at ha1 ha2
  have hs0 := SN0.out.short
  have hsd : (limbs q.den).length ≤ 1000 := hd0
  obtain ⟨t1, ht1⟩ : ∃ t1, decide (l = limbs q.num.natAbs) = t1 := ⟨_, rfl⟩
  obtain ⟨t2, ht2⟩ : ∃ t2, decide (m = limbs q.den) = t2 := ⟨_, rfl⟩
  rw [ht1] at ha1 hta
  rw [ht1, ht2] at ht'
  rw [ht2] at ha2
  replace ha1 := Lib.hid ha1
  replace ha2 := Lib.hid ha2
  clear ht1 ht2
  replace ht' := Lib.hid ht'
  replace hta := Lib.hid hta
  replace htn := Lib.hid htn
  go_upto_region 2 with fail
  rcases hc1 : (n == n0) with _ | _
  · skip
    refine wp_region_calm 25 [] ([fun vq _ => vq = .pointer (some ⟨pa, 0, none⟩),
        fun vq _ => vq = .pointer (some ⟨pa, 0, none⟩),
        fun vq _ => vq = .bool n,
        fun vq _ => vq = .pointer (some ⟨w.heap.size, 0, none⟩),
        fun vq _ => vq = .pointer (some ⟨w.heap.size, 0, none⟩),
        fun vq _ => vq = .bool n0,
        fun vq _ => vq = .bool false,
        fun vq _ => vq = .bool false,
        fun vq _ => vq = undef,
        fun vq _ => vq = undef,
        fun vq _ => vq = undef,
        fun vq _ => vq = undef,
        fun vq _ => vq = undef,
        fun vq _ => vq = undef,
        fun vq _ => vq = undef,
        fun vq _ => vq = undef,
        fun vq _ => vq = .bool false,
        fun vq _ => vq = .bool false,
        fun vq _ => vq = undef,
        fun vq _ => vq = undef,
        fun vq _ => vq = undef,
        fun vq _ => vq = undef,
        fun vq _ => vq = undef,
        fun vq _ => vq = undef,
        fun vq _ => vq = .bool false]) (by kernel_rfl) (by decide) ?_ ?_ ?_
    · intro j hj; cases hj
    · refine po rfl (fun lq aq wq hk hr K hK => ?_) ?_
      · have B1 : ev aq (.tmp 1) = .pointer (some ⟨pa, 0, none⟩) := hk.base 1 (by kernel_rfl) rfl
        exact vc hK (by go_simp) (fun w2 h2 => rfl)
      refine po rfl (fun lq aq wq hk hr K hK => ?_) ?_
      · have E0 : ev aq (.tmp 5) = .pointer (some ⟨pa, 0, none⟩) := hk.dc hr 0 (by kernel_rfl) fun _ _ h => h
        exact vc hK (by go_simp) (fun w2 h2 => rfl)
      refine po rfl (fun lq aq wq hk hr K hK => ?_) ?_
      · have E1 : ev aq (.tmp 6) = .pointer (some ⟨pa, 0, none⟩) := hk.dc hr 1 (by kernel_rfl) fun _ _ h => h
        have hb : Below _ _ _ := hk.ext
        have c0 := (Da.out.below hb).c0
        exact vc hK (by go_simp) (fun w2 h2 => rfl)
      refine po rfl (fun lq aq wq hk hr K hK => ?_) ?_
      · have B2 : ev aq (.tmp 2) = .pointer (some ⟨w.heap.size, 0, none⟩) := hk.base 2 (by kernel_rfl) rfl
        exact vc hK (by go_simp) (fun w2 h2 => rfl)
      refine po rfl (fun lq aq wq hk hr K hK => ?_) ?_
      · have E3 : ev aq (.tmp 8) = .pointer (some ⟨w.heap.size, 0, none⟩) := hk.dc hr 3 (by kernel_rfl) fun _ _ h => h
        exact vc hK (by go_simp) (fun w2 h2 => rfl)
      refine po rfl (fun lq aq wq hk hr K hK => ?_) ?_
      · have E4 : ev aq (.tmp 9) = .pointer (some ⟨w.heap.size, 0, none⟩) := hk.dc hr 4 (by kernel_rfl) fun _ _ h => h
        have hb : Below _ _ _ := hk.ext
        have c0 := (D0.out.below hb).c0
        exact vc hK (by go_simp) (fun w2 h2 => rfl)
      refine po rfl (fun lq aq wq hk hr K hK => ?_) ?_
      · have E2 : ev aq (.tmp 7) = .bool n := hk.dc hr 2 (by kernel_rfl) fun _ _ h => h
        have E5 : ev aq (.tmp 10) = .bool n0 := hk.dc hr 5 (by kernel_rfl) fun _ _ h => h
        exact vc hK (by go_simp) (fun w2 h2 => rfl)
      refine po rfl (fun lq aq wq hk hr K hK => ?_) ?_
      · have E6 : ev aq (.tmp 11) = .bool false := hk.dc hr 6 (by kernel_rfl) fun _ _ h => h
        exact vc hK (by go_simp) (fun w2 h2 => rfl)
      refine pb 7 12 true false rfl (by kernel_rfl) (fun _ _ h => h) (by decide) (fun _ => rfl) rfl ?_
      refine pb 7 12 true false rfl (by kernel_rfl) (fun _ _ h => h) (by decide) (fun _ => rfl) rfl ?_
      refine pb 7 12 true false rfl (by kernel_rfl) (fun _ _ h => h) (by decide) (fun _ => rfl) rfl ?_
      refine pb 7 12 true false rfl (by kernel_rfl) (fun _ _ h => h) (by decide) (fun _ => rfl) rfl ?_
      refine pb 7 12 true false rfl (by kernel_rfl) (fun _ _ h => h) (by decide) (fun _ => rfl) rfl ?_
      refine pb 7 12 true false rfl (by kernel_rfl) (fun _ _ h => h) (by decide) (fun _ => rfl) rfl ?_
      refine pb 7 12 true false rfl (by kernel_rfl) (fun _ _ h => h) (by decide) (fun _ => rfl) rfl ?_
      refine pb 7 12 true false rfl (by kernel_rfl) (fun _ _ h => h) (by decide) (fun _ => rfl) rfl ?_
      refine po rfl (fun lq aq wq hk hr K hK => ?_) ?_
      · have E7 : ev aq (.tmp 12) = .bool false := hk.dc hr 7 (by kernel_rfl) fun _ _ h => h
        exact vc hK (by go_simp) (fun w2 h2 => rfl)
      refine po rfl (fun lq aq wq hk hr K hK => ?_) ?_
      · have E16 : ev aq (.tmp 21) = .bool false := hk.dc hr 16 (by kernel_rfl) fun _ _ h => h
        exact vc hK (by go_simp) (fun w2 h2 => rfl)
      refine pb 17 22 true false rfl (by kernel_rfl) (fun _ _ h => h) (by decide) (fun _ => rfl) rfl ?_
      refine pb 17 22 true false rfl (by kernel_rfl) (fun _ _ h => h) (by decide) (fun _ => rfl) rfl ?_
      refine pb 17 22 true false rfl (by kernel_rfl) (fun _ _ h => h) (by decide) (fun _ => rfl) rfl ?_
      refine pb 17 22 true false rfl (by kernel_rfl) (fun _ _ h => h) (by decide) (fun _ => rfl) rfl ?_
      refine pb 17 22 true false rfl (by kernel_rfl) (fun _ _ h => h) (by decide) (fun _ => rfl) rfl ?_
      refine pb 17 22 true false rfl (by kernel_rfl) (fun _ _ h => h) (by decide) (fun _ => rfl) rfl ?_
      refine po rfl (fun lq aq wq hk hr K hK => ?_) ?_
      · have E17 : ev aq (.tmp 22) = .bool false := hk.dc hr 17 (by kernel_rfl) fun _ _ h => h
        exact vc hK (by go_simp) (fun w2 h2 => rfl)
      exact AllOps.nil
    intro V x1 hG hV hap
    have r19 : (V 19) = undef := hV 19 (by decide)
    have r24 : (V 24) = .bool false := hV 24 (by decide)
    clear hV hap
    simp only [List.take_succ_cons, List.take_zero, List.drop_succ_cons, List.drop_zero, putAll, Act.put, List.setIfInBounds_toArray, List.set_cons_zero, List.set_cons_succ]
    have hb := (show Below _ _ _ from hG)
    replace D0 := Lib.hid (D0.out.below hb)
    replace SN0 := Lib.hid (SN0.out.below hb)
    replace SD0 := Lib.hid (SD0.out.below hb)
    replace Da := Lib.hid (Da.out.below hb)
    replace SNa := Lib.hid (SNa.out.below hb)
    replace SDa := Lib.hid (SDa.out.below hb)
    replace HB := Lib.hid (HB.out.trans (Below.mono hb HB.out.size))
    clear hb hG
    rw [r24]
    clear r24
    go_wp2_with fail
    go_ret
    exact ⟨_, rfl, congrArg Value.bool (htn.out (by first | exact hc1 | trivial)), HB.out⟩
  · skip
    rcases t1 with _ | _
    · skip
      refine wp_region_calm 25 [] ([fun vq _ => vq = .pointer (some ⟨pa, 0, none⟩),
          fun vq _ => vq = .pointer (some ⟨pa, 0, none⟩),
          fun vq _ => vq = .bool n,
          fun vq _ => vq = .pointer (some ⟨w.heap.size, 0, none⟩),
          fun vq _ => vq = .pointer (some ⟨w.heap.size, 0, none⟩),
          fun vq _ => vq = .bool n0,
          fun vq _ => vq = .bool true,
          fun vq _ => vq = .bool true,
          fun vq _ => vq = .func (.func 57) #[] #[],
          fun vq _ => vq = .pointer (some ⟨pa, 0, none⟩),
          fun vq _ => vq = .pointer (some ⟨pa, 1, none⟩),
          fun vq _ => vq = .slice A l.length c,
          fun vq _ => vq = .pointer (some ⟨w.heap.size, 0, none⟩),
          fun vq _ => vq = .pointer (some ⟨w.heap.size, 1, none⟩),
          fun vq _ => vq = .slice A0 k0 c0,
          fun vq _ => vq = .bool false,
          fun vq _ => vq = .bool false,
          fun vq _ => vq = .bool false,
          fun vq _ => vq = undef,
          fun vq _ => vq = undef,
          fun vq _ => vq = undef,
          fun vq _ => vq = undef,
          fun vq _ => vq = undef,
          fun vq _ => vq = undef,
          fun vq _ => vq = .bool false]) (by kernel_rfl) (by decide) ?_ ?_ ?_
      · intro j hj; cases hj
      · refine po rfl (fun lq aq wq hk hr K hK => ?_) ?_
        · have B1 : ev aq (.tmp 1) = .pointer (some ⟨pa, 0, none⟩) := hk.base 1 (by kernel_rfl) rfl
          exact vc hK (by go_simp) (fun w2 h2 => rfl)
        refine po rfl (fun lq aq wq hk hr K hK => ?_) ?_
        · have E0 : ev aq (.tmp 5) = .pointer (some ⟨pa, 0, none⟩) := hk.dc hr 0 (by kernel_rfl) fun _ _ h => h
          exact vc hK (by go_simp) (fun w2 h2 => rfl)
        refine po rfl (fun lq aq wq hk hr K hK => ?_) ?_
        · have E1 : ev aq (.tmp 6) = .pointer (some ⟨pa, 0, none⟩) := hk.dc hr 1 (by kernel_rfl) fun _ _ h => h
          have hb : Below _ _ _ := hk.ext
          have c0 := (Da.out.below hb).c0
          exact vc hK (by go_simp) (fun w2 h2 => rfl)
        refine po rfl (fun lq aq wq hk hr K hK => ?_) ?_
        · have B2 : ev aq (.tmp 2) = .pointer (some ⟨w.heap.size, 0, none⟩) := hk.base 2 (by kernel_rfl) rfl
          exact vc hK (by go_simp) (fun w2 h2 => rfl)
        refine po rfl (fun lq aq wq hk hr K hK => ?_) ?_
        · have E3 : ev aq (.tmp 8) = .pointer (some ⟨w.heap.size, 0, none⟩) := hk.dc hr 3 (by kernel_rfl) fun _ _ h => h
          exact vc hK (by go_simp) (fun w2 h2 => rfl)
        refine po rfl (fun lq aq wq hk hr K hK => ?_) ?_
        · have E4 : ev aq (.tmp 9) = .pointer (some ⟨w.heap.size, 0, none⟩) := hk.dc hr 4 (by kernel_rfl) fun _ _ h => h
          have hb : Below _ _ _ := hk.ext
          have c0 := (D0.out.below hb).c0
          exact vc hK (by go_simp) (fun w2 h2 => rfl)
        refine po rfl (fun lq aq wq hk hr K hK => ?_) ?_
        · have E2 : ev aq (.tmp 7) = .bool n := hk.dc hr 2 (by kernel_rfl) fun _ _ h => h
          have E5 : ev aq (.tmp 10) = .bool n0 := hk.dc hr 5 (by kernel_rfl) fun _ _ h => h
          exact vc hK (by go_simp) (fun w2 h2 => rfl)
        refine po rfl (fun lq aq wq hk hr K hK => ?_) ?_
        · have E6 : ev aq (.tmp 11) = .bool true := hk.dc hr 6 (by kernel_rfl) fun _ _ h => h
          exact vc hK (by go_simp) (fun w2 h2 => rfl)
        refine pl 7 12 true rfl (by kernel_rfl) (fun _ _ h => h) (fun lq aq wq hk hr K hK => ?_) ?_
        · have B4 : ev aq (.tmp 4) = .func (.func 57) #[] #[] := hk.base 4 (by kernel_rfl) rfl
          exact vc hK (by go_simp) (fun w2 h2 => rfl)
        refine pl 7 12 true rfl (by kernel_rfl) (fun _ _ h => h) (fun lq aq wq hk hr K hK => ?_) ?_
        · have B1 : ev aq (.tmp 1) = .pointer (some ⟨pa, 0, none⟩) := hk.base 1 (by kernel_rfl) rfl
          exact vc hK (by go_simp) (fun w2 h2 => rfl)
        refine pl 7 12 true rfl (by kernel_rfl) (fun _ _ h => h) (fun lq aq wq hk hr K hK => ?_) ?_
        · have E9 : ev aq (.tmp 14) = .pointer (some ⟨pa, 0, none⟩) := hk.dc hr 9 (by kernel_rfl) fun _ _ h => h
          exact vc hK (by go_simp) (fun w2 h2 => rfl)
        refine pl 7 12 true rfl (by kernel_rfl) (fun _ _ h => h) (fun lq aq wq hk hr K hK => ?_) ?_
        · have E10 : ev aq (.tmp 15) = .pointer (some ⟨pa, 1, none⟩) := hk.dc hr 10 (by kernel_rfl) fun _ _ h => h
          have hb : Below _ _ _ := hk.ext
          have c1 := (Da.out.below hb).c1
          exact vc hK (by go_simp) (fun w2 h2 => rfl)
        refine pl 7 12 true rfl (by kernel_rfl) (fun _ _ h => h) (fun lq aq wq hk hr K hK => ?_) ?_
        · have B2 : ev aq (.tmp 2) = .pointer (some ⟨w.heap.size, 0, none⟩) := hk.base 2 (by kernel_rfl) rfl
          exact vc hK (by go_simp) (fun w2 h2 => rfl)
        refine pl 7 12 true rfl (by kernel_rfl) (fun _ _ h => h) (fun lq aq wq hk hr K hK => ?_) ?_
        · have E12 : ev aq (.tmp 17) = .pointer (some ⟨w.heap.size, 0, none⟩) := hk.dc hr 12 (by kernel_rfl) fun _ _ h => h
          exact vc hK (by go_simp) (fun w2 h2 => rfl)
        refine pl 7 12 true rfl (by kernel_rfl) (fun _ _ h => h) (fun lq aq wq hk hr K hK => ?_) ?_
        · have E13 : ev aq (.tmp 18) = .pointer (some ⟨w.heap.size, 1, none⟩) := hk.dc hr 13 (by kernel_rfl) fun _ _ h => h
          have hb : Below _ _ _ := hk.ext
          have c1 := (D0.out.below hb).c1
          exact vc hK (by go_simp) (fun w2 h2 => rfl)
        refine pl 7 12 true rfl (by kernel_rfl) (fun _ _ h => h) (fun lq aq wq hk hr K hK => ?_) ?_
        · have E8 : ev aq (.tmp 13) = .func (.func 57) #[] #[] := hk.dc hr 8 (by kernel_rfl) fun _ _ h => h
          have E11 : ev aq (.tmp 16) = .slice A l.length c := hk.dc hr 11 (by kernel_rfl) fun _ _ h => h
          have E14 : ev aq (.tmp 19) = .slice A0 k0 c0 := hk.dc hr 14 (by kernel_rfl) fun _ _ h => h
          exact yc hK (by go_simp) (alike_v wq (SNa.out.below hk.ext).lv (SN0.out.num.below hk.ext).lv hla SN0.out.short ha1.out) (fun u w1 hu w2 h2 => hu)
        refine po rfl (fun lq aq wq hk hr K hK => ?_) ?_
        · have E7 : ev aq (.tmp 12) = .bool true := hk.dc hr 7 (by kernel_rfl) fun _ _ h => h
          have E15 : ev aq (.tmp 20) = .bool false := hk.dc hr 15 (by kernel_rfl) fun _ _ h => h
          exact vc hK (by go_simp) (fun w2 h2 => rfl)
        refine po rfl (fun lq aq wq hk hr K hK => ?_) ?_
        · have E16 : ev aq (.tmp 21) = .bool false := hk.dc hr 16 (by kernel_rfl) fun _ _ h => h
          exact vc hK (by go_simp) (fun w2 h2 => rfl)
        refine pb 17 22 true false rfl (by kernel_rfl) (fun _ _ h => h) (by decide) (fun _ => rfl) rfl ?_
        refine pb 17 22 true false rfl (by kernel_rfl) (fun _ _ h => h) (by decide) (fun _ => rfl) rfl ?_
        refine pb 17 22 true false rfl (by kernel_rfl) (fun _ _ h => h) (by decide) (fun _ => rfl) rfl ?_
        refine pb 17 22 true false rfl (by kernel_rfl) (fun _ _ h => h) (by decide) (fun _ => rfl) rfl ?_
        refine pb 17 22 true false rfl (by kernel_rfl) (fun _ _ h => h) (by decide) (fun _ => rfl) rfl ?_
        refine pb 17 22 true false rfl (by kernel_rfl) (fun _ _ h => h) (by decide) (fun _ => rfl) rfl ?_
        refine po rfl (fun lq aq wq hk hr K hK => ?_) ?_
        · have E17 : ev aq (.tmp 22) = .bool false := hk.dc hr 17 (by kernel_rfl) fun _ _ h => h
          exact vc hK (by go_simp) (fun w2 h2 => rfl)
        exact AllOps.nil
      intro V x1 hG hV hap
      have r19 : (V 19) = undef := hV 19 (by decide)
      have r24 : (V 24) = .bool false := hV 24 (by decide)
      clear hV hap
      simp only [List.take_succ_cons, List.take_zero, List.drop_succ_cons, List.drop_zero, putAll, Act.put, List.setIfInBounds_toArray, List.set_cons_zero, List.set_cons_succ]
      have hb := (show Below _ _ _ from hG)
      replace D0 := Lib.hid (D0.out.below hb)
      replace SN0 := Lib.hid (SN0.out.below hb)
      replace SD0 := Lib.hid (SD0.out.below hb)
      replace Da := Lib.hid (Da.out.below hb)
      replace SNa := Lib.hid (SNa.out.below hb)
      replace SDa := Lib.hid (SDa.out.below hb)
      replace HB := Lib.hid (HB.out.trans (Below.mono hb HB.out.size))
      clear hb hG
      rw [r24]
      clear r24
      go_wp2_with fail
      go_ret
      exact ⟨_, rfl, congrArg Value.bool (hta.out (by first | exact hc1 | trivial) (by first | exact rfl | trivial)), HB.out⟩
    · skip
      refine wp_region_calm 25 [] ([fun vq _ => vq = .pointer (some ⟨pa, 0, none⟩),
          fun vq _ => vq = .pointer (some ⟨pa, 0, none⟩),
          fun vq _ => vq = .bool n,
          fun vq _ => vq = .pointer (some ⟨w.heap.size, 0, none⟩),
          fun vq _ => vq = .pointer (some ⟨w.heap.size, 0, none⟩),
          fun vq _ => vq = .bool n0,
          fun vq _ => vq = .bool true,
          fun vq _ => vq = .bool true,
          fun vq _ => vq = .func (.func 57) #[] #[],
          fun vq _ => vq = .pointer (some ⟨pa, 0, none⟩),
          fun vq _ => vq = .pointer (some ⟨pa, 1, none⟩),
          fun vq _ => vq = .slice A l.length c,
          fun vq _ => vq = .pointer (some ⟨w.heap.size, 0, none⟩),
          fun vq _ => vq = .pointer (some ⟨w.heap.size, 1, none⟩),
          fun vq _ => vq = .slice A0 k0 c0,
          fun vq _ => vq = .bool true,
          fun vq _ => vq = .bool true,
          fun vq _ => vq = .bool true,
          fun vq _ => vq = .func (.func 57) #[] #[],
          fun vq _ => vq = .pointer (some ⟨pa, 2, none⟩),
          fun vq _ => vq = .slice B m.length d,
          fun vq _ => vq = .pointer (some ⟨w.heap.size, 2, none⟩),
          fun vq _ => vq = .slice B0 j0 d0,
          fun vq _ => vq = .bool t2,
          fun vq _ => vq = .bool t2]) (by kernel_rfl) (by decide) ?_ ?_ ?_
      · intro j hj; cases hj
      · refine po rfl (fun lq aq wq hk hr K hK => ?_) ?_
        · have B1 : ev aq (.tmp 1) = .pointer (some ⟨pa, 0, none⟩) := hk.base 1 (by kernel_rfl) rfl
          exact vc hK (by go_simp) (fun w2 h2 => rfl)
        refine po rfl (fun lq aq wq hk hr K hK => ?_) ?_
        · have E0 : ev aq (.tmp 5) = .pointer (some ⟨pa, 0, none⟩) := hk.dc hr 0 (by kernel_rfl) fun _ _ h => h
          exact vc hK (by go_simp) (fun w2 h2 => rfl)
        refine po rfl (fun lq aq wq hk hr K hK => ?_) ?_
        · have E1 : ev aq (.tmp 6) = .pointer (some ⟨pa, 0, none⟩) := hk.dc hr 1 (by kernel_rfl) fun _ _ h => h
          have hb : Below _ _ _ := hk.ext
          have c0 := (Da.out.below hb).c0
          exact vc hK (by go_simp) (fun w2 h2 => rfl)
        refine po rfl (fun lq aq wq hk hr K hK => ?_) ?_
        · have B2 : ev aq (.tmp 2) = .pointer (some ⟨w.heap.size, 0, none⟩) := hk.base 2 (by kernel_rfl) rfl
          exact vc hK (by go_simp) (fun w2 h2 => rfl)
        refine po rfl (fun lq aq wq hk hr K hK => ?_) ?_
        · have E3 : ev aq (.tmp 8) = .pointer (some ⟨w.heap.size, 0, none⟩) := hk.dc hr 3 (by kernel_rfl) fun _ _ h => h
          exact vc hK (by go_simp) (fun w2 h2 => rfl)
        refine po rfl (fun lq aq wq hk hr K hK => ?_) ?_
        · have E4 : ev aq (.tmp 9) = .pointer (some ⟨w.heap.size, 0, none⟩) := hk.dc hr 4 (by kernel_rfl) fun _ _ h => h
          have hb : Below _ _ _ := hk.ext
          have c0 := (D0.out.below hb).c0
          exact vc hK (by go_simp) (fun w2 h2 => rfl)
        refine po rfl (fun lq aq wq hk hr K hK => ?_) ?_
        · have E2 : ev aq (.tmp 7) = .bool n := hk.dc hr 2 (by kernel_rfl) fun _ _ h => h
          have E5 : ev aq (.tmp 10) = .bool n0 := hk.dc hr 5 (by kernel_rfl) fun _ _ h => h
          exact vc hK (by go_simp) (fun w2 h2 => rfl)
        refine po rfl (fun lq aq wq hk hr K hK => ?_) ?_
        · have E6 : ev aq (.tmp 11) = .bool true := hk.dc hr 6 (by kernel_rfl) fun _ _ h => h
          exact vc hK (by go_simp) (fun w2 h2 => rfl)
        refine pl 7 12 true rfl (by kernel_rfl) (fun _ _ h => h) (fun lq aq wq hk hr K hK => ?_) ?_
        · have B4 : ev aq (.tmp 4) = .func (.func 57) #[] #[] := hk.base 4 (by kernel_rfl) rfl
          exact vc hK (by go_simp) (fun w2 h2 => rfl)
        refine pl 7 12 true rfl (by kernel_rfl) (fun _ _ h => h) (fun lq aq wq hk hr K hK => ?_) ?_
        · have B1 : ev aq (.tmp 1) = .pointer (some ⟨pa, 0, none⟩) := hk.base 1 (by kernel_rfl) rfl
          exact vc hK (by go_simp) (fun w2 h2 => rfl)
        refine pl 7 12 true rfl (by kernel_rfl) (fun _ _ h => h) (fun lq aq wq hk hr K hK => ?_) ?_
        · have E9 : ev aq (.tmp 14) = .pointer (some ⟨pa, 0, none⟩) := hk.dc hr 9 (by kernel_rfl) fun _ _ h => h
          exact vc hK (by go_simp) (fun w2 h2 => rfl)
        refine pl 7 12 true rfl (by kernel_rfl) (fun _ _ h => h) (fun lq aq wq hk hr K hK => ?_) ?_
        · have E10 : ev aq (.tmp 15) = .pointer (some ⟨pa, 1, none⟩) := hk.dc hr 10 (by kernel_rfl) fun _ _ h => h
          have hb : Below _ _ _ := hk.ext
          have c1 := (Da.out.below hb).c1
          exact vc hK (by go_simp) (fun w2 h2 => rfl)
        refine pl 7 12 true rfl (by kernel_rfl) (fun _ _ h => h) (fun lq aq wq hk hr K hK => ?_) ?_
        · have B2 : ev aq (.tmp 2) = .pointer (some ⟨w.heap.size, 0, none⟩) := hk.base 2 (by kernel_rfl) rfl
          exact vc hK (by go_simp) (fun w2 h2 => rfl)
        refine pl 7 12 true rfl (by kernel_rfl) (fun _ _ h => h) (fun lq aq wq hk hr K hK => ?_) ?_
        · have E12 : ev aq (.tmp 17) = .pointer (some ⟨w.heap.size, 0, none⟩) := hk.dc hr 12 (by kernel_rfl) fun _ _ h => h
          exact vc hK (by go_simp) (fun w2 h2 => rfl)
        refine pl 7 12 true rfl (by kernel_rfl) (fun _ _ h => h) (fun lq aq wq hk hr K hK => ?_) ?_
        · have E13 : ev aq (.tmp 18) = .pointer (some ⟨w.heap.size, 1, none⟩) := hk.dc hr 13 (by kernel_rfl) fun _ _ h => h
          have hb : Below _ _ _ := hk.ext
          have c1 := (D0.out.below hb).c1
          exact vc hK (by go_simp) (fun w2 h2 => rfl)
        refine pl 7 12 true rfl (by kernel_rfl) (fun _ _ h => h) (fun lq aq wq hk hr K hK => ?_) ?_
        · have E8 : ev aq (.tmp 13) = .func (.func 57) #[] #[] := hk.dc hr 8 (by kernel_rfl) fun _ _ h => h
          have E11 : ev aq (.tmp 16) = .slice A l.length c := hk.dc hr 11 (by kernel_rfl) fun _ _ h => h
          have E14 : ev aq (.tmp 19) = .slice A0 k0 c0 := hk.dc hr 14 (by kernel_rfl) fun _ _ h => h
          exact yc hK (by go_simp) (alike_v wq (SNa.out.below hk.ext).lv (SN0.out.num.below hk.ext).lv hla SN0.out.short ha1.out) (fun u w1 hu w2 h2 => hu)
        refine po rfl (fun lq aq wq hk hr K hK => ?_) ?_
        · have E7 : ev aq (.tmp 12) = .bool true := hk.dc hr 7 (by kernel_rfl) fun _ _ h => h
          have E15 : ev aq (.tmp 20) = .bool true := hk.dc hr 15 (by kernel_rfl) fun _ _ h => h
          exact vc hK (by go_simp) (fun w2 h2 => rfl)
        refine po rfl (fun lq aq wq hk hr K hK => ?_) ?_
        · have E16 : ev aq (.tmp 21) = .bool true := hk.dc hr 16 (by kernel_rfl) fun _ _ h => h
          exact vc hK (by go_simp) (fun w2 h2 => rfl)
        refine pl 17 22 true rfl (by kernel_rfl) (fun _ _ h => h) (fun lq aq wq hk hr K hK => ?_) ?_
        · have B4 : ev aq (.tmp 4) = .func (.func 57) #[] #[] := hk.base 4 (by kernel_rfl) rfl
          exact vc hK (by go_simp) (fun w2 h2 => rfl)
        refine pl 17 22 true rfl (by kernel_rfl) (fun _ _ h => h) (fun lq aq wq hk hr K hK => ?_) ?_
        · have B1 : ev aq (.tmp 1) = .pointer (some ⟨pa, 0, none⟩) := hk.base 1 (by kernel_rfl) rfl
          exact vc hK (by go_simp) (fun w2 h2 => rfl)
        refine pl 17 22 true rfl (by kernel_rfl) (fun _ _ h => h) (fun lq aq wq hk hr K hK => ?_) ?_
        · have E19 : ev aq (.tmp 24) = .pointer (some ⟨pa, 2, none⟩) := hk.dc hr 19 (by kernel_rfl) fun _ _ h => h
          have hb : Below _ _ _ := hk.ext
          have c2 := (Da.out.below hb).c2
          exact vc hK (by go_simp) (fun w2 h2 => rfl)
        refine pl 17 22 true rfl (by kernel_rfl) (fun _ _ h => h) (fun lq aq wq hk hr K hK => ?_) ?_
        · have B2 : ev aq (.tmp 2) = .pointer (some ⟨w.heap.size, 0, none⟩) := hk.base 2 (by kernel_rfl) rfl
          exact vc hK (by go_simp) (fun w2 h2 => rfl)
        refine pl 17 22 true rfl (by kernel_rfl) (fun _ _ h => h) (fun lq aq wq hk hr K hK => ?_) ?_
        · have E21 : ev aq (.tmp 26) = .pointer (some ⟨w.heap.size, 2, none⟩) := hk.dc hr 21 (by kernel_rfl) fun _ _ h => h
          have hb : Below _ _ _ := hk.ext
          have c2 := (D0.out.below hb).c2
          exact vc hK (by go_simp) (fun w2 h2 => rfl)
        refine pl 17 22 true rfl (by kernel_rfl) (fun _ _ h => h) (fun lq aq wq hk hr K hK => ?_) ?_
        · have E18 : ev aq (.tmp 23) = .func (.func 57) #[] #[] := hk.dc hr 18 (by kernel_rfl) fun _ _ h => h
          have E20 : ev aq (.tmp 25) = .slice B m.length d := hk.dc hr 20 (by kernel_rfl) fun _ _ h => h
          have E22 : ev aq (.tmp 27) = .slice B0 j0 d0 := hk.dc hr 22 (by kernel_rfl) fun _ _ h => h
          exact yc hK (by go_simp) (alike_v wq (SDa.out.below hk.ext).lv (SD0.out.below hk.ext).lv hma hd0 ha2.out) (fun u w1 hu w2 h2 => hu)
        refine po rfl (fun lq aq wq hk hr K hK => ?_) ?_
        · have E17 : ev aq (.tmp 22) = .bool true := hk.dc hr 17 (by kernel_rfl) fun _ _ h => h
          have E23 : ev aq (.tmp 28) = .bool t2 := hk.dc hr 23 (by kernel_rfl) fun _ _ h => h
          exact vc hK (by go_simp) (fun w2 h2 => rfl)
        exact AllOps.nil
      intro V x1 hG hV hap
      have r19 : (V 19) = .pointer (some ⟨pa, 2, none⟩) := hV 19 (by decide)
      have r24 : (V 24) = .bool t2 := hV 24 (by decide)
      clear hV hap
      simp only [List.take_succ_cons, List.take_zero, List.drop_succ_cons, List.drop_zero, putAll, Act.put, List.setIfInBounds_toArray, List.set_cons_zero, List.set_cons_succ]
      have hb := (show Below _ _ _ from hG)
      replace D0 := Lib.hid (D0.out.below hb)
      replace SN0 := Lib.hid (SN0.out.below hb)
      replace SD0 := Lib.hid (SD0.out.below hb)
      replace Da := Lib.hid (Da.out.below hb)
      replace SNa := Lib.hid (SNa.out.below hb)
      replace SDa := Lib.hid (SDa.out.below hb)
      replace HB := Lib.hid (HB.out.trans (Below.mono hb HB.out.size))
      clear hb hG
      rw [r24]
      clear r24
      go_wp2_with fail
      go_ret
      exact ⟨_, rfl, congrArg Value.bool (ht'.out (by first | exact hc1 | trivial) (by first | exact rfl | trivial)), HB.out⟩
set_option maxHeartbeats 16000000 in
set_option maxRecDepth 100000 in
theorem qright_v (w : World) {u : Value} {n : Bool} {l m : List Nat} {t : Bool} (h0 : QL w u n l m) (ht : lright n l m = t) : Calls Tryz.prog 18 #[u] w fun e w' => ∃ r, e = .returned r ∧ r = .bool t ∧ Grows w w' := by
  obtain ⟨A0, c0, B0, d0, rfl, s0, t0, hl0, hm0⟩ := h0
  have hk0 : szz (sg n (val l)) ≤ 1000 := by unfold szz; rw [sg_natAbs]; exact Nat.le_trans (sz_num s0) hl0
  go_enter Tryz.func18, Tryz.ntmps18
  go_upto_region 1 with fail
  obtain ⟨x0, ex0, HB, D0⟩ := st_3 w 26 (.bool n) (.slice A0 l.length c0) (.slice B0 m.length d0)
  rw [ex0]
  clear ex0
  replace HB := Lib.hid HB
  replace D0 := Lib.hid D0
  have SN0 := Lib.hid (s0.below HB.out)
  clear s0
  have SD0 := Lib.hid (t0.below HB.out)
  clear t0
  refine wp_region_calm 3 [] ([fun vq wq => QL wq vq n l m,
      fun vq _ => vq = .func (.func 56) #[] #[.pointer (some ⟨w.heap.size, 0, none⟩)],
      fun vq _ => vq = .bool t]) (by kernel_rfl) (by decide) ?_ ?_ ?_
  · intro j hj; cases hj
  · refine po rfl (fun lq aq wq hk hr K hK => ?_) ?_
    · have B1 : ev aq (.tmp 1) = .pointer (some ⟨w.heap.size, 0, none⟩) := hk.base 1 (by kernel_rfl) rfl
      have hb : Below _ _ _ := hk.ext
      exact vc hK (op_load3 1 _ B1 (D0.out.below hb)) (fun w2 h2 => QL.grow ⟨_, _, _, _, rfl, (SN0.out.below hb), (SD0.out.below hb), hl0, hm0⟩ h2)
    refine po rfl (fun lq aq wq hk hr K hK => ?_) ?_
    · have B1 : ev aq (.tmp 1) = .pointer (some ⟨w.heap.size, 0, none⟩) := hk.base 1 (by kernel_rfl) rfl
      exact vc hK (by go_simp) (fun w2 h2 => rfl)
    refine po rfl (fun lq aq wq hk hr K hK => ?_) ?_
    · obtain ⟨v0, E0, r0⟩ := hk.dp hr 0 3 (by kernel_rfl)
      have r0 : QL wq v0 n l m := r0
      have E1 : ev aq (.tmp 4) = .func (.func 56) #[] #[.pointer (some ⟨w.heap.size, 0, none⟩)] := hk.dc hr 1 (by kernel_rfl) fun _ _ h => h
      exact yc hK (f := 55) (vs := #[v0, .func (.func 56) #[] #[.pointer (some ⟨w.heap.size, 0, none⟩)]]) (by go_simp) (withB_v wq t _ _ (r0).qv right1_f (fun w9 u9 hw9 hu9 => right1_v w9 w.heap.size hu9 _ _ _ _ _ _ _ (D0.out.below (Below.trans hk.ext (Below.mono hw9 hk.ext.size))) (SN0.out.below (Below.trans hk.ext (Below.mono hw9 hk.ext.size))) (SD0.out.below (Below.trans hk.ext (Below.mono hw9 hk.ext.size))) hl0 hm0 ht)) (fun u w1 hu w2 h2 => hu)
    exact AllOps.nil
  intro V x1 hG hV hap
  have r2 : (V 2) = .bool t := hV 2 (by decide)
  clear hV hap
  simp only [List.take_succ_cons, List.take_zero, List.drop_succ_cons, List.drop_zero, putAll, Act.put, List.setIfInBounds_toArray, List.set_cons_zero, List.set_cons_succ]
  have hb := (show Below _ _ _ from hG)
  replace D0 := Lib.hid (D0.out.below hb)
  replace SN0 := Lib.hid (SN0.out.below hb)
  replace SD0 := Lib.hid (SD0.out.below hb)
  replace HB := Lib.hid (HB.out.trans (Below.mono hb HB.out.size))
  clear hb hG
  rw [r2]
  clear r2
  go_wp2_with fail
  go_ret
  exact ⟨_, rfl, rfl, HB.out⟩
end Go.Proofs.YtbippecchpaleaaGreatDoor
