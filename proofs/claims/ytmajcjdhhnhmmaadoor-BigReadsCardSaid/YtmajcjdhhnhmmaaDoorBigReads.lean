import Derived.Test.YtmajcjdhhnhmmaaDoorBox4
import Derived.Test.YtmajcjdhhnhmmaaDoorBigTextsL
import Derived.Test.YtmajcjdhhnhmmaaDoorRefZ4
import Derived.Test.YtmajcjdhhnhmmaaDoorBigWorks
/- litmuslaw02.BigReads returns true. -/
namespace Go.Proofs.YtmajcjdhhnhmmaaDoor
open Go.RowKit Go.Num Go.Kp
attribute [local go_sem] Oper.semAt_some u64_mask ev_const ev_func ev_global
/-- Texts that are no numbers'; a number's. -/
def NoNum (l : List UInt8) : Prop := (∃ t, l = 45 :: t ∧ (goodText t = false ∨ goodText t = true ∧ tval 0 t = 0)) ∨ l.head? ≠ some 45 ∧ goodText l = false
def IsNum (l : List UInt8) (z : Int) : Prop := (∃ t, l = 45 :: t ∧ goodText t = true ∧ tval 0 t ≠ 0 ∧ z = -(tval 0 t : Int)) ∨ l.head? ≠ some 45 ∧ goodText l = true ∧ z = (tval 0 l : Int)
theorem num_or (l : List UInt8) : NoNum l ∨ ∃ z, IsNum l z := by
  by_cases h : l.head? = some 45
  · obtain ⟨t, rfl⟩ : ∃ t, l = 45 :: t := by
      cases l with
      | nil => simp at h
      | cons c t => simp at h; exact ⟨t, by rw [h]⟩
    cases hg : goodText t with
    | false => exact .inl (.inl ⟨t, rfl, .inl hg⟩)
    | true =>
      by_cases h0 : tval 0 t = 0
      · exact .inl (.inl ⟨t, rfl, .inr ⟨hg, h0⟩⟩)
      · exact .inr ⟨_, .inl ⟨t, rfl, hg, h0, rfl⟩⟩
  · cases hg : goodText l with
    | false => exact .inl (.inr ⟨h, hg⟩)
    | true => exact .inr ⟨_, .inr ⟨h, hg, rfl⟩⟩
theorem tval_sz {u : List UInt8} (h : goodText u = true) (hl : u.length ≤ 200) : sz (tval 0 u) ≤ 100 := by
  have hall : u.all isDig = true := by
    unfold goodText at h
    simp only [Bool.and_eq_true] at h
    exact h.1.2
  have h1 := tval_bound 0 u hall
  refine sz_le (Nat.lt_of_lt_of_le h1 ?_)
  rw [Nat.zero_add, Nat.one_mul]
  exact Nat.le_trans (Nat.pow_le_pow_right (by decide) hl) (by decide)
theorem IsNum.szz {l : List UInt8} {z : Int} (h : IsNum l z) (hl : l.length ≤ 200) : szz z ≤ 100 := by
  rcases h with ⟨t, rfl, hg, _, rfl⟩ | ⟨_, hg, rfl⟩
  · unfold Num.szz; rw [Int.natAbs_neg]; exact tval_sz hg (by simp at hl; omega)
  · exact tval_sz hg hl
theorem bparse_yes_v (w : World) (l : List UInt8) {z : Int} (h : IsNum l z) (hl : l.length ≤ 200) {s : ByteArray} (e : ByteArray.mk l.toArray = s) : Calls Tryd.prog 23 #[.string s] w fun e w' => ∃ r, e = .returned r ∧ (∃ u0, r = .tuple #[u0, .bool true] ∧ ZV w' u0 z) ∧ Grows w w' := by
  subst e
  have hz := Nat.le_trans (h.szz hl) (show 100 ≤ 1000 by decide)
  rcases h with ⟨t, rfl, hg, h0, rfl⟩ | ⟨hh, hg, rfl⟩
  · refine (parse_neg_yes w t hg h0 (by simp at hl; omega) (Nat.le_trans (tval_sz hg (by simp at hl; omega)) (by decide))).mono ?_
    rintro e w1 ⟨n, m, rfl, g⟩
    exact ⟨_, rfl, ⟨_, rfl, g.zv hz⟩, g.below⟩
  · refine (parse_pos_yes w l hh hg (by omega) (Nat.le_trans (tval_sz hg hl) (by decide))).mono ?_
    rintro e w1 ⟨n, m, rfl, g⟩
    exact ⟨_, rfl, ⟨_, rfl, g.zv hz⟩, g.below⟩
theorem rparse_no_v (w : World) (l : List UInt8) (h : NoNum l) (hl : l.length ≤ 200) {s : ByteArray} (e : ByteArray.mk l.toArray = s) : Calls Tryd.prog 24 #[.string s] w fun e w' => ∃ r, e = .returned r ∧ (∃ u0, r = .tuple #[u0, .bool false] ∧ ZV w' u0 0) ∧ Grows w w' := by
  subst e
  rcases h with ⟨t, rfl, hg | ⟨hg, h0⟩⟩ | ⟨hh, hg⟩
  · exact rp_neg_bad w t hg (by simp at hl; omega)
  · exact rp_neg_zero w t hg h0 (by simp at hl; omega) (Nat.le_trans (tval_sz hg (by simp at hl; omega)) (by decide))
  · cases l with
    | nil => exact rp_nil w
    | cons c t => exact rp_pos_bad w c t (by simpa using hh) hg (by simp at hl; omega)
theorem rparse_yes_v (w : World) (l : List UInt8) {z : Int} (h : IsNum l z) (hl : l.length ≤ 200) {s : ByteArray} (e : ByteArray.mk l.toArray = s) : Calls Tryd.prog 24 #[.string s] w fun e w' => ∃ r, e = .returned r ∧ (∃ u0, r = .tuple #[u0, .bool true] ∧ ZV w' u0 z) ∧ Grows w w' := by
  subst e
  rcases h with ⟨t, rfl, hg, h0, rfl⟩ | ⟨hh, hg, rfl⟩
  · exact rp_neg_yes w t hg h0 (by simp at hl; omega) (Nat.le_trans (tval_sz hg (by simp at hl; omega)) (by decide))
  · cases l with
    | nil => simp [goodText] at hg
    | cons c t => exact rp_pos_yes w c t (by simpa using hh) hg (by simp at hl; omega) (Nat.le_trans (tval_sz hg hl) (by decide))
theorem ext_take' (l : List UInt8) (k : Nat) : (ByteArray.mk l.toArray).extract 0 (min l.length k) = ⟨(l.take k).toArray⟩ := by
  apply ByteArray.ext
  simp [ByteArray.data_extract, Nat.min_comm]
theorem DRow.arg' {w : World} {g n c : Nat} {D : List UInt8} (h : DRow w g n D) (hc : n ≤ c) : Arg encY w (.slice (some ⟨g, 0, none⟩) n c) D :=
  ⟨_, c, by rw [h.len], by rw [h.len]; exact hc, fun _ => ⟨g, 0, rfl, fun j x hj => by rw [Nat.zero_add]; exact h.cell hj⟩⟩
theorem idx_four (l0 l1 l2 l3 : List UInt8) {u0 u1 u2 u3 : ByteArray} (e0 : ByteArray.mk l0.toArray = u0) (e1 : ByteArray.mk l1.toArray = u1) (e2 : ByteArray.mk l2.toArray = u2) (e3 : ByteArray.mk l3.toArray = u3) (h0 : l0.length ≤ 200) (h1 : l1.length ≤ 200) (h2 : l2.length ≤ 200) (h3 : l3.length ≤ 200) (k : Nat) (hk : k < 4) :
    ∃ (l : List UInt8) (u : ByteArray), ByteArray.mk l.toArray = u ∧ l.length ≤ 200 ∧ ∀ w : World, (Instr.index 40 (.agg #[.string u0, .string u1, .string u2, .string u3]) (.int .i64 k)).run Tryd.prog w = .ok (.string u) w := by
  have h : k = 0 ∨ k = 1 ∨ k = 2 ∨ k = 3 := by omega
  rcases h with rfl | rfl | rfl | rfl
  · exact ⟨l0, u0, e0, h0, fun w => by kernel_rfl⟩
  · exact ⟨l1, u1, e1, h1, fun w => by kernel_rfl⟩
  · exact ⟨l2, u2, e2, h2, fun w => by kernel_rfl⟩
  · exact ⟨l3, u3, e3, h3, fun w => by kernel_rfl⟩
theorem BoxN.put2_far {w : World} {g h : Nat} {T : TypeId} {cs : Array Value} {u v : Value} (hb : BoxN w g T cs) (hg : g ≠ h) : BoxN (put2 w h u v) g T cs := (Below.heap_setCell (w.setCell ⟨h, 0, none⟩ u) ⟨h, 1, none⟩ v g hg).trans ((Below.heap_setCell w ⟨h, 0, none⟩ u g hg).trans hb)
theorem wpList_of_value {P : Program} {ops : Array Oper} {Q : Exit → Act → World → Prop} {a : Act} {w w' : World} {o : Oper} {rest : List Oper} {v : Value} (hg : o.guard = none) (h : (execOp (ev a) o).run P w = .ok (.value v) w') (hr : wpList P ops Q rest (a.put o.dst v) w') : wpList P ops Q (o :: rest) a w := by
  refine wpList_plain hg fun K hK => wp_of_value h (hK _ _ hr)
set_option maxHeartbeats 16000000 in
set_option maxRecDepth 100000 in
theorem bigReads_any (w : World) (l : List UInt8) (n0 : Bool) (m0 : Value) (l0 : List Nat) (x y : Nat) (hl : l.length ≤ 9223372036854775807) (h0 : Arg encU w m0 l0) (hl0 : Lim l0) (hn0 : l0.length ≤ 9223372036854775807) (hx : x < 256) (hy : y < 256) :
    Calls Tryd.prog 4 #[.string ⟨l.toArray⟩, .agg #[.bool n0, m0], .agg #[.int .u8 x, .int .u8 y]] w fun e w' => e = .returned (.bool true) ∧ Below w.heap.size w w' := by
  go_enter Tryd.func4, Tryd.ntmps4
  have h0q := h0
  obtain ⟨A0, d0, rfl, _, _⟩ := h0q.open_
  clear h0q
  obtain ⟨a, ha⟩ : ∃ z, sg n0 (val (l0.take 15)) = z := ⟨_, rfl⟩
  have hka : szz a ≤ 15 := ha ▸ few_szz n0 15 hl0
  have hsz : (ByteArray.mk l.toArray).size = l.length := by show l.toArray.size = _; simp
  have hext := ext_take' l 100
  obtain ⟨D, hD⟩ : ∃ D, ByteArray.mk (l.take 100).toArray = D := ⟨_, rfl⟩
  obtain ⟨S0, hS0⟩ : ∃ S0, ByteArray.mk l.toArray = S0 := ⟨_, rfl⟩
  have hDl : (l.take 100).length ≤ 100 := by rw [List.length_take]; omega
  rw [hD, hS0] at hext
  rw [hS0] at hsz ⊢
  obtain ⟨m, hm⟩ : ∃ m, m = min l.length 100 := ⟨_, rfl⟩
  have hmi : min (l.length : Int) 100 = (m : Int) := by omega
  have hml : m ≤ l.length := by omega
  rw [← hm] at hext
  replace hD := Lib.hid hD
  replace hS0 := Lib.hid hS0
  clear hm
  have HB : Hid (Below w.heap.size w ((w.alloc (.cells #[.bool n0, .slice A0 l0.length d0] 24)).alloc (.cells #[.int .u8 (x : Int), .int .u8 (y : Int)] 37))) := Lib.hid (((Below.refl _ w).alloc (Nat.le_refl _) _).alloc (by simp) _)
  have DA : Hid (Box2 ((w.alloc (.cells #[.bool n0, .slice A0 l0.length d0] 24)).alloc (.cells #[.int .u8 (x : Int), .int .u8 (y : Int)] 37)) w.heap.size 24 (.bool n0) (.slice A0 l0.length d0)) := Lib.hid ((Box2.new w 24 _ _).alloc _)
  have XB : Hid (BoxN ((w.alloc (.cells #[.bool n0, .slice A0 l0.length d0] 24)).alloc (.cells #[.int .u8 (x : Int), .int .u8 (y : Int)] 37)) (w.heap.size + 1) 37 #[.int .u8 (x : Int), .int .u8 (y : Int)]) := Lib.hid (by have := BoxN.new (w.alloc (.cells #[.bool n0, .slice A0 l0.length d0] 24)) 37 #[.int .u8 (x : Int), .int .u8 (y : Int)]; rwa [World.size_alloc] at this)
  replace h0 := h0.below HB.out
  go_upto_region 1 with fail
  generalize ((w.alloc (.cells #[.bool n0, .slice A0 l0.length d0] 24)).alloc (.cells #[.int .u8 (x : Int), .int .u8 (y : Int)] 37)) = x0 at *
  refine wp_region_going 7 [] ([fun vq _ => vq = .string S0,
      fun vq _ => vq = .string S0,
      fun vq _ => vq = .int .i64 (l.length : Nat),
      fun vq _ => vq = .int .i64 (m : Nat),
      fun vq _ => vq = .string D,
      fun vq _ => vq = .agg #[.bool n0, .slice A0 l0.length d0],
      fun vq wq => WV x0 vq a]) (by kernel_rfl) (by kernel_rfl) (by decide) (by kernel_rfl) (by kernel_rfl) ?hF ?steps ?fin
  case hF =>
    intro j hj; cases hj
  case steps =>
    refine AllOps.cons (Does.plain rfl fun lq aq wq hk hr K hK => ?_) ?_
    · have B0 : ev aq (.tmp 0) = .string S0 := hk.base 0 (by kernel_rfl) rfl
      exact wp_of_value (by go_simp) (hK.out _ _ (Grows.refl _) (fun w2 h2 => rfl) (fun h => absurd h (by decide)))
    refine AllOps.cons (Does.plain rfl fun lq aq wq hk hr K hK => ?_) ?_
    · have B0 : ev aq (.tmp 0) = .string S0 := hk.base 0 (by kernel_rfl) rfl
      exact wp_of_value (by go_simp) (hK.out _ _ (Grows.refl _) (fun w2 h2 => rfl) (fun h => absurd h (by decide)))
    refine AllOps.cons (Does.plain rfl fun lq aq wq hk hr K hK => ?_) ?_
    · obtain ⟨v1, E1, -, r1⟩ := hk.dep hr 1 16 (by kernel_rfl) (by kernel_rfl)
      replace E1 : ev aq (.tmp 16) = .string S0 := E1.trans (r1 wq (Grows.refl wq))
      exact wp_of_value (by go_simp) (hK.out _ _ (Grows.refl _) (fun w2 h2 => rfl) (fun h => absurd h (by decide)))
    refine AllOps.cons (Does.plain rfl fun lq aq wq hk hr K hK => ?_) ?_
    · obtain ⟨v2, E2, -, r2⟩ := hk.dep hr 2 17 (by kernel_rfl) (by kernel_rfl)
      replace E2 : ev aq (.tmp 17) = .int .i64 (l.length : Nat) := E2.trans (r2 wq (Grows.refl wq))
      exact wp_of_value (by go_simp) (hK.out _ _ (Grows.refl _) (fun w2 h2 => rfl) (fun h => absurd h (by decide)))
    refine AllOps.cons (Does.plain rfl fun lq aq wq hk hr K hK => ?_) ?_
    · obtain ⟨v0, E0, -, r0⟩ := hk.dep hr 0 15 (by kernel_rfl) (by kernel_rfl)
      replace E0 : ev aq (.tmp 15) = .string S0 := E0.trans (r0 wq (Grows.refl wq))
      obtain ⟨v3, E3, -, r3⟩ := hk.dep hr 3 18 (by kernel_rfl) (by kernel_rfl)
      replace E3 : ev aq (.tmp 18) = .int .i64 (m : Nat) := E3.trans (r3 wq (Grows.refl wq))
      exact wp_of_value (by go_simp) (hK.out _ _ (Grows.refl _) (fun w2 h2 => rfl) (fun h => absurd h (by decide)))
    refine AllOps.cons (Does.plain rfl fun lq aq wq hk hr K hK => ?_) ?_
    · have B4 : ev aq (.tmp 4) = .pointer (some ⟨w.heap.size, 0, none⟩) := hk.base 4 (by kernel_rfl) rfl
      have hb := grows_of hk.ext
      have c0 := (Box2.below DA.out hb).c0
      have c1 := (Box2.below DA.out hb).c1
      exact wp_of_value (by go_simp) (hK.out _ _ (Grows.refl _) (fun w2 h2 => rfl) (fun h => absurd h (by decide)))
    refine AllOps.cons (Does.plain rfl fun lq aq wq hk hr K hK => ?_) ?_
    · obtain ⟨v5, E5, -, r5⟩ := hk.dep hr 5 20 (by kernel_rfl) (by kernel_rfl)
      replace E5 : ev aq (.tmp 20) = .agg #[.bool n0, .slice A0 l0.length d0] := E5.trans (r5 wq (Grows.refl wq))
      refine wp_of_call (f := 13) (vs := #[.agg #[.bool n0, .slice A0 l0.length d0], .int .i64 15]) (by go_simp) (few_v x0 wq 15 (h0) hl0 hn0 (by decide) ha) ?_
      rintro e w1 ⟨u, rfl, hu, hb⟩
      exact ⟨u, rfl, hK.out _ _ hb (fun w2 h2 => hu) (fun h => absurd h (by decide))⟩
    exact AllOps.nil
  case fin =>
    intro V x1 hG hV hap
    have r4 : (V 4) = .string D := hV 4 (by decide)
    have r6 : WV x0 (V 6) a := hV 6 (by decide)
    clear hV hap
    simp only [List.take_succ_cons, List.take_zero, List.drop_succ_cons, List.drop_zero, putAll, Act.put, List.setIfInBounds_toArray, List.set_cons_zero, List.set_cons_succ]
    have hb := grows_of hG
    obtain ⟨na, Aa, ka, ca, ea', sa⟩ := r6
    simp only [ea', r4]
    clear ea' r4
    replace DA := Box2.below DA.out hb
    replace XB := BoxN.below XB.out hb
    replace sa := sa.below hb
    replace HB := HB.out.trans (Below.mono hb HB.out.size)
    clear hb hG h0 hl0 hn0 hext hmi hml hsz hS0
    refine wpList_of_value (v := .string D) (w' := x1) rfl (by go_simp; rfl) ?_
    simp only [Act.put, List.setIfInBounds_toArray, List.set_cons_zero]
    refine wpList_of_skip rfl (op_store 4 21 _ rfl rfl DA) ?_
    have PA := put2_own (u := .bool na) (v := .slice Aa ka ca) DA
    have Sa := Lib.hid (sa.put DA (.bool na) (.slice Aa ka ca))
    replace HB := Lib.hid (put2_below (u := .bool na) (v := .slice Aa ka ca) HB (Nat.le_refl _))
    replace XB := Lib.hid (BoxN.put2_far (u := .bool na) (v := .slice Aa ka ca) XB (Nat.succ_ne_self _))
    clear DA sa
    generalize put2 x1 w.heap.size (.bool na) (.slice Aa ka ca) = y1 at *
    have Da := Lib.hid PA
    clear PA
    obtain ⟨O, hO⟩ : ∃ O, ByteArray.mk (ztext a).toArray = O := ⟨_, rfl⟩
    replace hO := Lib.hid hO
    go_upto_region 2 with fail
    refine wp_region_calm 2 [] ([fun vq wq => WV wq vq a,
        fun vq _ => vq = .string O]) (by kernel_rfl) (by decide) ?hF ?steps ?fin
    case hF =>
      intro j hj; cases hj
    case steps =>
      refine AllOps.cons (Does.plain rfl fun lq aq wq hk hr K hK => ?_) ?_
      · have B4 : ev aq (.tmp 4) = .pointer (some ⟨w.heap.size, 0, none⟩) := hk.base 4 (by kernel_rfl) rfl
        have hb : Below _ _ _ := hk.ext
        exact wp_of_value (op_load 4 _ B4 (Box2.below Da.out hb)) (hK.out _ _ (Grows.refl _) (fun w2 h2 => ⟨_, _, _, _, rfl, (Sa.out.below hb).below h2⟩) (fun h => absurd h (by decide)))
      refine AllOps.cons (Does.plain rfl fun lq aq wq hk hr K hK => ?_) ?_
      · obtain ⟨v0, E0, -, r0⟩ := hk.dep hr 0 22 (by kernel_rfl) (by kernel_rfl)
        have r0 : WV wq v0 a := r0 wq (Grows.refl wq)
        refine wp_of_call (f := 22) (vs := #[v0]) (by go_simp) (rtext_v wq r0 hO.out) ?_
        rintro e w1 ⟨u, rfl, hu, hb⟩
        exact ⟨u, rfl, hK.out _ _ hb (fun w2 h2 => hu) (fun h => absurd h (by decide))⟩
      exact AllOps.nil
    case fin =>
      intro V x2 hG hV hap
      have r1 : (V 1) = .string O := hV 1 (by decide)
      clear hV hap
      simp only [List.take_succ_cons, List.take_zero, List.drop_succ_cons, List.drop_zero, putAll, Act.put, List.setIfInBounds_toArray, List.set_cons_zero, List.set_cons_succ]
      have hb := (show Below _ _ _ from hG)
      replace Da := Lib.hid (Box2.below Da.out hb)
      replace Sa := Lib.hid (Sa.out.below hb)
      replace XB := Lib.hid (XB.out.below hb)
      replace HB := Lib.hid (HB.out.trans (Below.mono hb HB.out.size))
      clear hb hG
      rw [r1]
      clear r1
      obtain ⟨W2, hW2⟩ : ∃ W2, W2 = textRow x2 (ztext a) := ⟨_, rfl⟩
      obtain ⟨n, hn⟩ : ∃ n, (ztext a).length = n := ⟨_, rfl⟩
      obtain ⟨c, hc⟩ : ∃ c, c = grownCap x2 n 0 5 := ⟨_, rfl⟩
      have hcv : (convert 9 39 (.string O)).run Tryd.prog x2 = .ok (.slice (some ⟨x2.heap.size, 0, none⟩) n c) W2 := by
        have h1 := conv_text x2 (ztext a)
        rw [hn, ← hW2, ← hc, hO.out] at h1
        exact h1
      have hnc : n ≤ c := by rw [hc]; exact grownCap_ge _ _ _ _
      have hrow : DRow W2 x2.heap.size n (ztext a) := by
        have h1 := textRow_row x2 (ztext a)
        rwa [hn, ← hW2] at h1
      have hb12 : Below x2.heap.size x2 W2 := by rw [hW2]; exact textRow_below x2 (ztext a)
      have hB2 := HB.out.trans (Below.mono hb12 HB.out.size)
      have hg1 := HB.out.size
      replace XB := BoxN.below XB.out hb12
      have hx2 := XB.cell 0 rfl
      have hy2 := XB.cell 1 rfl
      have HB12 := Lib.hid hb12
      have hn15 : n ≤ 152 := by rw [← hn]; exact ztext_len hka
      have h0 : 0 < n := by
        rw [← hn]
        obtain ⟨ch, tl, hza, _, _⟩ := ztext_cons a
        rw [hza]
        simp
      obtain ⟨j, hj⟩ : ∃ j, j = x % n := ⟨_, rfl⟩
      have hji : (x : Int) % (n : Int) = (j : Int) := by rw [hj]; simp
      have hjn : j < n := by rw [hj]; exact Nat.mod_lt _ h0
      obtain ⟨z, hz⟩ := get_some (l := ztext a) (k := j) (by rw [hn]; exact hjn)
      have hcz := hrow.cell hz
      have hfz := hrow.free hjn
      replace hn := Lib.hid hn
      have HR := Lib.hid hrow
      replace hj := Lib.hid hj
      clear hz hrow hW2 hc hb12 XB HB
      go_wp2_with fail
      go_region
      obtain ⟨b, hb⟩ : ∃ b : UInt8, encY b = .int .u8 (y : Int) := ⟨UInt8.ofNat y, by show Value.int .u8 ((UInt8.ofNat y).toNat : Int) = _; rw [UInt8.toNat_ofNat']; congr 2; omega⟩
      have hrow3 := (HR.out.set j b).drew
      rw [hb] at hrow3
      have hB3 := (hB2.setCell (p := ⟨x2.heap.size, j, none⟩) hg1 (.int .u8 (y : Int))).drew
      have hb13 := (HB12.out.setCell (p := ⟨x2.heap.size, j, none⟩) (Nat.le_refl _) (.int .u8 (y : Int))).drew
      replace Da := Box2.below Da.out hb13
      replace Sa := Sa.out.below hb13
      clear hb13
      generalize (W2.setCell ⟨x2.heap.size, j, none⟩ (.int .u8 (y : Int))).drew = w3 at hrow3 hB3 Da Sa ⊢
      obtain ⟨E, hE⟩ : ∃ E, E = (ztext a).set j b := ⟨_, rfl⟩
      rw [← hE] at hrow3
      have hback := conv_any w3 _ E (hrow3.arg' hnc)
      have HLE : E.length ≤ 152 := by rw [hE, List.length_set, hn.out]; exact hn15
      obtain ⟨U, hU⟩ : ∃ U, ByteArray.mk E.toArray = U := ⟨_, rfl⟩
      rw [hU] at hback
      obtain ⟨F, hF⟩ : ∃ F, ByteArray.mk (45 :: l.take 100).toArray = F := ⟨_, rfl⟩
      have hcat : ByteArray.mk #[45] ++ D = F := by rw [← hD.out, ← hF]; exact cat_bytes' [45] _
      have hDs : D.size ≤ 100 := by rw [← hD.out]; show (l.take 100).toArray.size ≤ 100; rw [List.size_toArray]; exact hDl
      have hidx := fun k hk => idx_four (l.take 100) (ztext a) E (45 :: l.take 100) hD.out hO.out hU hF (by omega) (by rw [hn.out]; omega) (by omega) (by rw [List.length_cons]; omega) k hk
      replace hidx := Lib.hid hidx
      clear hE hrow3 hB2 hx2 hy2 hb hji hcz hfz hcv HR HB12 hU hF HLE
      go_wp2_with fail
      go_loopw [43] (fun iv wr => ∃ k : Nat, k ≤ 4 ∧ iv = .int .i64 k ∧ Below w.heap.size w wr ∧ Box2 wr w.heap.size 24 (.bool na) (.slice Aa ka ca) ∧ Whole wr na (.slice Aa ka ca) a) (fun iv _ => 4 - (intOf iv).toNat)
      case atStart => exact ⟨0, by decide, rfl, hB3, Da, Sa⟩
      case round =>
        clear hB3 Da Sa
        obtain ⟨k, hk, rfl, HB, Da, Sa⟩ := hrel
        replace HB := Lib.hid HB
        replace Da := Lib.hid Da
        replace Sa := Lib.hid Sa
        rcases Nat.lt_or_ge k 4 with hlt4 | hge
        · skip
          obtain ⟨u, s, hus, hul, hix⟩ := hidx.out k hlt4
          replace hus := Lib.hid hus
          go_upto_region 7 with fail
          refine wp_region_calm 1 [] ([fun vq _ => vq = .string s]) (by kernel_rfl) (by decide) ?hF ?steps ?fin
          case hF =>
            intro j hj; cases hj
          case steps =>
            refine AllOps.cons (Does.plain rfl fun lq aq wq hk hr K hK => ?_) ?_
            · have B42 : ev aq (.tmp 42) = .agg #[.string D, .string O, .string U, .string F] := hk.base 42 (by kernel_rfl) rfl
              have B43 : ev aq (.tmp 43) = .int .i64 k := hk.base 43 (by kernel_rfl) rfl
              exact wp_of_value (by go_simp) (hK.out _ _ (Grows.refl _) (fun w2 h2 => rfl) (fun h => absurd h (by decide)))
            exact AllOps.nil
          case fin =>
            intro V x3 hG hV hap
            have r0 : (V 0) = .string s := hV 0 (by decide)
            clear hV hap
            simp only [List.take_succ_cons, List.take_zero, List.drop_succ_cons, List.drop_zero, putAll, Act.put, List.setIfInBounds_toArray, List.set_cons_zero, List.set_cons_succ]
            have hb := (show Below _ _ _ from hG)
            replace Da := Lib.hid (Box2.below Da.out hb)
            replace Sa := Lib.hid (Sa.out.below hb)
            replace HB := Lib.hid (HB.out.trans (Below.mono hb HB.out.size))
            clear hb hG
            rw [r0]
            clear r0
            clear hix
            rcases num_or u with hu | ⟨z, hu⟩
            · skip
              replace hu := Lib.hid hu
              go_upto_region 8 with fail
              refine wp_region_calm 6 [5] ([fun vq _ => vq = .string s,
                  fun vq wq => ∃ u0, vq = .tuple #[u0, .bool false] ∧ ZV wq u0 0,
                  fun vq wq => ∃ u0, vq = .tuple #[u0, .bool false] ∧ ZV wq u0 0,
                  fun vq wq => ZV wq vq 0,
                  fun vq _ => vq = .bool false,
                  fun vq wq => ∃ bq, vq = .pointer (some ⟨bq, 0, none⟩) ∧ Box2 wq bq 24 (.bool false) (.slice none 0 0) ∧ (x3).heap.size ≤ bq]) (by kernel_rfl) (by decide) ?hF ?steps ?fin
              case hF =>
                intro j hj v w h
                simp only [List.mem_cons, List.not_mem_nil, or_false] at hj
                subst hj
                all_goals (obtain ⟨b, rfl, hB, _⟩ := h; exact hB.lt)
              case steps =>
                refine AllOps.cons (Does.plain rfl fun lq aq wq hk hr K hK => ?_) ?_
                · have B10 : ev aq (.tmp 10) = .string s := hk.base 10 (by kernel_rfl) rfl
                  exact wp_of_value (by go_simp) (hK.out _ _ (Grows.refl _) (fun w2 h2 => rfl) (fun h => absurd h (by decide)))
                refine AllOps.cons (Does.plain rfl fun lq aq wq hk hr K hK => ?_) ?_
                · obtain ⟨v0, E0, -, r0⟩ := hk.dep hr 0 47 (by kernel_rfl) (by kernel_rfl)
                  replace E0 : ev aq (.tmp 47) = .string s := E0.trans (r0 wq (Grows.refl wq))
                  refine wp_of_call (f := 23) (vs := #[.string s]) (by go_simp) (parse_no_v wq u (by omega) hu.out hus.out) ?_
                  rintro e w1 ⟨u, rfl, hu, hb⟩
                  exact ⟨u, rfl, hK.out _ _ hb (fun w2 h2 => (let ⟨u0, e0, h0⟩ := hu; ⟨u0, e0, (h0).grow h2⟩)) (fun h => absurd h (by decide))⟩
                refine AllOps.cons (Does.plain rfl fun lq aq wq hk hr K hK => ?_) ?_
                · obtain ⟨v1, E1, -, r1⟩ := hk.dep hr 1 48 (by kernel_rfl) (by kernel_rfl)
                  have r1 : ∃ u0, v1 = .tuple #[u0, .bool false] ∧ ZV wq u0 0 := r1 wq (Grows.refl wq)
                  exact wp_of_value (by go_simp) (hK.out _ _ (Grows.refl _) (fun w2 h2 => (let ⟨u0, e0, h0⟩ := r1; ⟨u0, e0, (h0).grow h2⟩)) (fun h => absurd h (by decide)))
                refine AllOps.cons (Does.plain rfl fun lq aq wq hk hr K hK => ?_) ?_
                · obtain ⟨v2, E2, -, r2⟩ := hk.dep hr 2 46 (by kernel_rfl) (by kernel_rfl)
                  have r2 : ∃ u0, v2 = .tuple #[u0, .bool false] ∧ ZV wq u0 0 := r2 wq (Grows.refl wq)
                  obtain ⟨u0, rfl, h0⟩ := r2
                  exact wp_of_value (by go_simp) (hK.out _ _ (Grows.refl _) (fun w2 h2 => (h0).grow h2) (fun h => absurd h (by decide)))
                refine AllOps.cons (Does.plain rfl fun lq aq wq hk hr K hK => ?_) ?_
                · obtain ⟨v2, E2, -, r2⟩ := hk.dep hr 2 46 (by kernel_rfl) (by kernel_rfl)
                  have r2 : ∃ u0, v2 = .tuple #[u0, .bool false] ∧ ZV wq u0 0 := r2 wq (Grows.refl wq)
                  obtain ⟨u0, rfl, h0⟩ := r2
                  exact wp_of_value (by go_simp) (hK.out _ _ (Grows.refl _) (fun w2 h2 => rfl) (fun h => absurd h (by decide)))
                refine AllOps.cons (Does.plain rfl fun lq aq wq hk hr K hK => ?_) ?_
                · exact wp_of_value (by go_simp) (hK.out _ _ ((Grows.refl _).alloc _) (fun w2 h2 => ⟨_, rfl, (Box2.new wq 24 _ _).below h2, hk.ext.size⟩) (fun _ => Nat.le_refl _))
                exact AllOps.nil
              case fin =>
                intro V x4 hG hV hap
                have r3 : ZV x4 (V 3) 0 := hV 3 (by decide)
                have r4 : (V 4) = .bool false := hV 4 (by decide)
                have r5 : ∃ bq, (V 5) = .pointer (some ⟨bq, 0, none⟩) ∧ Box2 x4 bq 24 (.bool false) (.slice none 0 0) ∧ (x3).heap.size ≤ bq := hV 5 (by decide)
                clear hV
                simp only [List.take_succ_cons, List.take_zero, List.drop_succ_cons, List.drop_zero, putAll, Act.put, List.setIfInBounds_toArray, List.set_cons_zero, List.set_cons_succ]
                have hb := (show Below _ _ _ from hG)
                obtain ⟨bp, ep, Dp, gp⟩ := r5
                obtain ⟨np, Ap, kp, cp, ep', sp⟩ := r3
                simp only [ep, ep', r4]
                clear ep ep' hap r4
                refine wpList_of_skip rfl (op_store 11 49 _ rfl rfl Dp) ?_
                have hB := put2_below (u := .bool np) (v := .slice Ap kp cp) hb gp
                replace sp := sp.put Dp (.bool np) (.slice Ap kp cp)
                replace Dp := put2_own (u := .bool np) (v := .slice Ap kp cp) Dp
                clear hb
                generalize put2 x4 bp (.bool np) (.slice Ap kp cp) = y5 at *
                replace Da := Lib.hid (Box2.below Da.out hB)
                replace Sa := Lib.hid (Sa.out.below hB)
                replace HB := Lib.hid (HB.out.trans (Below.mono hB HB.out.size))
                replace Dp := Lib.hid Dp
                have Sp := Lib.hid sp
                clear hG hB gp sp
                go_upto_region 9 with fail
                refine wp_region_calm 6 [5] ([fun vq _ => vq = .string s,
                    fun vq wq => ∃ u0, vq = .tuple #[u0, .bool false] ∧ ZV wq u0 0,
                    fun vq wq => ∃ u0, vq = .tuple #[u0, .bool false] ∧ ZV wq u0 0,
                    fun vq wq => ZV wq vq 0,
                    fun vq _ => vq = .bool false,
                    fun vq wq => ∃ bq, vq = .pointer (some ⟨bq, 0, none⟩) ∧ Box2 wq bq 24 (.bool false) (.slice none 0 0) ∧ (y5).heap.size ≤ bq]) (by kernel_rfl) (by decide) ?hF ?steps ?fin
                case hF =>
                  intro j hj v w h
                  simp only [List.mem_cons, List.not_mem_nil, or_false] at hj
                  subst hj
                  all_goals (obtain ⟨b, rfl, hB, _⟩ := h; exact hB.lt)
                case steps =>
                  refine AllOps.cons (Does.plain rfl fun lq aq wq hk hr K hK => ?_) ?_
                  · have B10 : ev aq (.tmp 10) = .string s := hk.base 10 (by kernel_rfl) rfl
                    exact wp_of_value (by go_simp) (hK.out _ _ (Grows.refl _) (fun w2 h2 => rfl) (fun h => absurd h (by decide)))
                  refine AllOps.cons (Does.plain rfl fun lq aq wq hk hr K hK => ?_) ?_
                  · obtain ⟨v0, E0, -, r0⟩ := hk.dep hr 0 52 (by kernel_rfl) (by kernel_rfl)
                    replace E0 : ev aq (.tmp 52) = .string s := E0.trans (r0 wq (Grows.refl wq))
                    refine wp_of_call (f := 24) (vs := #[.string s]) (by go_simp) (rparse_no_v wq u hu.out hul hus.out) ?_
                    rintro e w1 ⟨u, rfl, hu, hb⟩
                    exact ⟨u, rfl, hK.out _ _ hb (fun w2 h2 => (let ⟨u0, e0, h0⟩ := hu; ⟨u0, e0, (h0).grow h2⟩)) (fun h => absurd h (by decide))⟩
                  refine AllOps.cons (Does.plain rfl fun lq aq wq hk hr K hK => ?_) ?_
                  · obtain ⟨v1, E1, -, r1⟩ := hk.dep hr 1 53 (by kernel_rfl) (by kernel_rfl)
                    have r1 : ∃ u0, v1 = .tuple #[u0, .bool false] ∧ ZV wq u0 0 := r1 wq (Grows.refl wq)
                    exact wp_of_value (by go_simp) (hK.out _ _ (Grows.refl _) (fun w2 h2 => (let ⟨u0, e0, h0⟩ := r1; ⟨u0, e0, (h0).grow h2⟩)) (fun h => absurd h (by decide)))
                  refine AllOps.cons (Does.plain rfl fun lq aq wq hk hr K hK => ?_) ?_
                  · obtain ⟨v2, E2, -, r2⟩ := hk.dep hr 2 51 (by kernel_rfl) (by kernel_rfl)
                    have r2 : ∃ u0, v2 = .tuple #[u0, .bool false] ∧ ZV wq u0 0 := r2 wq (Grows.refl wq)
                    obtain ⟨u0, rfl, h0⟩ := r2
                    exact wp_of_value (by go_simp) (hK.out _ _ (Grows.refl _) (fun w2 h2 => (h0).grow h2) (fun h => absurd h (by decide)))
                  refine AllOps.cons (Does.plain rfl fun lq aq wq hk hr K hK => ?_) ?_
                  · obtain ⟨v2, E2, -, r2⟩ := hk.dep hr 2 51 (by kernel_rfl) (by kernel_rfl)
                    have r2 : ∃ u0, v2 = .tuple #[u0, .bool false] ∧ ZV wq u0 0 := r2 wq (Grows.refl wq)
                    obtain ⟨u0, rfl, h0⟩ := r2
                    exact wp_of_value (by go_simp) (hK.out _ _ (Grows.refl _) (fun w2 h2 => rfl) (fun h => absurd h (by decide)))
                  refine AllOps.cons (Does.plain rfl fun lq aq wq hk hr K hK => ?_) ?_
                  · exact wp_of_value (by go_simp) (hK.out _ _ ((Grows.refl _).alloc _) (fun w2 h2 => ⟨_, rfl, (Box2.new wq 24 _ _).below h2, hk.ext.size⟩) (fun _ => Nat.le_refl _))
                  exact AllOps.nil
                case fin =>
                  intro V x6 hG hV hap
                  have r3 : ZV x6 (V 3) 0 := hV 3 (by decide)
                  have r4 : (V 4) = .bool false := hV 4 (by decide)
                  have r5 : ∃ bq, (V 5) = .pointer (some ⟨bq, 0, none⟩) ∧ Box2 x6 bq 24 (.bool false) (.slice none 0 0) ∧ (y5).heap.size ≤ bq := hV 5 (by decide)
                  clear hV
                  simp only [List.take_succ_cons, List.take_zero, List.drop_succ_cons, List.drop_zero, putAll, Act.put, List.setIfInBounds_toArray, List.set_cons_zero, List.set_cons_succ]
                  have hb := (show Below _ _ _ from hG)
                  obtain ⟨bq, eq, Dq, gq⟩ := r5
                  obtain ⟨nq, Aq, kq, cq, eq', sq⟩ := r3
                  simp only [eq, eq', r4]
                  clear eq eq' hap r4
                  refine wpList_of_skip rfl (op_store 13 54 _ rfl rfl Dq) ?_
                  have hB := put2_below (u := .bool nq) (v := .slice Aq kq cq) hb gq
                  replace sq := sq.put Dq (.bool nq) (.slice Aq kq cq)
                  replace Dq := put2_own (u := .bool nq) (v := .slice Aq kq cq) Dq
                  clear hb
                  generalize put2 x6 bq (.bool nq) (.slice Aq kq cq) = y7 at *
                  replace Da := Lib.hid (Box2.below Da.out hB)
                  replace Sa := Lib.hid (Sa.out.below hB)
                  replace Dp := Lib.hid (Box2.below Dp.out hB)
                  replace Sp := Lib.hid (Sp.out.below hB)
                  replace HB := Lib.hid (HB.out.trans (Below.mono hB HB.out.size))
                  replace Dq := Lib.hid Dq
                  have Sq := Lib.hid sq
                  clear hG hB gq sq
                  go_upto_region 10 with fail
                  refine wp_region_calm 9 [] ([fun vq _ => vq = .bool false,
                      fun vq _ => vq = .bool false,
                      fun vq _ => vq = .bool false,
                      fun vq _ => vq = .bool false,
                      fun vq wq => ZV wq vq 0,
                      fun vq wq => ZV wq vq 0,
                      fun vq _ => vq = .bool true,
                      fun vq _ => vq = .bool false,
                      fun vq _ => vq = .bool false]) (by kernel_rfl) (by decide) ?hF ?steps ?fin
                  case hF =>
                    intro j hj; cases hj
                  case steps =>
                    refine AllOps.cons (Does.plain rfl fun lq aq wq hk hr K hK => ?_) ?_
                    · have B12 : ev aq (.tmp 12) = .bool false := hk.base 12 (by kernel_rfl) rfl
                      exact wp_of_value (by go_simp) (hK.out _ _ (Grows.refl _) (fun w2 h2 => rfl) (fun h => absurd h (by decide)))
                    refine AllOps.cons (Does.plain rfl fun lq aq wq hk hr K hK => ?_) ?_
                    · have B14 : ev aq (.tmp 14) = .bool false := hk.base 14 (by kernel_rfl) rfl
                      exact wp_of_value (by go_simp) (hK.out _ _ (Grows.refl _) (fun w2 h2 => rfl) (fun h => absurd h (by decide)))
                    refine AllOps.cons (Does.plain rfl fun lq aq wq hk hr K hK => ?_) ?_
                    · obtain ⟨v0, E0, -, r0⟩ := hk.dep hr 0 56 (by kernel_rfl) (by kernel_rfl)
                      replace E0 : ev aq (.tmp 56) = .bool false := E0.trans (r0 wq (Grows.refl wq))
                      obtain ⟨v1, E1, -, r1⟩ := hk.dep hr 1 57 (by kernel_rfl) (by kernel_rfl)
                      replace E1 : ev aq (.tmp 57) = .bool false := E1.trans (r1 wq (Grows.refl wq))
                      exact wp_of_value (by go_simp) (hK.out _ _ (Grows.refl _) (fun w2 h2 => rfl) (fun h => absurd h (by decide)))
                    refine AllOps.cons (Does.plain rfl fun lq aq wq hk hr K hK => ?_) ?_
                    · obtain ⟨v2, E2, -, r2⟩ := hk.dep hr 2 58 (by kernel_rfl) (by kernel_rfl)
                      replace E2 : ev aq (.tmp 58) = .bool false := E2.trans (r2 wq (Grows.refl wq))
                      exact wp_of_value (by go_simp) (hK.out _ _ (Grows.refl _) (fun w2 h2 => rfl) (fun h => absurd h (by decide)))
                    refine AllOps.cons (Does.lets (g := 3) (d := 59) (t := false) rfl (by kernel_rfl) (by kernel_rfl) (fun vq wq h => h wq (Grows.refl wq)) fun lq aq wq hk hr K hK => ?_) ?_
                    · have B11 : ev aq (.tmp 11) = .pointer (some ⟨bp, 0, none⟩) := hk.base 11 (by kernel_rfl) rfl
                      have hb : Below _ _ _ := hk.ext
                      exact wp_of_value (op_load 11 _ B11 (Box2.below Dp.out hb)) (hK.out _ _ (Grows.refl _) (fun w2 h2 => ⟨_, _, _, _, rfl, (Sp.out.below hb).below h2⟩) (fun h => absurd h (by decide)))
                    refine AllOps.cons (Does.lets (g := 3) (d := 59) (t := false) rfl (by kernel_rfl) (by kernel_rfl) (fun vq wq h => h wq (Grows.refl wq)) fun lq aq wq hk hr K hK => ?_) ?_
                    · have B13 : ev aq (.tmp 13) = .pointer (some ⟨bq, 0, none⟩) := hk.base 13 (by kernel_rfl) rfl
                      have hb : Below _ _ _ := hk.ext
                      exact wp_of_value (op_load 13 _ B13 (Box2.below Dq.out hb)) (hK.out _ _ (Grows.refl _) (fun w2 h2 => ⟨_, _, _, _, rfl, (Sq.out.below hb).below h2⟩) (fun h => absurd h (by decide)))
                    refine AllOps.cons (Does.lets (g := 3) (d := 59) (t := false) rfl (by kernel_rfl) (by kernel_rfl) (fun vq wq h => h wq (Grows.refl wq)) fun lq aq wq hk hr K hK => ?_) ?_
                    · obtain ⟨v4, E4, -, r4⟩ := hk.dep hr 4 60 (by kernel_rfl) (by kernel_rfl)
                      have r4 : ZV wq v4 0 := r4 wq (Grows.refl wq)
                      obtain ⟨v5, E5, -, r5⟩ := hk.dep hr 5 61 (by kernel_rfl) (by kernel_rfl)
                      have r5 : ZV wq v5 0 := r5 wq (Grows.refl wq)
                      refine wp_of_call (f := 20) (vs := #[v4, v5]) (by go_simp) (rsame_v wq r4 r5 (t := true) (decide_eq_true rfl)) ?_
                      rintro e w1 ⟨u, rfl, hu, hb⟩
                      exact ⟨u, rfl, hK.out _ _ hb (fun w2 h2 => hu) (fun h => absurd h (by decide))⟩
                    refine AllOps.cons (Does.lets (g := 3) (d := 59) (t := false) rfl (by kernel_rfl) (by kernel_rfl) (fun vq wq h => h wq (Grows.refl wq)) fun lq aq wq hk hr K hK => ?_) ?_
                    · obtain ⟨v6, E6, -, r6⟩ := hk.dep hr 6 62 (by kernel_rfl) (by kernel_rfl)
                      replace E6 : ev aq (.tmp 62) = .bool true := E6.trans (r6 wq (Grows.refl wq))
                      exact wp_of_value (by go_simp) (hK.out _ _ (Grows.refl _) (fun w2 h2 => rfl) (fun h => absurd h (by decide)))
                    refine AllOps.cons (Does.plain rfl fun lq aq wq hk hr K hK => ?_) ?_
                    · obtain ⟨v3, E3, -, r3⟩ := hk.dep hr 3 59 (by kernel_rfl) (by kernel_rfl)
                      replace E3 : ev aq (.tmp 59) = .bool false := E3.trans (r3 wq (Grows.refl wq))
                      obtain ⟨v7, E7, -, r7⟩ := hk.dep hr 7 63 (by kernel_rfl) (by kernel_rfl)
                      replace E7 : ev aq (.tmp 63) = .bool false := E7.trans (r7 wq (Grows.refl wq))
                      exact wp_of_value (by go_simp) (hK.out _ _ (Grows.refl _) (fun w2 h2 => rfl) (fun h => absurd h (by decide)))
                    exact AllOps.nil
                  case fin =>
                    intro V x8 hG hV hap
                    have r8 : (V 8) = .bool false := hV 8 (by decide)
                    clear hV hap
                    simp only [List.take_succ_cons, List.take_nil, List.drop_succ_cons, List.drop_nil, putAll, Act.put, List.setIfInBounds_toArray, List.set_cons_zero, List.set_cons_succ]
                    have hb := (show Below _ _ _ from hG)
                    replace Da := Lib.hid (Box2.below Da.out hb)
                    replace Sa := Lib.hid (Sa.out.below hb)
                    replace Dp := Lib.hid (Box2.below Dp.out hb)
                    replace Sp := Lib.hid (Sp.out.below hb)
                    replace Dq := Lib.hid (Box2.below Dq.out hb)
                    replace Sq := Lib.hid (Sq.out.below hb)
                    replace HB := Lib.hid (HB.out.trans (Below.mono hb HB.out.size))
                    clear hb hG
                    rw [r8]
                    clear r8
                    go_wp2_with fail
                    go_roundw
                    case rel =>
                      (repeat apply Exists.intro)
                      refine ⟨?_, rfl⟩
                      exact ⟨k + 1, by omega, (by first | rfl | simp), HB.out, Da.out, Sa.out⟩
                    case measure => simp [intOf]; omega
            · skip
              replace hu := Lib.hid hu
              have hkz := hu.out.szz hul
              go_upto_region 8 with fail
              refine wp_region_calm 6 [5] ([fun vq _ => vq = .string s,
                  fun vq wq => ∃ u0, vq = .tuple #[u0, .bool true] ∧ ZV wq u0 z,
                  fun vq wq => ∃ u0, vq = .tuple #[u0, .bool true] ∧ ZV wq u0 z,
                  fun vq wq => ZV wq vq z,
                  fun vq _ => vq = .bool true,
                  fun vq wq => ∃ bq, vq = .pointer (some ⟨bq, 0, none⟩) ∧ Box2 wq bq 24 (.bool false) (.slice none 0 0) ∧ (x3).heap.size ≤ bq]) (by kernel_rfl) (by decide) ?hF ?steps ?fin
              case hF =>
                intro j hj v w h
                simp only [List.mem_cons, List.not_mem_nil, or_false] at hj
                subst hj
                all_goals (obtain ⟨b, rfl, hB, _⟩ := h; exact hB.lt)
              case steps =>
                refine AllOps.cons (Does.plain rfl fun lq aq wq hk hr K hK => ?_) ?_
                · have B10 : ev aq (.tmp 10) = .string s := hk.base 10 (by kernel_rfl) rfl
                  exact wp_of_value (by go_simp) (hK.out _ _ (Grows.refl _) (fun w2 h2 => rfl) (fun h => absurd h (by decide)))
                refine AllOps.cons (Does.plain rfl fun lq aq wq hk hr K hK => ?_) ?_
                · obtain ⟨v0, E0, -, r0⟩ := hk.dep hr 0 47 (by kernel_rfl) (by kernel_rfl)
                  replace E0 : ev aq (.tmp 47) = .string s := E0.trans (r0 wq (Grows.refl wq))
                  refine wp_of_call (f := 23) (vs := #[.string s]) (by go_simp) (bparse_yes_v wq u hu.out hul hus.out) ?_
                  rintro e w1 ⟨u, rfl, hu, hb⟩
                  exact ⟨u, rfl, hK.out _ _ hb (fun w2 h2 => (let ⟨u0, e0, h0⟩ := hu; ⟨u0, e0, (h0).grow h2⟩)) (fun h => absurd h (by decide))⟩
                refine AllOps.cons (Does.plain rfl fun lq aq wq hk hr K hK => ?_) ?_
                · obtain ⟨v1, E1, -, r1⟩ := hk.dep hr 1 48 (by kernel_rfl) (by kernel_rfl)
                  have r1 : ∃ u0, v1 = .tuple #[u0, .bool true] ∧ ZV wq u0 z := r1 wq (Grows.refl wq)
                  exact wp_of_value (by go_simp) (hK.out _ _ (Grows.refl _) (fun w2 h2 => (let ⟨u0, e0, h0⟩ := r1; ⟨u0, e0, (h0).grow h2⟩)) (fun h => absurd h (by decide)))
                refine AllOps.cons (Does.plain rfl fun lq aq wq hk hr K hK => ?_) ?_
                · obtain ⟨v2, E2, -, r2⟩ := hk.dep hr 2 46 (by kernel_rfl) (by kernel_rfl)
                  have r2 : ∃ u0, v2 = .tuple #[u0, .bool true] ∧ ZV wq u0 z := r2 wq (Grows.refl wq)
                  obtain ⟨u0, rfl, h0⟩ := r2
                  exact wp_of_value (by go_simp) (hK.out _ _ (Grows.refl _) (fun w2 h2 => (h0).grow h2) (fun h => absurd h (by decide)))
                refine AllOps.cons (Does.plain rfl fun lq aq wq hk hr K hK => ?_) ?_
                · obtain ⟨v2, E2, -, r2⟩ := hk.dep hr 2 46 (by kernel_rfl) (by kernel_rfl)
                  have r2 : ∃ u0, v2 = .tuple #[u0, .bool true] ∧ ZV wq u0 z := r2 wq (Grows.refl wq)
                  obtain ⟨u0, rfl, h0⟩ := r2
                  exact wp_of_value (by go_simp) (hK.out _ _ (Grows.refl _) (fun w2 h2 => rfl) (fun h => absurd h (by decide)))
                refine AllOps.cons (Does.plain rfl fun lq aq wq hk hr K hK => ?_) ?_
                · exact wp_of_value (by go_simp) (hK.out _ _ ((Grows.refl _).alloc _) (fun w2 h2 => ⟨_, rfl, (Box2.new wq 24 _ _).below h2, hk.ext.size⟩) (fun _ => Nat.le_refl _))
                exact AllOps.nil
              case fin =>
                intro V x4 hG hV hap
                have r3 : ZV x4 (V 3) z := hV 3 (by decide)
                have r4 : (V 4) = .bool true := hV 4 (by decide)
                have r5 : ∃ bq, (V 5) = .pointer (some ⟨bq, 0, none⟩) ∧ Box2 x4 bq 24 (.bool false) (.slice none 0 0) ∧ (x3).heap.size ≤ bq := hV 5 (by decide)
                clear hV
                simp only [List.take_succ_cons, List.take_zero, List.drop_succ_cons, List.drop_zero, putAll, Act.put, List.setIfInBounds_toArray, List.set_cons_zero, List.set_cons_succ]
                have hb := (show Below _ _ _ from hG)
                obtain ⟨bp, ep, Dp, gp⟩ := r5
                obtain ⟨np, Ap, kp, cp, ep', sp⟩ := r3
                simp only [ep, ep', r4]
                clear ep ep' hap r4
                refine wpList_of_skip rfl (op_store 11 49 _ rfl rfl Dp) ?_
                have hB := put2_below (u := .bool np) (v := .slice Ap kp cp) hb gp
                replace sp := sp.put Dp (.bool np) (.slice Ap kp cp)
                replace Dp := put2_own (u := .bool np) (v := .slice Ap kp cp) Dp
                clear hb
                generalize put2 x4 bp (.bool np) (.slice Ap kp cp) = y5 at *
                replace Da := Lib.hid (Box2.below Da.out hB)
                replace Sa := Lib.hid (Sa.out.below hB)
                replace HB := Lib.hid (HB.out.trans (Below.mono hB HB.out.size))
                replace Dp := Lib.hid Dp
                have Sp := Lib.hid sp
                clear hG hB gp sp
                go_upto_region 9 with fail
                refine wp_region_calm 6 [5] ([fun vq _ => vq = .string s,
                    fun vq wq => ∃ u0, vq = .tuple #[u0, .bool true] ∧ ZV wq u0 z,
                    fun vq wq => ∃ u0, vq = .tuple #[u0, .bool true] ∧ ZV wq u0 z,
                    fun vq wq => ZV wq vq z,
                    fun vq _ => vq = .bool true,
                    fun vq wq => ∃ bq, vq = .pointer (some ⟨bq, 0, none⟩) ∧ Box2 wq bq 24 (.bool false) (.slice none 0 0) ∧ (y5).heap.size ≤ bq]) (by kernel_rfl) (by decide) ?hF ?steps ?fin
                case hF =>
                  intro j hj v w h
                  simp only [List.mem_cons, List.not_mem_nil, or_false] at hj
                  subst hj
                  all_goals (obtain ⟨b, rfl, hB, _⟩ := h; exact hB.lt)
                case steps =>
                  refine AllOps.cons (Does.plain rfl fun lq aq wq hk hr K hK => ?_) ?_
                  · have B10 : ev aq (.tmp 10) = .string s := hk.base 10 (by kernel_rfl) rfl
                    exact wp_of_value (by go_simp) (hK.out _ _ (Grows.refl _) (fun w2 h2 => rfl) (fun h => absurd h (by decide)))
                  refine AllOps.cons (Does.plain rfl fun lq aq wq hk hr K hK => ?_) ?_
                  · obtain ⟨v0, E0, -, r0⟩ := hk.dep hr 0 52 (by kernel_rfl) (by kernel_rfl)
                    replace E0 : ev aq (.tmp 52) = .string s := E0.trans (r0 wq (Grows.refl wq))
                    refine wp_of_call (f := 24) (vs := #[.string s]) (by go_simp) (rparse_yes_v wq u hu.out hul hus.out) ?_
                    rintro e w1 ⟨u, rfl, hu, hb⟩
                    exact ⟨u, rfl, hK.out _ _ hb (fun w2 h2 => (let ⟨u0, e0, h0⟩ := hu; ⟨u0, e0, (h0).grow h2⟩)) (fun h => absurd h (by decide))⟩
                  refine AllOps.cons (Does.plain rfl fun lq aq wq hk hr K hK => ?_) ?_
                  · obtain ⟨v1, E1, -, r1⟩ := hk.dep hr 1 53 (by kernel_rfl) (by kernel_rfl)
                    have r1 : ∃ u0, v1 = .tuple #[u0, .bool true] ∧ ZV wq u0 z := r1 wq (Grows.refl wq)
                    exact wp_of_value (by go_simp) (hK.out _ _ (Grows.refl _) (fun w2 h2 => (let ⟨u0, e0, h0⟩ := r1; ⟨u0, e0, (h0).grow h2⟩)) (fun h => absurd h (by decide)))
                  refine AllOps.cons (Does.plain rfl fun lq aq wq hk hr K hK => ?_) ?_
                  · obtain ⟨v2, E2, -, r2⟩ := hk.dep hr 2 51 (by kernel_rfl) (by kernel_rfl)
                    have r2 : ∃ u0, v2 = .tuple #[u0, .bool true] ∧ ZV wq u0 z := r2 wq (Grows.refl wq)
                    obtain ⟨u0, rfl, h0⟩ := r2
                    exact wp_of_value (by go_simp) (hK.out _ _ (Grows.refl _) (fun w2 h2 => (h0).grow h2) (fun h => absurd h (by decide)))
                  refine AllOps.cons (Does.plain rfl fun lq aq wq hk hr K hK => ?_) ?_
                  · obtain ⟨v2, E2, -, r2⟩ := hk.dep hr 2 51 (by kernel_rfl) (by kernel_rfl)
                    have r2 : ∃ u0, v2 = .tuple #[u0, .bool true] ∧ ZV wq u0 z := r2 wq (Grows.refl wq)
                    obtain ⟨u0, rfl, h0⟩ := r2
                    exact wp_of_value (by go_simp) (hK.out _ _ (Grows.refl _) (fun w2 h2 => rfl) (fun h => absurd h (by decide)))
                  refine AllOps.cons (Does.plain rfl fun lq aq wq hk hr K hK => ?_) ?_
                  · exact wp_of_value (by go_simp) (hK.out _ _ ((Grows.refl _).alloc _) (fun w2 h2 => ⟨_, rfl, (Box2.new wq 24 _ _).below h2, hk.ext.size⟩) (fun _ => Nat.le_refl _))
                  exact AllOps.nil
                case fin =>
                  intro V x6 hG hV hap
                  have r3 : ZV x6 (V 3) z := hV 3 (by decide)
                  have r4 : (V 4) = .bool true := hV 4 (by decide)
                  have r5 : ∃ bq, (V 5) = .pointer (some ⟨bq, 0, none⟩) ∧ Box2 x6 bq 24 (.bool false) (.slice none 0 0) ∧ (y5).heap.size ≤ bq := hV 5 (by decide)
                  clear hV
                  simp only [List.take_succ_cons, List.take_zero, List.drop_succ_cons, List.drop_zero, putAll, Act.put, List.setIfInBounds_toArray, List.set_cons_zero, List.set_cons_succ]
                  have hb := (show Below _ _ _ from hG)
                  obtain ⟨bq, eq, Dq, gq⟩ := r5
                  obtain ⟨nq, Aq, kq, cq, eq', sq⟩ := r3
                  simp only [eq, eq', r4]
                  clear eq eq' hap r4
                  refine wpList_of_skip rfl (op_store 13 54 _ rfl rfl Dq) ?_
                  have hB := put2_below (u := .bool nq) (v := .slice Aq kq cq) hb gq
                  replace sq := sq.put Dq (.bool nq) (.slice Aq kq cq)
                  replace Dq := put2_own (u := .bool nq) (v := .slice Aq kq cq) Dq
                  clear hb
                  generalize put2 x6 bq (.bool nq) (.slice Aq kq cq) = y7 at *
                  replace Da := Lib.hid (Box2.below Da.out hB)
                  replace Sa := Lib.hid (Sa.out.below hB)
                  replace Dp := Lib.hid (Box2.below Dp.out hB)
                  replace Sp := Lib.hid (Sp.out.below hB)
                  replace HB := Lib.hid (HB.out.trans (Below.mono hB HB.out.size))
                  replace Dq := Lib.hid Dq
                  have Sq := Lib.hid sq
                  clear hG hB gq sq
                  go_upto_region 10 with fail
                  refine wp_region_calm 9 [] ([fun vq _ => vq = .bool true,
                      fun vq _ => vq = .bool true,
                      fun vq _ => vq = .bool false,
                      fun vq _ => vq = .bool false,
                      fun vq wq => ZV wq vq z,
                      fun vq wq => ZV wq vq z,
                      fun vq _ => vq = .bool true,
                      fun vq _ => vq = .bool false,
                      fun vq _ => vq = .bool false]) (by kernel_rfl) (by decide) ?hF ?steps ?fin
                  case hF =>
                    intro j hj; cases hj
                  case steps =>
                    refine AllOps.cons (Does.plain rfl fun lq aq wq hk hr K hK => ?_) ?_
                    · have B12 : ev aq (.tmp 12) = .bool true := hk.base 12 (by kernel_rfl) rfl
                      exact wp_of_value (by go_simp) (hK.out _ _ (Grows.refl _) (fun w2 h2 => rfl) (fun h => absurd h (by decide)))
                    refine AllOps.cons (Does.plain rfl fun lq aq wq hk hr K hK => ?_) ?_
                    · have B14 : ev aq (.tmp 14) = .bool true := hk.base 14 (by kernel_rfl) rfl
                      exact wp_of_value (by go_simp) (hK.out _ _ (Grows.refl _) (fun w2 h2 => rfl) (fun h => absurd h (by decide)))
                    refine AllOps.cons (Does.plain rfl fun lq aq wq hk hr K hK => ?_) ?_
                    · obtain ⟨v0, E0, -, r0⟩ := hk.dep hr 0 56 (by kernel_rfl) (by kernel_rfl)
                      replace E0 : ev aq (.tmp 56) = .bool true := E0.trans (r0 wq (Grows.refl wq))
                      obtain ⟨v1, E1, -, r1⟩ := hk.dep hr 1 57 (by kernel_rfl) (by kernel_rfl)
                      replace E1 : ev aq (.tmp 57) = .bool true := E1.trans (r1 wq (Grows.refl wq))
                      exact wp_of_value (by go_simp) (hK.out _ _ (Grows.refl _) (fun w2 h2 => rfl) (fun h => absurd h (by decide)))
                    refine AllOps.cons (Does.plain rfl fun lq aq wq hk hr K hK => ?_) ?_
                    · obtain ⟨v2, E2, -, r2⟩ := hk.dep hr 2 58 (by kernel_rfl) (by kernel_rfl)
                      replace E2 : ev aq (.tmp 58) = .bool false := E2.trans (r2 wq (Grows.refl wq))
                      exact wp_of_value (by go_simp) (hK.out _ _ (Grows.refl _) (fun w2 h2 => rfl) (fun h => absurd h (by decide)))
                    refine AllOps.cons (Does.lets (g := 3) (d := 59) (t := false) rfl (by kernel_rfl) (by kernel_rfl) (fun vq wq h => h wq (Grows.refl wq)) fun lq aq wq hk hr K hK => ?_) ?_
                    · have B11 : ev aq (.tmp 11) = .pointer (some ⟨bp, 0, none⟩) := hk.base 11 (by kernel_rfl) rfl
                      have hb : Below _ _ _ := hk.ext
                      exact wp_of_value (op_load 11 _ B11 (Box2.below Dp.out hb)) (hK.out _ _ (Grows.refl _) (fun w2 h2 => ⟨_, _, _, _, rfl, (Sp.out.below hb).below h2⟩) (fun h => absurd h (by decide)))
                    refine AllOps.cons (Does.lets (g := 3) (d := 59) (t := false) rfl (by kernel_rfl) (by kernel_rfl) (fun vq wq h => h wq (Grows.refl wq)) fun lq aq wq hk hr K hK => ?_) ?_
                    · have B13 : ev aq (.tmp 13) = .pointer (some ⟨bq, 0, none⟩) := hk.base 13 (by kernel_rfl) rfl
                      have hb : Below _ _ _ := hk.ext
                      exact wp_of_value (op_load 13 _ B13 (Box2.below Dq.out hb)) (hK.out _ _ (Grows.refl _) (fun w2 h2 => ⟨_, _, _, _, rfl, (Sq.out.below hb).below h2⟩) (fun h => absurd h (by decide)))
                    refine AllOps.cons (Does.lets (g := 3) (d := 59) (t := false) rfl (by kernel_rfl) (by kernel_rfl) (fun vq wq h => h wq (Grows.refl wq)) fun lq aq wq hk hr K hK => ?_) ?_
                    · obtain ⟨v4, E4, -, r4⟩ := hk.dep hr 4 60 (by kernel_rfl) (by kernel_rfl)
                      have r4 : ZV wq v4 z := r4 wq (Grows.refl wq)
                      obtain ⟨v5, E5, -, r5⟩ := hk.dep hr 5 61 (by kernel_rfl) (by kernel_rfl)
                      have r5 : ZV wq v5 z := r5 wq (Grows.refl wq)
                      refine wp_of_call (f := 20) (vs := #[v4, v5]) (by go_simp) (rsame_v wq r4 r5 (t := true) (decide_eq_true rfl)) ?_
                      rintro e w1 ⟨u, rfl, hu, hb⟩
                      exact ⟨u, rfl, hK.out _ _ hb (fun w2 h2 => hu) (fun h => absurd h (by decide))⟩
                    refine AllOps.cons (Does.lets (g := 3) (d := 59) (t := false) rfl (by kernel_rfl) (by kernel_rfl) (fun vq wq h => h wq (Grows.refl wq)) fun lq aq wq hk hr K hK => ?_) ?_
                    · obtain ⟨v6, E6, -, r6⟩ := hk.dep hr 6 62 (by kernel_rfl) (by kernel_rfl)
                      replace E6 : ev aq (.tmp 62) = .bool true := E6.trans (r6 wq (Grows.refl wq))
                      exact wp_of_value (by go_simp) (hK.out _ _ (Grows.refl _) (fun w2 h2 => rfl) (fun h => absurd h (by decide)))
                    refine AllOps.cons (Does.plain rfl fun lq aq wq hk hr K hK => ?_) ?_
                    · obtain ⟨v3, E3, -, r3⟩ := hk.dep hr 3 59 (by kernel_rfl) (by kernel_rfl)
                      replace E3 : ev aq (.tmp 59) = .bool false := E3.trans (r3 wq (Grows.refl wq))
                      obtain ⟨v7, E7, -, r7⟩ := hk.dep hr 7 63 (by kernel_rfl) (by kernel_rfl)
                      replace E7 : ev aq (.tmp 63) = .bool false := E7.trans (r7 wq (Grows.refl wq))
                      exact wp_of_value (by go_simp) (hK.out _ _ (Grows.refl _) (fun w2 h2 => rfl) (fun h => absurd h (by decide)))
                    exact AllOps.nil
                  case fin =>
                    intro V x8 hG hV hap
                    have r8 : (V 8) = .bool false := hV 8 (by decide)
                    clear hV hap
                    simp only [List.take_succ_cons, List.take_nil, List.drop_succ_cons, List.drop_nil, putAll, Act.put, List.setIfInBounds_toArray, List.set_cons_zero, List.set_cons_succ]
                    have hb := (show Below _ _ _ from hG)
                    replace Da := Lib.hid (Box2.below Da.out hb)
                    replace Sa := Lib.hid (Sa.out.below hb)
                    replace Dp := Lib.hid (Box2.below Dp.out hb)
                    replace Sp := Lib.hid (Sp.out.below hb)
                    replace Dq := Lib.hid (Box2.below Dq.out hb)
                    replace Sq := Lib.hid (Sq.out.below hb)
                    replace HB := Lib.hid (HB.out.trans (Below.mono hb HB.out.size))
                    clear hb hG
                    rw [r8]
                    clear r8
                    go_wp2_with fail
                    go_roundw
                    case rel =>
                      (repeat apply Exists.intro)
                      refine ⟨?_, rfl⟩
                      exact ⟨k + 1, by omega, (by first | rfl | simp), HB.out, Da.out, Sa.out⟩
                    case measure => simp [intOf]; omega
        · skip
          obtain rfl : k = 4 := by omega
          go_upto_region 13 with fail
          refine wp_region_calm 7 [] ([fun vq wq => WV wq vq a,
              fun vq _ => vq = .string O,
              fun vq _ => vq = .string O,
              fun vq _ => vq = .bool true,
              fun vq _ => vq = .bool true,
              fun vq _ => vq = .bool true,
              fun vq _ => vq = .bool true]) (by kernel_rfl) (by decide) ?hF ?steps ?fin
          case hF =>
            intro j hj; cases hj
          case steps =>
            refine AllOps.cons (Does.plain rfl fun lq aq wq hk hr K hK => ?_) ?_
            · have B4 : ev aq (.tmp 4) = .pointer (some ⟨w.heap.size, 0, none⟩) := hk.base 4 (by kernel_rfl) rfl
              have hb : Below _ _ _ := hk.ext
              exact wp_of_value (op_load 4 _ B4 (Box2.below Da.out hb)) (hK.out _ _ (Grows.refl _) (fun w2 h2 => ⟨_, _, _, _, rfl, (Sa.out.below hb).below h2⟩) (fun h => absurd h (by decide)))
            refine AllOps.cons (Does.plain rfl fun lq aq wq hk hr K hK => ?_) ?_
            · obtain ⟨v0, E0, -, r0⟩ := hk.dep hr 0 66 (by kernel_rfl) (by kernel_rfl)
              have r0 : WV wq v0 a := r0 wq (Grows.refl wq)
              refine wp_of_call (f := 25) (vs := #[v0]) (by go_simp) (text_v wq r0 (s := O) hO.out) ?_
              rintro e w1 ⟨u, rfl, hu, hb⟩
              exact ⟨u, rfl, hK.out _ _ hb (fun w2 h2 => hu) (fun h => absurd h (by decide))⟩
            refine AllOps.cons (Does.plain rfl fun lq aq wq hk hr K hK => ?_) ?_
            · have B7 : ev aq (.tmp 7) = .string O := hk.base 7 (by kernel_rfl) rfl
              exact wp_of_value (by go_simp) (hK.out _ _ (Grows.refl _) (fun w2 h2 => rfl) (fun h => absurd h (by decide)))
            refine AllOps.cons (Does.plain rfl fun lq aq wq hk hr K hK => ?_) ?_
            · obtain ⟨v1, E1, -, r1⟩ := hk.dep hr 1 67 (by kernel_rfl) (by kernel_rfl)
              replace E1 : ev aq (.tmp 67) = .string O := E1.trans (r1 wq (Grows.refl wq))
              obtain ⟨v2, E2, -, r2⟩ := hk.dep hr 2 68 (by kernel_rfl) (by kernel_rfl)
              replace E2 : ev aq (.tmp 68) = .string O := E2.trans (r2 wq (Grows.refl wq))
              exact wp_of_value (by go_simp) (hK.out _ _ (Grows.refl _) (fun w2 h2 => rfl) (fun h => absurd h (by decide)))
            refine AllOps.cons (Does.plain rfl fun lq aq wq hk hr K hK => ?_) ?_
            · obtain ⟨v3, E3, -, r3⟩ := hk.dep hr 3 69 (by kernel_rfl) (by kernel_rfl)
              replace E3 : ev aq (.tmp 69) = .bool true := E3.trans (r3 wq (Grows.refl wq))
              exact wp_of_value (by go_simp) (hK.out _ _ (Grows.refl _) (fun w2 h2 => rfl) (fun h => absurd h (by decide)))
            refine AllOps.cons (Does.lets (g := 4) (d := 70) (t := true) rfl (by kernel_rfl) (by kernel_rfl) (fun vq wq h => h wq (Grows.refl wq)) fun lq aq wq hk hr K hK => ?_) ?_
            · refine wp_of_call (f := 21) (vs := #[]) (by go_simp) (works_v wq) ?_
              rintro e w1 ⟨u, rfl, hu, hb⟩
              exact ⟨u, rfl, hK.out _ _ hb (fun w2 h2 => hu) (fun h => absurd h (by decide))⟩
            refine AllOps.cons (Does.plain rfl fun lq aq wq hk hr K hK => ?_) ?_
            · obtain ⟨v4, E4, -, r4⟩ := hk.dep hr 4 70 (by kernel_rfl) (by kernel_rfl)
              replace E4 : ev aq (.tmp 70) = .bool true := E4.trans (r4 wq (Grows.refl wq))
              obtain ⟨v5, E5, -, r5⟩ := hk.dep hr 5 71 (by kernel_rfl) (by kernel_rfl)
              replace E5 : ev aq (.tmp 71) = .bool true := E5.trans (r5 wq (Grows.refl wq))
              exact wp_of_value (by go_simp) (hK.out _ _ (Grows.refl _) (fun w2 h2 => rfl) (fun h => absurd h (by decide)))
            exact AllOps.nil
          case fin =>
            intro V x3 hG hV hap
            have r6 : (V 6) = .bool true := hV 6 (by decide)
            clear hV hap
            simp only [List.take_succ_cons, List.take_zero, List.drop_succ_cons, List.drop_zero, putAll, Act.put, List.setIfInBounds_toArray, List.set_cons_zero, List.set_cons_succ]
            have hb := (show Below _ _ _ from hG)
            replace Da := Lib.hid (Box2.below Da.out hb)
            replace Sa := Lib.hid (Sa.out.below hb)
            replace HB := Lib.hid (HB.out.trans (Below.mono hb HB.out.size))
            clear hb hG
            rw [r6]
            clear r6
            go_wp2_with fail
            go_ret
            exact ⟨rfl, HB.out⟩
end Go.Proofs.YtmajcjdhhnhmmaaDoor
