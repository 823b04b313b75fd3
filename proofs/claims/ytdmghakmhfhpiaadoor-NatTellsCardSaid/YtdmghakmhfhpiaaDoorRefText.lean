import Derived.Test.YtdmghakmhfhpiaaDoorRefDiv
import Derived.Test.YtdmghakmhfhpiaaDoorRefGcd
import Derived.Test.YtdmghakmhfhpiaaDoorRefParse
/- litmusref01.Text: what it returns. -/
namespace Go.Proofs.YtdmghakmhfhpiaaDoor
open Go.RowKit Go.Num
attribute [local go_sem] Oper.semAt_some

abbrev encD (x : Nat) : Value := .int .u8 (x : Int)
theorem dbl_step {W P C X x y q s : Nat} (h : W + P * C = 2 * X + x) (hd : 2 * y + C = 10 * q + s) : (W + P * s) + (P * 10) * q = 2 * (X + P * y) + x := by
  have e : P * (2 * y + C) = P * (10 * q + s) := by rw [hd]
  have e1 : P * (2 * y + C) = 2 * (P * y) + P * C := by rw [Nat.mul_add, ← Nat.mul_assoc, Nat.mul_comm P 2, Nat.mul_assoc]
  have e2 : P * (10 * q + s) = (P * 10) * q + P * s := by rw [Nat.mul_add, ← Nat.mul_assoc]
  omega
theorem vdig_of_ge : ∀ {l : List Nat}, Dig l → (l ≠ [] → 10 ^ (l.length - 1) ≤ dval l) → vdig (dval l) = l
  | [], _, _ => by simp [vdig_zero]
  | x :: t, hd, hg => by
    have hx : x < 10 := hd x (by simp)
    have h1 := hg (by simp)
    have hpos : x + 10 * dval t ≠ 0 := by
      have : 0 < 10 ^ ((x :: t).length - 1) := Nat.pow_pos (by decide)
      have h2 : dval (x :: t) = x + 10 * dval t := rfl
      omega
    have e : dval (x :: t) = x + 10 * dval t := rfl
    rw [e, vdig_cons hx hpos, vdig_of_ge (fun y hy => hd y (by simp [hy])) (fun hne => ?_)]
    rw [e] at h1
    have hl : (x :: t).length - 1 = (t.length - 1) + 1 := by
      have : t.length ≠ 0 := fun h => hne (List.length_eq_zero_iff.1 h)
      simp; omega
    rw [hl, Nat.pow_succ] at h1
    omega
theorem dig_nil : Dig [] := fun x hx => by cases hx
theorem drop_set_here {α : Type} {l : List α} {k : Nat} {d : α} (hk : k < l.length) : (l.set k d).drop k = d :: l.drop (k + 1) := by
  rw [drop_get (y := d) (by rw [List.getElem?_set]; simp [hk]), List.drop_set, if_pos (by omega)]

set_option maxHeartbeats 16000000 in
set_option maxRecDepth 100000 in
theorem rtext_any (w : World) (va : Value) (la : List Nat) (a : Nat) (ha : Num w va la a) (hsa : la.length ≤ 10000) :
    Calls Tryd.prog 37 #[va] w fun e w' => e = .returned (.string ⟨(dec a).toArray⟩) ∧ Below w.heap.size w w' := by
  obtain ⟨i0, hi, hz0, hz1, hz2⟩ := info_parts infoY
  have hbl := bits_num (Nat.le_trans (sz_num ha) hsa)
  go_enter Tryd.func37, Tryd.ntmps37
  go_wp2_with fail
  refine (bits_of _ _ _ a ha).mono ?_
  rintro e w1 ⟨v1, rfl, g1, b1⟩
  obtain ⟨xs, hxs⟩ : ∃ xs, xs = Num.bits a := ⟨_, rfl⟩
  rw [← hxs] at g1 hbl
  obtain ⟨N, hN⟩ : ∃ N, xs.length = N := ⟨_, rfl⟩
  rw [hN] at hbl
  obtain ⟨Ax, cx, rfl, hcx, hr⟩ := g1.open_
  rw [hN] at hcx ⊢
  have HA := Lib.hid (show xs.length = N ∧ bval xs = a from ⟨hN, by rw [hxs, bval_bits]⟩)
  clear g1 hN hxs ha
  go_wp2_with fail
  go_loopw [4, 5] (fun dv iv wr => ∃ (k : Nat) (D : List Nat), k ≤ N ∧ iv = .int .i64 ((k : Int) - 1) ∧ Hid (Dig D ∧ dval D = bval (xs.drop k) ∧ (D ≠ [] → 10 ^ (D.length - 1) ≤ dval D)) ∧ wr.ownsRow w1.heap.size 5 1 dv D.length (D.map encD) ∧ Below w1.heap.size w1 wr) (fun _ iv _ => (intOf iv + 1).toNat)
  case atStart => exact ⟨N, [], Nat.le_refl _, rfl, And.intro dig_nil (And.intro (by rw [List.drop_of_length_le (by have := HA.out.1; omega)]; rfl) (fun h => absurd rfl h)), World.ownsRow_nil _ _ _ _, Below.refl _ _⟩
  case round =>
    obtain ⟨k, D, hk, rfl, HI, hown, hbel⟩ := hrel
    obtain ⟨m, hm⟩ : ∃ m, D.length = m := ⟨_, rfl⟩
    rw [hm] at hown
    have HM := Lib.hid hm
    obtain ⟨A, c, hv, hmc, hrd⟩ := (ownsRow_arg (enc := encD) (l := D) (by rw [hm]; exact hown)).open_
    rw [hm] at hv hmc
    subst hv
    have HM2 : Hid (m ≤ 400000) := by
      show m ≤ 400000
      rcases Nat.eq_zero_or_pos m with h9 | h9
      · omega
      · have h1 := HI.out.2.2 (by intro e0; rw [e0] at hm; simp at hm; omega)
        rw [hm, HI.out.2.1] at h1
        have h2 := bval_lt (xs.drop k)
        have h3 : 2 ^ (xs.drop k).length ≤ 2 ^ N := Nat.pow_le_pow_right (by decide) (by rw [List.length_drop]; have := HA.out.1; omega)
        have h4 : 2 ^ (m - 1) ≤ 10 ^ (m - 1) := Nat.pow_le_pow_left (by decide) _
        have h5 : 2 ^ (m - 1) < 2 ^ N := by omega
        have h6 := (Nat.pow_lt_pow_iff_right (a := 2) (by decide)).1 h5
        omega
    have hm4 : m ≤ 400000 := HM2.out
    clear hm hrd
    rcases Nat.eq_zero_or_pos k with h0 | h0
    · subst h0
      have hva : Hid (dval D = a) := by show dval D = a; rw [HI.out.2.1, List.drop_zero]; exact HA.out.2
      have hvd : Hid (vdig a = D) := by show vdig a = D; rw [← hva.out]; exact vdig_of_ge HI.out.1 HI.out.2.2
      rcases Nat.eq_zero_or_pos m with hm0 | hm0
      · have hD0 : D = [] := List.length_eq_zero_iff.1 (by have := HM.out; omega)
        have ha0 : Hid (dec a = [48]) := by
          show dec a = [48]
          have h1 := hva.out
          rw [hD0] at h1
          rw [← h1]; simp [dec]
        subst hm0
        clear hD0
        go_wp2_with fail
        go_ret
        exact ⟨by rw [ha0.out]; rfl, b1.trans (hbel.mono b1.size)⟩
      · have ha0 : a ≠ 0 := by
          intro e0
          have h1 := hvd.out
          rw [e0, vdig_zero] at h1
          have := HM.out
          rw [← h1] at this
          simp at this; omega
        have hda : Hid (dec a = (D.map Num.byteOf).reverse) := by
          show dec a = (D.map Num.byteOf).reverse
          unfold dec decs
          rw [if_neg ha0, hvd.out]
        have hmk := run_make_row' (P := Tryd.prog) 28 5 (.int .u8 0) 1 Tryd.underlying28 infoY rfl .i64 .i64 m (by omega) (by omega)
        have hstart : Inp 5 encY wr.heap.size (wr.alloc (.cells (madeCells #[.int .u8 0] m) 5)) wr.heap.size m m (List.replicate m 0) := Inp.made wr (0 : UInt8) (by omega) rfl
        obtain ⟨m', hm'⟩ : ∃ m', m = m' + 1 := ⟨m - 1, by omega⟩
        have hown2 := hown
        rw [hm'] at hown2
        obtain ⟨g, cap, hv⟩ := ownsRow_succ hown2
        clear hown2 hm'
        simp only [Value.slice.injEq] at hv
        obtain ⟨rfl, _, rfl⟩ := hv
        have hin0 : Inp 5 encD w1.heap.size wr g m c D := hown
        have HD9 := Lib.hid HI.out.1
        obtain ⟨wa, rfl⟩ : ∃ wa, wa = wr := ⟨_, rfl⟩
        clear hown ha0 hva hvd HI
        go_wp2_with fail
        go_loopw [10] (fun iv wq => ∃ (i : Nat) (O : List UInt8), i ≤ m ∧ iv = .int .i64 i ∧ Hid (O.drop (m - i) = ((D.take i).map Num.byteOf).reverse) ∧ Inp 5 encY wa.heap.size wq wa.heap.size m m O ∧ Below wa.heap.size wa wq) (fun iv _ => m - (intOf iv).toNat)
        case atStart => exact ⟨0, List.replicate m 0, Nat.zero_le _, rfl, by show List.drop (m - 0) (List.replicate m 0) = _; rw [List.drop_of_length_le (by simp)]; simp, hstart, (Below.refl _ wa).alloc (Nat.le_refl _) _⟩
        case round =>
          obtain ⟨i, O, hi9, rfl, HO, hin, hbq⟩ := hrel
          by_cases hlt : i < m
          · obtain ⟨y, hy⟩ := get_some (l := D) (k := i) (by have := HM.out; omega)
            have hcy := (hbq.cell hin0.lt).trans (hin0.cell hy)
            have hy9 : y < 10 := HD9.out y (List.mem_of_getElem? hy)
            obtain ⟨j, hj⟩ : ∃ j, j = m - 1 - i := ⟨_, rfl⟩
            have hji : (m : Int) - 1 - (i : Int) = (j : Int) := by omega
            have hjm : j < m := by omega
            obtain ⟨z, hz⟩ := get_some (l := O) (k := j) (by have := hin.len; omega)
            have hcz := hin.cell hz
            have hfz := hin.free j
            have HY := Lib.hid (And.intro hy (And.intro hj (len_of_get hz)))
            clear hy hj hz
            go_wp2_with fail
            go_roundw
            case rel =>
              obtain ⟨e1, e2, e3⟩ := HY.out
              have hby : encY (Num.byteOf y) = .int .u8 (48 + (y : Int)) := by
                show Value.int .u8 ((Num.byteOf y).toNat : Int) = _
                rw [Num.byteOf_toNat hy9]; simp
              have hin2 := hin.set j (Num.byteOf y)
              rw [hby] at hin2
              refine ⟨i + 1, O.set j (Num.byteOf y), by omega, by go_num, ?_, hin2, hbq.setCell (p := ⟨wa.heap.size, j, none⟩) (Nat.le_refl _) _⟩
              show List.drop (m - (i + 1)) _ = _
              rw [show m - (i + 1) = j by omega, drop_set_here e3, show j + 1 = m - i by omega, HO.out, take_snoc e1, List.map_append, List.reverse_append]
              rfl
            case measure => simp [intOf]; omega
          · have hO : Hid (O = (D.map Num.byteOf).reverse) := by
              have h1 := HO.out
              rw [show m - i = 0 by omega, List.drop_zero, take_all D (by have := HM.out; omega)] at h1
              exact h1
            have hback := conv_any wr _ O hin.arg
            have hend := b1.trans (hbel.trans (hbq.mono hbel.size) |>.mono b1.size)
            clear hin hbq
            go_wp2_with fail
            go_ret
            exact ⟨by rw [hda.out, ← hO.out]; rfl, hend⟩
    · obtain ⟨x, hx⟩ := get_some (l := xs) (k := k - 1) (by have := HA.out.1; omega)
      obtain ⟨b, o, rfl, hc0⟩ := hr.at_ hx
      have hc1 := (hbel.cell (World.block_lt_of_cell? w1 _ hc0)).trans hc0
      have HB := Lib.hid hx
      clear hx hc0
      cases x with
      | false =>
        go_wp2_with fail
        go_loopw [6, 7] (fun cv jv wq => ∃ (j C : Nat) (E : List Nat), j ≤ m ∧ jv = .int .i64 j ∧ cv = .int .u8 C ∧ C ≤ 1 ∧ Hid (Dig E ∧ E.length = m ∧ dval (E.take j) + 10 ^ j * C = 2 * dval (D.take j) + 0 ∧ E.drop j = D.drop j) ∧ wq.ownsRow w1.heap.size 5 1 (.slice A m c) m (E.map encD) ∧ Below w1.heap.size w1 wq) (fun _ jv _ => m - (intOf jv).toNat)
        case atStart => exact ⟨0, 0, D, Nat.zero_le _, rfl, rfl, by decide, ⟨HI.out.1, HM.out, by simp, rfl⟩, hown, hbel⟩
        case round =>
          clear hown hbel
          obtain ⟨j, C, E, hj, rfl, rfl, hC, HJ, hown, hbel⟩ := hrel
          by_cases hjm : j < m
          · obtain ⟨y, hy⟩ := get_some (l := E) (k := j) (by have := HJ.out.2.1; omega)
            obtain ⟨m', hm'⟩ : ∃ m', m = m' + 1 := ⟨m - 1, by omega⟩
            have hown2 := hown
            rw [hm'] at hown2
            obtain ⟨g, cap, hv⟩ := ownsRow_succ hown2
            clear hown2 hm'
            simp only [Value.slice.injEq] at hv
            obtain ⟨rfl, _, rfl⟩ := hv
            have hin : Inp 5 encD w1.heap.size wr g m c E := hown
            have hcy := hin.cell hy
            have hfz := hin.free j
            have hge := hin.base_le
            have hy9 : y < 10 := HJ.out.1 y (List.mem_of_getElem? hy)
            obtain ⟨d, hd⟩ : ∃ d, d = 2 * y + C := ⟨_, rfl⟩
            have hdi : (2 : Int) * (y : Int) + (C : Int) = (d : Int) := by omega
            have hd19 : d ≤ 19 := by omega
            obtain ⟨q, hq⟩ : ∃ q, q = d / 10 := ⟨_, rfl⟩
            obtain ⟨s, hs⟩ : ∃ s, s = d % 10 := ⟨_, rfl⟩
            have hqi : (d : Int) / 10 = (q : Int) := by omega
            have hsi : (d : Int) % 10 = (s : Int) := by omega
            have hq1 : q ≤ 1 := by omega
            have hs9 : s < 10 := by omega
            have HX := Lib.hid (And.intro hy (And.intro hd (And.intro hq hs)))
            clear hown hy hd hq hs
            go_wp2_with fail
            go_roundw
            case rel =>
              obtain ⟨e1, e2, e3, e4⟩ := HX.out
              obtain ⟨f1, f2, f3, f4⟩ := HJ.out
              refine ⟨j + 1, q, E.set j s, by omega, by go_num, by first | (simp; done) | (simp; exact hqi), hq1, ⟨?_, by rw [List.length_set, f2], ?_, ?_⟩, hin.set j s, hbel.setCell (p := ⟨g, j, none⟩) hge _⟩
              · intro z hz
                rcases List.mem_or_eq_of_mem_set hz with h1 | h1
                · exact f1 z h1
                · rw [h1]; exact hs9
              · have hDy : D[j]? = some y := by
                  have h1 := congrArg (fun l => l[0]?) f4
                  simp only [List.getElem?_drop, Nat.add_zero] at h1
                  rw [← h1]; exact e1
                have hset : (E.set j s)[j]? = some s := by rw [List.getElem?_set]; simp [len_of_get e1]
                rw [take_snoc hset, take_set_same, take_snoc hDy, dval_snoc, dval_snoc, List.length_take, List.length_take, Nat.min_eq_left (by omega), Nat.min_eq_left (by have := HM.out; omega)]
                exact dbl_step f3 (by omega)
              · rw [List.drop_set, if_pos (by omega)]
                have h1 := congrArg (List.drop 1) f4
                simpa [List.drop_drop] using h1
            case measure => simp [intOf]; omega
          · have hjm' : j = m := by omega
            obtain ⟨f1, f2, f3, f4⟩ := HJ.out
            rw [take_all E (by omega), take_all D (by have := HM.out; omega)] at f3
            have HE := Lib.hid (And.intro f1 (And.intro f2 f3))
            clear f1 f2 f3 f4 HJ hj
            subst hjm'
            have hC01 : C = 0 ∨ C = 1 := by omega
            rcases hC01 with hC0 | hC0
            · subst hC0
              go_wp2_with fail
              go_roundw
              case rel =>
                refine ⟨k - 1, E, by omega, by go_num, ⟨HE.out.1, ?_, ?_⟩, by rw [HE.out.2.1]; exact hown, hbel⟩
                · rw [bdrop_pred h0 HB.out, bval_cons, ← HI.out.2.1]
                  have := HE.out.2.2
                  simp at this ⊢; omega
                · intro hne
                  have h2 := HI.out.2.2 (by intro e0; have := HM.out; rw [e0] at this; have h3 := HE.out.2.1; simp at this; exact hne (List.length_eq_zero_iff.1 (by omega)))
                  rw [HM.out] at h2
                  rw [HE.out.2.1]
                  have := HE.out.2.2
                  omega
              case measure => simp [intOf]; omega
            · subst hC0
              go_wp2_with (at_builtin; refine wpList_append_own _ rfl _ _ 28 rfl w1.heap.size 5 i0 (.int .u8 0) 1 1 Tryd.underlying28 hi hz0 hz1 hz2 rfl (by decide) _ _ _ rfl (World.ownsRow.alloc hown _) ⟨_, 0, none⟩ 1 1 [.int .u8 1] rfl rfl (cell_one_new _ _ _) (by simp [Value.oneCell']) ?c3 ?c4 ?c5 ?_)
              case c3 => have := HM2.out; unfold maxLen; omega
              case c4 => have := HM2.out; omega
              case c5 => have := hbel.size; simp; omega
              intro v' w2 h1 hg1 _
              have hb2 : Below w1.heap.size w1 w2 := (hbel.alloc hbel.size _).grown hg1 (Nat.le_trans hbel.size (by simp)) (fun z hz => (World.ownsRow.lt hown z hz).1)
              have hown2 : w2.ownsRow w1.heap.size 5 1 v' (E ++ [1]).length ((E ++ [1]).map encD) := by
                rw [List.length_append, HE.out.2.1, List.map_append]
                exact h1
              clear h1 hg1 hown hbel
              go_wp2_with fail
              go_roundw
              case rel =>
                have hval : dval (E ++ [1]) = 2 * dval D + 0 := by rw [dval_snoc, HE.out.2.1]; exact HE.out.2.2
                refine ⟨k - 1, E ++ [1], by omega, by go_num, ⟨?_, ?_, ?_⟩, hown2, hb2⟩
                · intro z hz
                  rcases List.mem_append.1 hz with h1 | h1
                  · exact HE.out.1 z h1
                  · rw [List.mem_singleton.1 h1]; decide
                · rw [hval, bdrop_pred h0 HB.out, bval_cons, ← HI.out.2.1]
                  simp
                  try omega
                · intro _
                  rw [dval_snoc]
                  simp
              case measure => simp [intOf]; omega
      | true =>
        go_wp2_with fail
        go_loopw [6, 7] (fun cv jv wq => ∃ (j C : Nat) (E : List Nat), j ≤ m ∧ jv = .int .i64 j ∧ cv = .int .u8 C ∧ C ≤ 1 ∧ Hid (Dig E ∧ E.length = m ∧ dval (E.take j) + 10 ^ j * C = 2 * dval (D.take j) + 1 ∧ E.drop j = D.drop j) ∧ wq.ownsRow w1.heap.size 5 1 (.slice A m c) m (E.map encD) ∧ Below w1.heap.size w1 wq) (fun _ jv _ => m - (intOf jv).toNat)
        case atStart => exact ⟨0, 1, D, Nat.zero_le _, rfl, rfl, by decide, ⟨HI.out.1, HM.out, by simp, rfl⟩, hown, hbel⟩
        case round =>
          clear hown hbel
          obtain ⟨j, C, E, hj, rfl, rfl, hC, HJ, hown, hbel⟩ := hrel
          by_cases hjm : j < m
          · obtain ⟨y, hy⟩ := get_some (l := E) (k := j) (by have := HJ.out.2.1; omega)
            obtain ⟨m', hm'⟩ : ∃ m', m = m' + 1 := ⟨m - 1, by omega⟩
            have hown2 := hown
            rw [hm'] at hown2
            obtain ⟨g, cap, hv⟩ := ownsRow_succ hown2
            clear hown2 hm'
            simp only [Value.slice.injEq] at hv
            obtain ⟨rfl, _, rfl⟩ := hv
            have hin : Inp 5 encD w1.heap.size wr g m c E := hown
            have hcy := hin.cell hy
            have hfz := hin.free j
            have hge := hin.base_le
            have hy9 : y < 10 := HJ.out.1 y (List.mem_of_getElem? hy)
            obtain ⟨d, hd⟩ : ∃ d, d = 2 * y + C := ⟨_, rfl⟩
            have hdi : (2 : Int) * (y : Int) + (C : Int) = (d : Int) := by omega
            have hd19 : d ≤ 19 := by omega
            obtain ⟨q, hq⟩ : ∃ q, q = d / 10 := ⟨_, rfl⟩
            obtain ⟨s, hs⟩ : ∃ s, s = d % 10 := ⟨_, rfl⟩
            have hqi : (d : Int) / 10 = (q : Int) := by omega
            have hsi : (d : Int) % 10 = (s : Int) := by omega
            have hq1 : q ≤ 1 := by omega
            have hs9 : s < 10 := by omega
            have HX := Lib.hid (And.intro hy (And.intro hd (And.intro hq hs)))
            clear hown hy hd hq hs
            go_wp2_with fail
            go_roundw
            case rel =>
              obtain ⟨e1, e2, e3, e4⟩ := HX.out
              obtain ⟨f1, f2, f3, f4⟩ := HJ.out
              refine ⟨j + 1, q, E.set j s, by omega, by go_num, by first | (simp; done) | (simp; exact hqi), hq1, ⟨?_, by rw [List.length_set, f2], ?_, ?_⟩, hin.set j s, hbel.setCell (p := ⟨g, j, none⟩) hge _⟩
              · intro z hz
                rcases List.mem_or_eq_of_mem_set hz with h1 | h1
                · exact f1 z h1
                · rw [h1]; exact hs9
              · have hDy : D[j]? = some y := by
                  have h1 := congrArg (fun l => l[0]?) f4
                  simp only [List.getElem?_drop, Nat.add_zero] at h1
                  rw [← h1]; exact e1
                have hset : (E.set j s)[j]? = some s := by rw [List.getElem?_set]; simp [len_of_get e1]
                rw [take_snoc hset, take_set_same, take_snoc hDy, dval_snoc, dval_snoc, List.length_take, List.length_take, Nat.min_eq_left (by omega), Nat.min_eq_left (by have := HM.out; omega)]
                exact dbl_step f3 (by omega)
              · rw [List.drop_set, if_pos (by omega)]
                have h1 := congrArg (List.drop 1) f4
                simpa [List.drop_drop] using h1
            case measure => simp [intOf]; omega
          · have hjm' : j = m := by omega
            obtain ⟨f1, f2, f3, f4⟩ := HJ.out
            rw [take_all E (by omega), take_all D (by have := HM.out; omega)] at f3
            have HE := Lib.hid (And.intro f1 (And.intro f2 f3))
            clear f1 f2 f3 f4 HJ hj
            subst hjm'
            have hC01 : C = 0 ∨ C = 1 := by omega
            rcases hC01 with hC0 | hC0
            · subst hC0
              go_wp2_with fail
              go_roundw
              case rel =>
                refine ⟨k - 1, E, by omega, by go_num, ⟨HE.out.1, ?_, ?_⟩, by rw [HE.out.2.1]; exact hown, hbel⟩
                · rw [bdrop_pred h0 HB.out, bval_cons, ← HI.out.2.1]
                  have := HE.out.2.2
                  simp at this ⊢; omega
                · intro hne
                  have h2 := HI.out.2.2 (by intro e0; have := HM.out; rw [e0] at this; have h3 := HE.out.2.1; simp at this; exact hne (List.length_eq_zero_iff.1 (by omega)))
                  rw [HM.out] at h2
                  rw [HE.out.2.1]
                  have := HE.out.2.2
                  omega
              case measure => simp [intOf]; omega
            · subst hC0
              go_wp2_with (at_builtin; refine wpList_append_own _ rfl _ _ 28 rfl w1.heap.size 5 i0 (.int .u8 0) 1 1 Tryd.underlying28 hi hz0 hz1 hz2 rfl (by decide) _ _ _ rfl (World.ownsRow.alloc hown _) ⟨_, 0, none⟩ 1 1 [.int .u8 1] rfl rfl (cell_one_new _ _ _) (by simp [Value.oneCell']) ?c3 ?c4 ?c5 ?_)
              case c3 => have := HM2.out; unfold maxLen; omega
              case c4 => have := HM2.out; omega
              case c5 => have := hbel.size; simp; omega
              intro v' w2 h1 hg1 _
              have hb2 : Below w1.heap.size w1 w2 := (hbel.alloc hbel.size _).grown hg1 (Nat.le_trans hbel.size (by simp)) (fun z hz => (World.ownsRow.lt hown z hz).1)
              have hown2 : w2.ownsRow w1.heap.size 5 1 v' (E ++ [1]).length ((E ++ [1]).map encD) := by
                rw [List.length_append, HE.out.2.1, List.map_append]
                exact h1
              clear h1 hg1 hown hbel
              go_wp2_with fail
              go_roundw
              case rel =>
                have hval : dval (E ++ [1]) = 2 * dval D + 1 := by rw [dval_snoc, HE.out.2.1]; exact HE.out.2.2
                refine ⟨k - 1, E ++ [1], by omega, by go_num, ⟨?_, ?_, ?_⟩, hown2, hb2⟩
                · intro z hz
                  rcases List.mem_append.1 hz with h1 | h1
                  · exact HE.out.1 z h1
                  · rw [List.mem_singleton.1 h1]; decide
                · rw [hval, bdrop_pred h0 HB.out, bval_cons, ← HI.out.2.1]
                  simp
                  try omega
                · intro _
                  rw [dval_snoc]
                  simp
              case measure => simp [intOf]; omega
end Go.Proofs.YtdmghakmhfhpiaaDoor
