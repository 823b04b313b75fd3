import Derived.Test.YtbippecchpaleaaGreatDoorGRDiv
import Derived.Test.YtbippecchpaleaaGreatDoorGRParse
import Derived.Deep.LoopGhost
import Derived.Test.YtbippecchpaleaaGreatDoorGLimbs
import Derived.Test.YtbippecchpaleaaGreatDoorGTx
import Derived.BigQuiet
/- litmusref01.Text: what it returns. -/
namespace Go.Proofs.YtbippecchpaleaaGreatDoor
open Go.RowKit Go.Num
attribute [local go_sem] Oper.semAt_some

abbrev encD (x : Nat) : Value := .int .u8 (x : Int)
theorem dbl_step {W P C X x y q s : Nat} (h : W + P * C = 2 * X + x) (hd : 2 * y + C = 10 * q + s) : (W + P * s) + (P * 10) * q = 2 * (X + P * y) + x := by
  have e : P * (2 * y + C) = P * (10 * q + s) := by rw [hd]
  have e1 : P * (2 * y + C) = 2 * (P * y) + P * C := by rw [Nat.mul_add, ← Nat.mul_assoc, Nat.mul_comm P 2, Nat.mul_assoc]
  have e2 : P * (10 * q + s) = (P * 10) * q + P * s := by rw [Nat.mul_add, ← Nat.mul_assoc]
  omega
theorem vdig_of_ge : ∀ {l : List Nat}, Dig l → (l ≠ [] → 10 ^ (l.length - 1) ≤ dval l) → vdig (dval l) = l
  | [], _, _ => by simp [vdig_zero]
  | x :: t, hd, hg => by
    have hx : x < 10 := hd x (by simp)
    have h1 := hg (by simp)
    have hpos : x + 10 * dval t ≠ 0 := by
      have : 0 < 10 ^ ((x :: t).length - 1) := Nat.pow_pos (by decide)
      have h2 : dval (x :: t) = x + 10 * dval t := rfl
      omega
    have e : dval (x :: t) = x + 10 * dval t := rfl
    rw [e, vdig_cons hx hpos, vdig_of_ge (fun y hy => hd y (by simp [hy])) (fun hne => ?_)]
    rw [e] at h1
    have hl : (x :: t).length - 1 = (t.length - 1) + 1 := by
      have : t.length ≠ 0 := fun h => hne (List.length_eq_zero_iff.1 h)
      simp; omega
    rw [hl, Nat.pow_succ] at h1
    omega
theorem dig_nil : Dig [] := fun x hx => by cases hx
theorem drop_set_here {α : Type} {l : List α} {k : Nat} {d : α} (hk : k < l.length) : (l.set k d).drop k = d :: l.drop (k + 1) := by
  rw [drop_get (y := d) (by rw [List.getElem?_set]; simp [hk]), List.drop_set, if_pos (by omega)]

set_option maxHeartbeats 16000000 in
set_option maxRecDepth 100000 in
theorem rtext_any (w : World) (va : Value) (la : List Nat) (a : Nat) (ha : Num w va la a) (hsa : la.length ≤ 10000) :
    Calls Tryz.prog 82 #[va] w fun e w' => e = .returned (.string ⟨(dec a).toArray⟩) ∧ Below w.heap.size w w' := by
  obtain ⟨i0, hi, hz0, hz1, hz2⟩ := info_parts infoY
  have hbl := bits_num (Nat.le_trans (sz_num ha) hsa)
  go_enter Tryz.func82, Tryz.ntmps82
  go_wp2_with fail
  refine (bits_of _ _ _ a ha).mono ?_
  rintro e w1 ⟨v1, rfl, g1, b1⟩
  obtain ⟨xs, hxs⟩ : ∃ xs, xs = Num.bits a := ⟨_, rfl⟩
  rw [← hxs] at g1 hbl
  obtain ⟨N, hN⟩ : ∃ N, xs.length = N := ⟨_, rfl⟩
  rw [hN] at hbl
  obtain ⟨Ax, cx, rfl, hcx, hr⟩ := g1.open_
  rw [hN] at hcx ⊢
  have HA := Lib.hid (show xs.length = N ∧ bval xs = a from ⟨hN, by rw [hxs, bval_bits]⟩)
  clear g1 hN hxs ha
  go_wp2_with fail
  go_loopw [4, 5] (fun dv iv wr => ∃ (k : Nat) (D : List Nat), k ≤ N ∧ iv = .int .i64 ((k : Int) - 1) ∧ Hid (Dig D ∧ dval D = bval (xs.drop k) ∧ (D ≠ [] → 10 ^ (D.length - 1) ≤ dval D)) ∧ wr.ownsRow w1.heap.size 5 1 dv D.length (D.map encD) ∧ Below w1.heap.size w1 wr) (fun _ iv _ => (intOf iv + 1).toNat)
  case atStart => exact ⟨N, [], Nat.le_refl _, rfl, And.intro dig_nil (And.intro (by rw [List.drop_of_length_le (by have := HA.out.1; omega)]; rfl) (fun h => absurd rfl h)), World.ownsRow_nil _ _ _ _, Below.refl _ _⟩
  case round =>
    obtain ⟨k, D, hk, rfl, HI, hown, hbel⟩ := hrel
    obtain ⟨m, hm⟩ : ∃ m, D.length = m := ⟨_, rfl⟩
    rw [hm] at hown
    have HM := Lib.hid hm
    obtain ⟨A, c, hv, hmc, hrd⟩ := (ownsRow_arg (enc := encD) (l := D) (by rw [hm]; exact hown)).open_
    rw [hm] at hv hmc
    subst hv
    have HM2 : Hid (m ≤ 400000) := by
      show m ≤ 400000
      rcases Nat.eq_zero_or_pos m with h9 | h9
      · omega
      · have h1 := HI.out.2.2 (by intro e0; rw [e0] at hm; simp at hm; omega)
        rw [hm, HI.out.2.1] at h1
        have h2 := bval_lt (xs.drop k)
        have h3 : 2 ^ (xs.drop k).length ≤ 2 ^ N := Nat.pow_le_pow_right (by decide) (by rw [List.length_drop]; have := HA.out.1; omega)
        have h4 : 2 ^ (m - 1) ≤ 10 ^ (m - 1) := Nat.pow_le_pow_left (by decide) _
        have h5 : 2 ^ (m - 1) < 2 ^ N := by omega
        have h6 := (Nat.pow_lt_pow_iff_right (a := 2) (by decide)).1 h5
        omega
    have hm4 : m ≤ 400000 := HM2.out
    clear hm hrd
    rcases Nat.eq_zero_or_pos k with h0 | h0
    · subst h0
      have hva : Hid (dval D = a) := by show dval D = a; rw [HI.out.2.1, List.drop_zero]; exact HA.out.2
      have hvd : Hid (vdig a = D) := by show vdig a = D; rw [← hva.out]; exact vdig_of_ge HI.out.1 HI.out.2.2
      rcases Nat.eq_zero_or_pos m with hm0 | hm0
      · have hD0 : D = [] := List.length_eq_zero_iff.1 (by have := HM.out; omega)
        have ha0 : Hid (dec a = [48]) := by
          show dec a = [48]
          have h1 := hva.out
          rw [hD0] at h1
          rw [← h1]; simp [dec]
        subst hm0
        clear hD0
        go_wp2_with fail
        go_ret
        exact ⟨by rw [ha0.out]; rfl, b1.trans (hbel.mono b1.size)⟩
      · have ha0 : a ≠ 0 := by
          intro e0
          have h1 := hvd.out
          rw [e0, vdig_zero] at h1
          have := HM.out
          rw [← h1] at this
          simp at this; omega
        have hda : Hid (dec a = (D.map Num.byteOf).reverse) := by
          show dec a = (D.map Num.byteOf).reverse
          unfold dec decs
          rw [if_neg ha0, hvd.out]
        have hmk := run_make_row' (P := Tryz.prog) 52 5 (.int .u8 0) 1 Tryz.underlying52 infoY rfl .i64 .i64 m (by omega) (by omega)
        have hstart : Inp 5 encY wr.heap.size (wr.alloc (.cells (madeCells #[.int .u8 0] m) 5)) wr.heap.size m m (List.replicate m 0) := Inp.made wr (0 : UInt8) (by omega) rfl
        obtain ⟨m', hm'⟩ : ∃ m', m = m' + 1 := ⟨m - 1, by omega⟩
        have hown2 := hown
        rw [hm'] at hown2
        obtain ⟨g, cap, hv⟩ := ownsRow_succ hown2
        clear hown2 hm'
        simp only [Value.slice.injEq] at hv
        obtain ⟨rfl, _, rfl⟩ := hv
        have hin0 : Inp 5 encD w1.heap.size wr g m c D := hown
        have HD9 := Lib.hid HI.out.1
        obtain ⟨wa, rfl⟩ : ∃ wa, wa = wr := ⟨_, rfl⟩
        clear hown ha0 hva hvd HI
        go_wp2_with fail
        go_loopw [10] (fun iv wq => ∃ (i : Nat) (O : List UInt8), i ≤ m ∧ iv = .int .i64 i ∧ Hid (O.drop (m - i) = ((D.take i).map Num.byteOf).reverse) ∧ Inp 5 encY wa.heap.size wq wa.heap.size m m O ∧ Below wa.heap.size wa wq) (fun iv _ => m - (intOf iv).toNat)
        case atStart => exact ⟨0, List.replicate m 0, Nat.zero_le _, rfl, by show List.drop (m - 0) (List.replicate m 0) = _; rw [List.drop_of_length_le (by simp)]; simp, hstart, (Below.refl _ wa).alloc (Nat.le_refl _) _⟩
        case round =>
          obtain ⟨i, O, hi9, rfl, HO, hin, hbq⟩ := hrel
          by_cases hlt : i < m
          · obtain ⟨y, hy⟩ := get_some (l := D) (k := i) (by have := HM.out; omega)
            have hcy := (hbq.cell hin0.lt).trans (hin0.cell hy)
            have hy9 : y < 10 := HD9.out y (List.mem_of_getElem? hy)
            obtain ⟨j, hj⟩ : ∃ j, j = m - 1 - i := ⟨_, rfl⟩
            have hji : (m : Int) - 1 - (i : Int) = (j : Int) := by omega
            have hjm : j < m := by omega
            obtain ⟨z, hz⟩ := get_some (l := O) (k := j) (by have := hin.len; omega)
            have hcz := hin.cell hz
            have hfz := hin.free j
            have HY := Lib.hid (And.intro hy (And.intro hj (len_of_get hz)))
            clear hy hj hz
            go_wp2_with fail
            go_roundw
            case rel =>
              obtain ⟨e1, e2, e3⟩ := HY.out
              have hby : encY (Num.byteOf y) = .int .u8 (48 + (y : Int)) := by
                show Value.int .u8 ((Num.byteOf y).toNat : Int) = _
                rw [Num.byteOf_toNat hy9]; simp
              have hin2 := hin.set j (Num.byteOf y)
              rw [hby] at hin2
              refine ⟨i + 1, O.set j (Num.byteOf y), by omega, by go_num, ?_, hin2, hbq.setCell (p := ⟨wa.heap.size, j, none⟩) (Nat.le_refl _) _⟩
              show List.drop (m - (i + 1)) _ = _
              rw [show m - (i + 1) = j by omega, drop_set_here e3, show j + 1 = m - i by omega, HO.out, take_snoc e1, List.map_append, List.reverse_append]
              rfl
            case measure => simp [intOf]; omega
          · have hO : Hid (O = (D.map Num.byteOf).reverse) := by
              have h1 := HO.out
              rw [show m - i = 0 by omega, List.drop_zero, take_all D (by have := HM.out; omega)] at h1
              exact h1
            have hback := conv_any wr _ O hin.arg
            have hend := b1.trans (hbel.trans (hbq.mono hbel.size) |>.mono b1.size)
            clear hin hbq
            go_wp2_with fail
            go_ret
            exact ⟨by rw [hda.out, ← hO.out]; rfl, hend⟩
    · obtain ⟨x, hx⟩ := get_some (l := xs) (k := k - 1) (by have := HA.out.1; omega)
      obtain ⟨b, o, rfl, hc0⟩ := hr.at_ hx
      have hc1 := (hbel.cell (World.block_lt_of_cell? w1 _ hc0)).trans hc0
      have HB := Lib.hid hx
      clear hx hc0
      cases x with
      | false =>
        go_wp2_with fail
        go_loopw [6, 7] (fun cv jv wq => ∃ (j C : Nat) (E : List Nat), j ≤ m ∧ jv = .int .i64 j ∧ cv = .int .u8 C ∧ C ≤ 1 ∧ Hid (Dig E ∧ E.length = m ∧ dval (E.take j) + 10 ^ j * C = 2 * dval (D.take j) + 0 ∧ E.drop j = D.drop j) ∧ wq.ownsRow w1.heap.size 5 1 (.slice A m c) m (E.map encD) ∧ Below w1.heap.size w1 wq) (fun _ jv _ => m - (intOf jv).toNat)
        case atStart => exact ⟨0, 0, D, Nat.zero_le _, rfl, rfl, by decide, ⟨HI.out.1, HM.out, by simp, rfl⟩, hown, hbel⟩
        case round =>
          clear hown hbel
          obtain ⟨j, C, E, hj, rfl, rfl, hC, HJ, hown, hbel⟩ := hrel
          by_cases hjm : j < m
          · obtain ⟨y, hy⟩ := get_some (l := E) (k := j) (by have := HJ.out.2.1; omega)
            obtain ⟨m', hm'⟩ : ∃ m', m = m' + 1 := ⟨m - 1, by omega⟩
            have hown2 := hown
            rw [hm'] at hown2
            obtain ⟨g, cap, hv⟩ := ownsRow_succ hown2
            clear hown2 hm'
            simp only [Value.slice.injEq] at hv
            obtain ⟨rfl, _, rfl⟩ := hv
            have hin : Inp 5 encD w1.heap.size wr g m c E := hown
            have hcy := hin.cell hy
            have hfz := hin.free j
            have hge := hin.base_le
            have hy9 : y < 10 := HJ.out.1 y (List.mem_of_getElem? hy)
            obtain ⟨d, hd⟩ : ∃ d, d = 2 * y + C := ⟨_, rfl⟩
            have hdi : (2 : Int) * (y : Int) + (C : Int) = (d : Int) := by omega
            have hd19 : d ≤ 19 := by omega
            obtain ⟨q, hq⟩ : ∃ q, q = d / 10 := ⟨_, rfl⟩
            obtain ⟨s, hs⟩ : ∃ s, s = d % 10 := ⟨_, rfl⟩
            have hqi : (d : Int) / 10 = (q : Int) := by omega
            have hsi : (d : Int) % 10 = (s : Int) := by omega
            have hq1 : q ≤ 1 := by omega
            have hs9 : s < 10 := by omega
            have HX := Lib.hid (And.intro hy (And.intro hd (And.intro hq hs)))
            clear hown hy hd hq hs
            go_wp2_with fail
            go_roundw
            case rel =>
              obtain ⟨e1, e2, e3, e4⟩ := HX.out
              obtain ⟨f1, f2, f3, f4⟩ := HJ.out
              refine ⟨j + 1, q, E.set j s, by omega, by go_num, by first | (simp; done) | (simp; exact hqi), hq1, ⟨?_, by rw [List.length_set, f2], ?_, ?_⟩, hin.set j s, hbel.setCell (p := ⟨g, j, none⟩) hge _⟩
              · intro z hz
                rcases List.mem_or_eq_of_mem_set hz with h1 | h1
                · exact f1 z h1
                · rw [h1]; exact hs9
              · have hDy : D[j]? = some y := by
                  have h1 := congrArg (fun l => l[0]?) f4
                  simp only [List.getElem?_drop, Nat.add_zero] at h1
                  rw [← h1]; exact e1
                have hset : (E.set j s)[j]? = some s := by rw [List.getElem?_set]; simp [len_of_get e1]
                rw [take_snoc hset, take_set_same, take_snoc hDy, dval_snoc, dval_snoc, List.length_take, List.length_take, Nat.min_eq_left (by omega), Nat.min_eq_left (by have := HM.out; omega)]
                exact dbl_step f3 (by omega)
              · rw [List.drop_set, if_pos (by omega)]
                have h1 := congrArg (List.drop 1) f4
                simpa [List.drop_drop] using h1
            case measure => simp [intOf]; omega
          · have hjm' : j = m := by omega
            obtain ⟨f1, f2, f3, f4⟩ := HJ.out
            rw [take_all E (by omega), take_all D (by have := HM.out; omega)] at f3
            have HE := Lib.hid (And.intro f1 (And.intro f2 f3))
            clear f1 f2 f3 f4 HJ hj
            subst hjm'
            have hC01 : C = 0 ∨ C = 1 := by omega
            rcases hC01 with hC0 | hC0
            · subst hC0
              go_wp2_with fail
              go_roundw
              case rel =>
                refine ⟨k - 1, E, by omega, by go_num, ⟨HE.out.1, ?_, ?_⟩, by rw [HE.out.2.1]; exact hown, hbel⟩
                · rw [bdrop_pred h0 HB.out, bval_cons, ← HI.out.2.1]
                  have := HE.out.2.2
                  simp at this ⊢; omega
                · intro hne
                  have h2 := HI.out.2.2 (by intro e0; have := HM.out; rw [e0] at this; have h3 := HE.out.2.1; simp at this; exact hne (List.length_eq_zero_iff.1 (by omega)))
                  rw [HM.out] at h2
                  rw [HE.out.2.1]
                  have := HE.out.2.2
                  omega
              case measure => simp [intOf]; omega
            · subst hC0
              go_wp2_with (at_builtin; refine wpList_append_own _ rfl _ _ 52 rfl w1.heap.size 5 i0 (.int .u8 0) 1 1 Tryz.underlying52 hi hz0 hz1 hz2 rfl (by decide) _ _ _ rfl (World.ownsRow.alloc hown _) ⟨_, 0, none⟩ 1 1 [.int .u8 1] rfl rfl (cell_one_new _ _ _) (by simp [Value.oneCell']) ?c3 ?c4 ?c5 ?_)
              case c3 => have := HM2.out; unfold maxLen; omega
              case c4 => have := HM2.out; omega
              case c5 => have := hbel.size; simp; omega
              intro v' w2 h1 hg1 _
              have hb2 : Below w1.heap.size w1 w2 := (hbel.alloc hbel.size _).grown hg1 (Nat.le_trans hbel.size (by simp)) (fun z hz => (World.ownsRow.lt hown z hz).1)
              have hown2 : w2.ownsRow w1.heap.size 5 1 v' (E ++ [1]).length ((E ++ [1]).map encD) := by
                rw [List.length_append, HE.out.2.1, List.map_append]
                exact h1
              clear h1 hg1 hown hbel
              go_wp2_with fail
              go_roundw
              case rel =>
                have hval : dval (E ++ [1]) = 2 * dval D + 0 := by rw [dval_snoc, HE.out.2.1]; exact HE.out.2.2
                refine ⟨k - 1, E ++ [1], by omega, by go_num, ⟨?_, ?_, ?_⟩, hown2, hb2⟩
                · intro z hz
                  rcases List.mem_append.1 hz with h1 | h1
                  · exact HE.out.1 z h1
                  · rw [List.mem_singleton.1 h1]; decide
                · rw [hval, bdrop_pred h0 HB.out, bval_cons, ← HI.out.2.1]
                  simp
                  try omega
                · intro _
                  rw [dval_snoc]
                  simp
              case measure => simp [intOf]; omega
      | true =>
        go_wp2_with fail
        go_loopw [6, 7] (fun cv jv wq => ∃ (j C : Nat) (E : List Nat), j ≤ m ∧ jv = .int .i64 j ∧ cv = .int .u8 C ∧ C ≤ 1 ∧ Hid (Dig E ∧ E.length = m ∧ dval (E.take j) + 10 ^ j * C = 2 * dval (D.take j) + 1 ∧ E.drop j = D.drop j) ∧ wq.ownsRow w1.heap.size 5 1 (.slice A m c) m (E.map encD) ∧ Below w1.heap.size w1 wq) (fun _ jv _ => m - (intOf jv).toNat)
        case atStart => exact ⟨0, 1, D, Nat.zero_le _, rfl, rfl, by decide, ⟨HI.out.1, HM.out, by simp, rfl⟩, hown, hbel⟩
        case round =>
          clear hown hbel
          obtain ⟨j, C, E, hj, rfl, rfl, hC, HJ, hown, hbel⟩ := hrel
          by_cases hjm : j < m
          · obtain ⟨y, hy⟩ := get_some (l := E) (k := j) (by have := HJ.out.2.1; omega)
            obtain ⟨m', hm'⟩ : ∃ m', m = m' + 1 := ⟨m - 1, by omega⟩
            have hown2 := hown
            rw [hm'] at hown2
            obtain ⟨g, cap, hv⟩ := ownsRow_succ hown2
            clear hown2 hm'
            simp only [Value.slice.injEq] at hv
            obtain ⟨rfl, _, rfl⟩ := hv
            have hin : Inp 5 encD w1.heap.size wr g m c E := hown
            have hcy := hin.cell hy
            have hfz := hin.free j
            have hge := hin.base_le
            have hy9 : y < 10 := HJ.out.1 y (List.mem_of_getElem? hy)
            obtain ⟨d, hd⟩ : ∃ d, d = 2 * y + C := ⟨_, rfl⟩
            have hdi : (2 : Int) * (y : Int) + (C : Int) = (d : Int) := by omega
            have hd19 : d ≤ 19 := by omega
            obtain ⟨q, hq⟩ : ∃ q, q = d / 10 := ⟨_, rfl⟩
            obtain ⟨s, hs⟩ : ∃ s, s = d % 10 := ⟨_, rfl⟩
            have hqi : (d : Int) / 10 = (q : Int) := by omega
            have hsi : (d : Int) % 10 = (s : Int) := by omega
            have hq1 : q ≤ 1 := by omega
            have hs9 : s < 10 := by omega
            have HX := Lib.hid (And.intro hy (And.intro hd (And.intro hq hs)))
            clear hown hy hd hq hs
            go_wp2_with fail
            go_roundw
            case rel =>
              obtain ⟨e1, e2, e3, e4⟩ := HX.out
              obtain ⟨f1, f2, f3, f4⟩ := HJ.out
              refine ⟨j + 1, q, E.set j s, by omega, by go_num, by first | (simp; done) | (simp; exact hqi), hq1, ⟨?_, by rw [List.length_set, f2], ?_, ?_⟩, hin.set j s, hbel.setCell (p := ⟨g, j, none⟩) hge _⟩
              · intro z hz
                rcases List.mem_or_eq_of_mem_set hz with h1 | h1
                · exact f1 z h1
                · rw [h1]; exact hs9
              · have hDy : D[j]? = some y := by
                  have h1 := congrArg (fun l => l[0]?) f4
                  simp only [List.getElem?_drop, Nat.add_zero] at h1
                  rw [← h1]; exact e1
                have hset : (E.set j s)[j]? = some s := by rw [List.getElem?_set]; simp [len_of_get e1]
                rw [take_snoc hset, take_set_same, take_snoc hDy, dval_snoc, dval_snoc, List.length_take, List.length_take, Nat.min_eq_left (by omega), Nat.min_eq_left (by have := HM.out; omega)]
                exact dbl_step f3 (by omega)
              · rw [List.drop_set, if_pos (by omega)]
                have h1 := congrArg (List.drop 1) f4
                simpa [List.drop_drop] using h1
            case measure => simp [intOf]; omega
          · have hjm' : j = m := by omega
            obtain ⟨f1, f2, f3, f4⟩ := HJ.out
            rw [take_all E (by omega), take_all D (by have := HM.out; omega)] at f3
            have HE := Lib.hid (And.intro f1 (And.intro f2 f3))
            clear f1 f2 f3 f4 HJ hj
            subst hjm'
            have hC01 : C = 0 ∨ C = 1 := by omega
            rcases hC01 with hC0 | hC0
            · subst hC0
              go_wp2_with fail
              go_roundw
              case rel =>
                refine ⟨k - 1, E, by omega, by go_num, ⟨HE.out.1, ?_, ?_⟩, by rw [HE.out.2.1]; exact hown, hbel⟩
                · rw [bdrop_pred h0 HB.out, bval_cons, ← HI.out.2.1]
                  have := HE.out.2.2
                  simp at this ⊢; omega
                · intro hne
                  have h2 := HI.out.2.2 (by intro e0; have := HM.out; rw [e0] at this; have h3 := HE.out.2.1; simp at this; exact hne (List.length_eq_zero_iff.1 (by omega)))
                  rw [HM.out] at h2
                  rw [HE.out.2.1]
                  have := HE.out.2.2
                  omega
              case measure => simp [intOf]; omega
            · subst hC0
              go_wp2_with (at_builtin; refine wpList_append_own _ rfl _ _ 52 rfl w1.heap.size 5 i0 (.int .u8 0) 1 1 Tryz.underlying52 hi hz0 hz1 hz2 rfl (by decide) _ _ _ rfl (World.ownsRow.alloc hown _) ⟨_, 0, none⟩ 1 1 [.int .u8 1] rfl rfl (cell_one_new _ _ _) (by simp [Value.oneCell']) ?c3 ?c4 ?c5 ?_)
              case c3 => have := HM2.out; unfold maxLen; omega
              case c4 => have := HM2.out; omega
              case c5 => have := hbel.size; simp; omega
              intro v' w2 h1 hg1 _
              have hb2 : Below w1.heap.size w1 w2 := (hbel.alloc hbel.size _).grown hg1 (Nat.le_trans hbel.size (by simp)) (fun z hz => (World.ownsRow.lt hown z hz).1)
              have hown2 : w2.ownsRow w1.heap.size 5 1 v' (E ++ [1]).length ((E ++ [1]).map encD) := by
                rw [List.length_append, HE.out.2.1, List.map_append]
                exact h1
              clear h1 hg1 hown hbel
              go_wp2_with fail
              go_roundw
              case rel =>
                have hval : dval (E ++ [1]) = 2 * dval D + 1 := by rw [dval_snoc, HE.out.2.1]; exact HE.out.2.2
                refine ⟨k - 1, E ++ [1], by omega, by go_num, ⟨?_, ?_, ?_⟩, hown2, hb2⟩
                · intro z hz
                  rcases List.mem_append.1 hz with h1 | h1
                  · exact HE.out.1 z h1
                  · rw [List.mem_singleton.1 h1]; decide
                · rw [hval, bdrop_pred h0 HB.out, bval_cons, ← HI.out.2.1]
                  simp
                  try omega
                · intro _
                  rw [dval_snoc]
                  simp
              case measure => simp [intOf]; omega
end Go.Proofs.YtbippecchpaleaaGreatDoor
/- litmusref01.mul: what it returns. -/
namespace Go.Proofs.YtbippecchpaleaaGreatDoor
open Go.RowKit Go.Num
attribute [local go_sem] Oper.semAt_some

def nval : List Nat → Nat
  | [] => 0
  | x :: l => x + 2 * nval l
theorem nval_cons (x : Nat) (l : List Nat) : nval (x :: l) = x + 2 * nval l := rfl
theorem nval_set {l : List Nat} {j x : Nat} (h : l[j]? = some x) : nval (l.set j (x + 1)) = nval l + 2 ^ j := by
  induction l generalizing j with
  | nil => simp at h
  | cons y l ih =>
    cases j with
    | zero =>
      simp at h
      subst h
      simp [nval_cons]; omega
    | succ j =>
      have := ih (j := j) (by simpa using h)
      simp only [List.set_cons_succ, nval_cons, this, Nat.pow_succ]
      omega
theorem nsum_set {l : List Nat} {j x : Nat} (h : l[j]? = some x) : (l.set j (x + 1)).sum = l.sum + 1 := by
  induction l generalizing j with
  | nil => simp at h
  | cons y l ih =>
    cases j with
    | zero =>
      simp at h
      subst h
      simp; omega
    | succ j =>
      have := ih (j := j) (by simpa using h)
      simp only [List.set_cons_succ, List.sum_cons, this]
      omega
theorem nsum_mem {l : List Nat} {j x : Nat} (h : l[j]? = some x) : x ≤ l.sum := by
  induction l generalizing j with
  | nil => simp at h
  | cons y l ih =>
    cases j with
    | zero =>
      simp at h
      subst h
      simp
    | succ j =>
      have := ih (j := j) (by simpa using h)
      simp only [List.sum_cons]
      omega
theorem nval_snoc (l : List Nat) (x : Nat) : nval (l ++ [x]) = nval l + 2 ^ l.length * x := by
  induction l with
  | nil => simp [nval]
  | cons y l ih =>
    simp only [List.cons_append, nval_cons, ih, List.length_cons, Nat.pow_succ]
    rw [Nat.mul_add, Nat.mul_comm (2 ^ l.length) 2, Nat.mul_assoc]; omega
theorem nval_zeros (n : Nat) : nval (List.replicate n 0) = 0 := by
  induction n with
  | zero => rfl
  | succ n ih => simp [List.replicate_succ, nval_cons, ih]
theorem nsum_snoc (l : List Nat) (x : Nat) : (l ++ [x]).sum = l.sum + x := by simp
theorem carry_step {P W V c x S r q : Nat} (h : W + P * c = V) (hS : S = c + x) (hq : S = r + 2 * q) : (W + P * r) + (P * 2) * q = V + P * x := by
  have e : P * S = P * (r + 2 * q) := by rw [← hq]
  rw [hS, Nat.mul_add, Nat.mul_add, ← Nat.mul_assoc] at e
  omega
theorem carry_done {r : List Bool} {L c A B : Nat} (h : bval r + 2 ^ L * c = A * B) (hA : A * B < 2 ^ L) : bval r = A * B := by
  rcases Nat.eq_zero_or_pos c with h0 | h0
  · subst h0; simpa using h
  · have : 2 ^ L * 1 ≤ 2 ^ L * c := Nat.mul_le_mul_left _ h0
    omega
theorem infoI : (Tryz.prog.info? 3).map (fun i => (i.zero, i.size, i.bytes)) = some (some (.int .i64 0), 1, 8) := by kernel_rfl

set_option maxHeartbeats 8000000 in
set_option maxRecDepth 100000 in
theorem rmul_any (w : World) (va vb : Value) (la lb : List Bool) (hA : Arg encB w va la) (hB : Arg encB w vb lb) (hla : la.length ≤ 1000000) (hlb : lb.length ≤ 1000000) :
    Calls Tryz.prog 123 #[va, vb] w fun e w' => ∃ v', e = .returned v' ∧ Arg encB w' v' (Num.bits (bval la * bval lb)) ∧ Below w.heap.size w w' := by
  obtain ⟨i0, hi, hz0, hz1, hz2⟩ := info_parts infoB
  obtain ⟨A1, c1, rfl, hcl1, hr1⟩ := hA.open_
  obtain ⟨A2, c2, rfl, hcl2, hr2⟩ := hB.open_
  obtain ⟨N, hN⟩ : ∃ N, la.length = N := ⟨_, rfl⟩
  obtain ⟨M, hM⟩ : ∃ M, lb.length = M := ⟨_, rfl⟩
  rw [hN] at hcl1 hla ⊢
  rw [hM] at hcl2 hlb ⊢
  obtain ⟨L, hL⟩ : ∃ L, L = N + M := ⟨_, rfl⟩
  have hLi : (N : Int) + (M : Int) = (L : Int) := by omega
  have hmk := run_make_row' (P := Tryz.prog) 130 3 (.int .i64 0) 8 Tryz.underlying130 infoI rfl .i64 .i64 L (by omega) (by omega)
  have hstart : Inp 3 Num.encI w.heap.size (w.alloc (.cells (madeCells #[.int .i64 0] L) 3)) w.heap.size L L (List.replicate L 0) := Inp.made w 0 (by omega) rfl
  have hLb : L ≤ 2000000 := by omega
  have HN := Lib.hid (And.intro hN (And.intro hM hL))
  clear hN hM hA hB hL
  go_enter Tryz.func123, Tryz.ntmps123
  go_wp2_with fail
  go_loopw [6] (fun i wr => ∃ (k : Nat) (n : List Nat), k ≤ N ∧ i = .int .i64 k ∧ Hid (nval n = bval (la.take k) * bval lb ∧ n.sum ≤ k * M) ∧ Inp 3 Num.encI w.heap.size wr w.heap.size L L n ∧ Below w.heap.size w wr) (fun i _ => N - (intOf i).toNat)
  case atStart => exact ⟨0, List.replicate L 0, Nat.zero_le _, rfl, ⟨by rw [nval_zeros]; simp, by simp⟩, hstart, (Below.refl _ w).alloc (Nat.le_refl _) _⟩
  case round =>
    obtain ⟨k, n, hk, rfl, HI, hin, hbel⟩ := hrel
    clear hmk hstart
    by_cases hlt : k < N
    · obtain ⟨x, hx⟩ := get_some (l := la) (k := k) (by have := HN.out.1; omega)
      obtain ⟨b1, o1, rfl, hc0⟩ := hr1.at_ hx
      have HX := Lib.hid hx
      clear hx
      go_wp2_with fail
      go_loopw [7] (fun j wr => ∃ (q : Nat) (n : List Nat), q ≤ M ∧ j = .int .i64 q ∧ Hid (nval n = bval (la.take k) * bval lb + 2 ^ k * bval (lb.take q) * x.toNat ∧ n.sum ≤ k * M + q ∧ (x = false → n.sum ≤ k * M)) ∧ Inp 3 Num.encI w.heap.size wr w.heap.size L L n ∧ Below w.heap.size w wr) (fun j _ => M - (intOf j).toNat)
      case atStart => exact ⟨0, n, Nat.zero_le _, rfl, ⟨by rw [HI.out.1]; simp, HI.out.2, fun _ => HI.out.2⟩, hin, hbel⟩
      case round =>
        clear hin hbel n HI
        obtain ⟨q, n, hq, rfl, HI, hin, hbel⟩ := hrel
        have hc1 := (hbel.cell (World.block_lt_of_cell? w _ hc0)).trans hc0
        cases x with
        | false =>
          go_wp2_with fail
          go_roundw
          case rel =>
            refine ⟨k + 1, n, by omega, by go_num, ⟨?_, ?_⟩, hin, hbel⟩
            · rw [HI.out.1, take_snoc HX.out, bval_snoc]; simp
            · have := HI.out.2.2 rfl
              rw [Nat.add_mul]; omega
          case measure => simp [intOf]; omega
        | true =>
          by_cases hqM : q < M
          · obtain ⟨y, hy⟩ := get_some (l := lb) (k := q) (by have := HN.out.2.1; omega)
            obtain ⟨b2, o2, rfl, hd0⟩ := hr2.at_ hy
            have hd1 := (hbel.cell (World.block_lt_of_cell? w _ hd0)).trans hd0
            have HY := Lib.hid hy
            clear hy hd0
            cases y with
            | false =>
              go_wp2_with fail
              go_roundw
              case rel =>
                refine ⟨q + 1, n, by omega, by go_num, ⟨?_, ?_, fun h => by cases h⟩, hin, hbel⟩
                · rw [HI.out.1, take_snoc HY.out, bval_snoc]; simp
                · have := HI.out.2.1; omega
              case measure => simp [intOf]; omega
            | true =>
              have hkL : k + q < L := by have := HN.out.2.2; omega
              obtain ⟨z, hz⟩ := get_some (l := n) (k := k + q) (by have := hin.len; omega)
              have hcz := hin.cell hz
              have hfz := hin.free (k + q)
              have hzb : z ≤ 2000000000000 := by
                have h1 := nsum_mem hz
                have h2 := HI.out.2.1
                have h3 : k * M ≤ 1000000 * 1000000 := Nat.mul_le_mul (by omega) (by omega)
                omega
              have hge : w.heap.size ≤ w.heap.size := Nat.le_refl _
              have HZ := Lib.hid hz
              clear hz
              have hij : (k : Int) + (q : Int) = ((k + q : Nat) : Int) := by omega
              obtain ⟨J, hJ⟩ : ∃ J, J = k + q := ⟨_, rfl⟩
              rw [← hJ] at hcz hfz hij hkL
              have HJ := Lib.hid hJ
              clear hJ
              go_wp2_with fail
              go_roundw
              case rel =>
                refine ⟨q + 1, n.set J (z + 1), by omega, by go_num, ⟨?_, ?_, fun h => by cases h⟩, hin.set J (z + 1), hbel.setCell (p := ⟨w.heap.size, J, none⟩) hge _⟩
                · rw [HJ.out, nval_set HZ.out, HI.out.1, take_snoc HY.out, bval_snoc, List.length_take, Nat.min_eq_left (by have := HN.out.2.1; omega), Nat.pow_add, Nat.mul_add]
                  simp; omega
                · rw [HJ.out, nsum_set HZ.out]; have := HI.out.2.1; omega
              case measure => simp [intOf]; omega
          · go_wp2_with fail
            go_roundw
            case rel =>
              refine ⟨k + 1, n, by omega, by go_num, ⟨?_, ?_⟩, hin, hbel⟩
              · rw [HI.out.1, take_all lb (by have := HN.out.2.1; omega), take_snoc HX.out, bval_snoc, List.length_take, Nat.min_eq_left (by have := HN.out.1; omega), Nat.add_mul]
                simp
              · have := HI.out.2.1
                rw [Nat.add_mul]; omega
            case measure => simp [intOf]; omega
    · have e1 := HI.out.1
      rw [take_all la (by have := HN.out.1; omega)] at e1
      have e2 : n.sum ≤ 1000000 * 1000000 := Nat.le_trans HI.out.2 (Nat.mul_le_mul (by omega) (by omega))
      have HE := Lib.hid (And.intro e1 e2)
      clear e1 e2 HI
      go_wp2_with fail
      go_loopw [8, 9, 10] (fun out cv i wr => ∃ (k c : Nat) (r : List Bool), k ≤ L ∧ i = .int .i64 k ∧ cv = .int .i64 c ∧ r.length = k ∧ Hid (bval r + 2 ^ k * c = nval (n.take k) ∧ c ≤ (n.take k).sum) ∧ c ≤ 1000000000000 ∧ OwnB 4 w.heap.size wr out r ∧ Inp 3 Num.encI w.heap.size wr w.heap.size L L n ∧ Below w.heap.size w wr) (fun _ _ i _ => L - (intOf i).toNat)
      case atStart => exact ⟨0, 0, [], Nat.zero_le _, rfl, rfl, rfl, ⟨rfl, by simp⟩, by omega, OwnB.nil_ _ _ _, hin, hbel⟩
      case round =>
        clear hin hbel
        obtain ⟨j, c, r, hj, rfl, rfl, hlen, HI, hcb, hown, hin, hbel⟩ := hrel
        have Hlen := Lib.hid hlen
        clear hlen
        by_cases hlt : j < L
        · obtain ⟨z, hz⟩ := get_some (l := n) (k := j) (by have := hin.len; omega)
          have hcz := hin.cell hz
          have hzb : z ≤ 1000000000000 := Nat.le_trans (nsum_mem hz) HE.out.2
          obtain ⟨S, hS⟩ : ∃ S, S = c + z := ⟨_, rfl⟩
          have hSi : (c : Int) + (z : Int) = (S : Int) := by omega
          have hSb : S ≤ 2000000000000 := by omega
          have hS1 : S ≤ (n.take (j + 1)).sum := by rw [take_snoc hz, nsum_snoc]; have := HI.out.2; omega
          have hS2 : S / 2 ≤ 1000000000000 := by omega
          obtain ⟨q, hq⟩ : ∃ q, q = S / 2 := ⟨_, rfl⟩
          have hqi : (S : Int) / 2 = (q : Int) := by omega
          rw [← hq] at hS2
          have HS := Lib.hid (And.intro hS (And.intro hq (And.intro hS1 hz)))
          have hmod : S % 2 = 0 ∨ S % 2 = 1 := by omega
          clear hS hq hS1 hz
          rcases hmod with hmod | hmod
          · have hmi : (S : Int) % 2 = 0 := by omega
            have HM := Lib.hid hmod
            clear hmod
            go_wp2_with (at_builtin; refine wpList_append_own _ rfl _ _ 93 rfl w.heap.size 4 i0 (.bool false) 1 1 Tryz.underlying93 hi hz0 hz1 hz2 rfl (by decide) _ _ _ rfl (World.ownsRow.alloc hown.row _) ⟨wr.heap.size, 0, none⟩ 1 1 [.bool false] rfl rfl (cell_one_new _ _ _) (by simp [Value.oneCell']) ?c3 ?c4 ?c5 ?_)
            case c3 => have := Hlen.out; unfold maxLen; omega
            case c4 => have := Hlen.out; omega
            case c5 => have := hbel.size; simp; omega
            intro v' w1 h1 hg1 _
            obtain ⟨hown1, hb1⟩ := hown.pushed hbel h1 hg1 (d := false) rfl
            have h7 := hin.alloc (.cells #[.bool false] 4)
            have h8 := World.ownsRow.alloc hown.row (.cells #[.bool false] 4)
            have hin1 : Inp 3 Num.encI w.heap.size w1 w.heap.size L L n := World.ownsRow.kept h7 hg1 (rows_apart h7 h8 (by decide))
            clear h7 h8
            clear h1 hg1 hown hin hbel hcz
            go_wp2_with fail
            go_roundw
            case rel =>
              refine ⟨j + 1, q, r ++ [false], by omega, by go_num, by simp, by simp [Hlen.out], ⟨?_, ?_⟩, hS2, hown1, hin1, hb1⟩
              · obtain ⟨e1, e2, _, e4⟩ := HS.out
                rw [bval_snoc, Hlen.out, take_snoc e4, nval_snoc, List.length_take, Nat.min_eq_left (by have := hin1.len; omega), Nat.pow_succ]
                exact carry_step (r := 0) HI.out.1 e1 (by have := HM.out; omega)
              · obtain ⟨e1, e2, e3, _⟩ := HS.out
                omega
            case measure => simp [intOf]; omega
          · have hmi : (S : Int) % 2 = 1 := by omega
            have HM := Lib.hid hmod
            clear hmod
            go_wp2_with (at_builtin; refine wpList_append_own _ rfl _ _ 93 rfl w.heap.size 4 i0 (.bool false) 1 1 Tryz.underlying93 hi hz0 hz1 hz2 rfl (by decide) _ _ _ rfl (World.ownsRow.alloc hown.row _) ⟨wr.heap.size, 0, none⟩ 1 1 [.bool true] rfl rfl (cell_one_new _ _ _) (by simp [Value.oneCell']) ?c3 ?c4 ?c5 ?_)
            case c3 => have := Hlen.out; unfold maxLen; omega
            case c4 => have := Hlen.out; omega
            case c5 => have := hbel.size; simp; omega
            intro v' w1 h1 hg1 _
            obtain ⟨hown1, hb1⟩ := hown.pushed hbel h1 hg1 (d := true) rfl
            have h7 := hin.alloc (.cells #[.bool true] 4)
            have h8 := World.ownsRow.alloc hown.row (.cells #[.bool true] 4)
            have hin1 : Inp 3 Num.encI w.heap.size w1 w.heap.size L L n := World.ownsRow.kept h7 hg1 (rows_apart h7 h8 (by decide))
            clear h7 h8
            clear h1 hg1 hown hin hbel hcz
            go_wp2_with fail
            go_roundw
            case rel =>
              refine ⟨j + 1, q, r ++ [true], by omega, by go_num, by simp, by simp [Hlen.out], ⟨?_, ?_⟩, hS2, hown1, hin1, hb1⟩
              · obtain ⟨e1, e2, _, e4⟩ := HS.out
                rw [bval_snoc, Hlen.out, take_snoc e4, nval_snoc, List.length_take, Nat.min_eq_left (by have := hin1.len; omega), Nat.pow_succ]
                exact carry_step (r := 1) HI.out.1 e1 (by have := HM.out; omega)
              · obtain ⟨e1, e2, e3, _⟩ := HS.out
                omega
            case measure => simp [intOf]; omega
        · have e1 := HI.out.1
          rw [take_all n (by have := hin.len; omega), HE.out.1] at e1
          have e2 : bval la * bval lb < 2 ^ j := by
            have h1 : j = N + M := by have := HN.out.2.2; omega
            rw [h1, Nat.pow_add, ← HN.out.1, ← HN.out.2.1]
            exact Nat.mul_lt_mul'' (bval_lt la) (bval_lt lb)
          have HF := Lib.hid (carry_done e1 e2)
          have hra := hown.arg
          clear e1 e2 hin
          go_wp2_with fail
          refine (rtrim_any _ _ _ hra (by rw [Hlen.out]; omega)).mono ?_
          rintro e w2 ⟨v2, rfl, hw2, h5⟩
          subst w2
          go_wp2_with fail
          go_ret
          refine ⟨_, rfl, ?_, hbel⟩
          rw [← HF.out, bits_bval]
          exact h5
end Go.Proofs.YtbippecchpaleaaGreatDoor
/- litmusref01's Trim, Cmp, Add, Sub, Mul, Div: what each returns. -/
namespace Go.Proofs.YtbippecchpaleaaGreatDoor
open Go.RowKit Go.Num
attribute [local go_sem] Oper.semAt_some
theorem bits_small {w : World} {v : Value} {l : List Nat} {n : Nat} (h : Num w v l n) (hl : l.length ≤ 1000) : (Num.bits n).length ≤ 32000 := bits_num (Nat.le_trans (sz_num h) hl)

theorem bits_mul_len {a b k : Nat} (ha : (Num.bits a).length ≤ k) (hb : (Num.bits b).length ≤ k) : (Num.bits (a * b)).length ≤ k + k := by
  have h1 := (bits_length_le a k).1 ha
  have h2 := (bits_length_le b k).1 hb
  refine (bits_length_le _ _).2 ?_
  rw [Nat.pow_add]
  exact Nat.mul_lt_mul'' h1 h2

set_option maxHeartbeats 1000000 in
theorem rTrim_any (w : World) (va : Value) (la : List Nat) (a : Nat) (ha : Num w va la a) (hl : la.length ≤ 1000) :
    Calls Tryz.prog 51 #[va] w fun e w' => ∃ v', e = .returned v' ∧ Arg encU w' v' (limbs a) ∧ Below w.heap.size w w' := by
  have hs := Lib.hid (bits_small ha hl)
  go_enter Tryz.func51, Tryz.ntmps51
  go_wp2_with fail
  refine (bits_of _ _ _ a ha).mono ?_
  rintro e w1 ⟨v1, rfl, g1, b1⟩
  go_wp2_with fail
  refine (rlimbs_of _ _ a g1 (Nat.le_trans hs.out (by decide))).mono ?_
  rintro e w2 ⟨v2, rfl, g2, b2⟩
  go_wp2_with fail
  go_ret
  exact ⟨_, rfl, g2, b1.trans (b2.mono b1.size)⟩

set_option maxHeartbeats 2000000 in
theorem rAdd_any (w : World) (va vb : Value) (la lb : List Nat) (a b : Nat) (ha : Num w va la a) (hb : Num w vb lb b) (hla : la.length ≤ 1000) (hlb : lb.length ≤ 1000) :
    Calls Tryz.prog 76 #[va, vb] w fun e w' => ∃ v', e = .returned v' ∧ Arg encU w' v' (limbs (a + b)) ∧ Below w.heap.size w w' := by
  have hsa := Lib.hid (bits_small ha hla)
  have hsb := Lib.hid (bits_small hb hlb)
  go_enter Tryz.func76, Tryz.ntmps76
  go_wp2_with fail
  refine (bits_of _ _ _ a ha).mono ?_
  rintro e w1 ⟨v1, rfl, g1, b1⟩
  go_wp2_with fail
  refine (bits_of _ _ _ b (hb.below b1)).mono ?_
  rintro e w2 ⟨v2, rfl, g2, b2⟩
  replace g1 := g1.below b2
  replace b1 := b1.trans (b2.mono b1.size)
  clear b2 ha hb
  go_wp2_with fail
  refine (radd_any _ _ _ (Num.bits a) (Num.bits b) g1 g2 (Nat.le_trans hsa.out (by decide)) (Nat.le_trans hsb.out (by decide))).mono ?_
  rintro e w3 ⟨v3, r3, rfl, g3, b3, e3, l3⟩
  rw [bval_bits, bval_bits] at e3
  have H3 := Lib.hid (And.intro e3 (show r3.length ≤ 30000000 by have := hsa.out; have := hsb.out; omega))
  clear e3 l3
  go_wp2_with fail
  refine (rlimbs_any _ _ r3 g3 H3.out.2).mono ?_
  rintro e w4 ⟨v4, rfl, g4, b4⟩
  rw [H3.out.1] at g4
  go_wp2_with fail
  go_ret
  exact ⟨_, rfl, g4, (b1.trans (b3.mono b1.size)).trans (b4.mono (Nat.le_trans b1.size b3.size))⟩

set_option maxHeartbeats 2000000 in
theorem rMul_any (w : World) (va vb : Value) (la lb : List Nat) (a b : Nat) (ha : Num w va la a) (hb : Num w vb lb b) (hla : la.length ≤ 1000) (hlb : lb.length ≤ 1000) :
    Calls Tryz.prog 97 #[va, vb] w fun e w' => ∃ v', e = .returned v' ∧ Arg encU w' v' (limbs (a * b)) ∧ Below w.heap.size w w' := by
  have hsa := Lib.hid (bits_small ha hla)
  have hsb := Lib.hid (bits_small hb hlb)
  go_enter Tryz.func97, Tryz.ntmps97
  go_wp2_with fail
  refine (bits_of _ _ _ a ha).mono ?_
  rintro e w1 ⟨v1, rfl, g1, b1⟩
  go_wp2_with fail
  refine (bits_of _ _ _ b (hb.below b1)).mono ?_
  rintro e w2 ⟨v2, rfl, g2, b2⟩
  replace g1 := g1.below b2
  replace b1 := b1.trans (b2.mono b1.size)
  clear b2 ha hb
  go_wp2_with fail
  refine (rmul_any _ _ _ (Num.bits a) (Num.bits b) g1 g2 (Nat.le_trans hsa.out (by decide)) (Nat.le_trans hsb.out (by decide))).mono ?_
  rintro e w3 ⟨v3, rfl, g3, b3⟩
  rw [bval_bits, bval_bits] at g3
  have hm := bits_mul_len hsa.out hsb.out
  have HM := Lib.hid hm
  clear hm
  go_wp2_with fail
  refine (rlimbs_of _ _ (a * b) g3 (Nat.le_trans HM.out (by decide))).mono ?_
  rintro e w4 ⟨v4, rfl, g4, b4⟩
  go_wp2_with fail
  go_ret
  exact ⟨_, rfl, g4, (b1.trans (b3.mono b1.size)).trans (b4.mono (Nat.le_trans b1.size b3.size))⟩

set_option maxHeartbeats 4000000 in
theorem rSub_yes (w : World) (va vb : Value) (la lb : List Nat) (a b : Nat) (ha : Num w va la a) (hb : Num w vb lb b) (hla : la.length ≤ 1000) (hlb : lb.length ≤ 1000) (h : b ≤ a) :
    Calls Tryz.prog 101 #[va, vb] w fun e w' => ∃ v', e = .returned (.tuple #[v', .bool true]) ∧ Arg encU w' v' (limbs (a - b)) ∧ Below w.heap.size w w' := by
  have hsa := Lib.hid (bits_small ha hla)
  have hsb := Lib.hid (bits_small hb hlb)
  have hd := Lib.hid (show decide (bval (Num.bits a) < bval (Num.bits b)) = false by rw [bval_bits, bval_bits]; exact decide_eq_false (by omega))
  have hh := Lib.hid h
  clear h
  go_enter Tryz.func101, Tryz.ntmps101
  go_wp2_with fail
  refine (bits_of _ _ _ a ha).mono ?_
  rintro e w1 ⟨v1, rfl, g1, b1⟩
  replace ha := ha.below b1
  replace hb := hb.below b1
  go_wp2_with fail
  refine (bits_of _ _ _ b hb).mono ?_
  rintro e w2 ⟨v2, rfl, g2, b2⟩
  replace ha := ha.below b2
  replace hb := hb.below b2
  replace g1 := g1.below b2
  replace b1 := b1.trans (b2.mono b1.size)
  clear b2
  go_wp2_with fail
  refine (rless_is _ _ _ _ _ false g1 g2 (Nat.le_trans hsa.out (by decide)) (Nat.le_trans hsb.out (by decide)) hd.out).mono ?_
  rintro e w3 ⟨rfl, b3⟩
  replace ha := ha.below b3
  replace hb := hb.below b3
  replace b1 := b1.trans (b3.mono b1.size)
  clear b3 g1 g2
  go_wp2_with fail
  refine (bits_of _ _ _ a ha).mono ?_
  rintro e w4 ⟨v4, rfl, g4, b4⟩
  replace hb := hb.below b4
  replace b1 := b1.trans (b4.mono b1.size)
  clear b4
  go_wp2_with fail
  refine (bits_of _ _ _ b hb).mono ?_
  rintro e w5 ⟨v5, rfl, g5, b5⟩
  replace g4 := g4.below b5
  replace b1 := b1.trans (b5.mono b1.size)
  clear b5
  go_wp2_with fail
  refine (rsub_any _ _ _ (Num.bits a) (Num.bits b) g4 g5 (Nat.le_trans hsa.out (by decide)) (Nat.le_trans hsb.out (by decide)) (by rw [bval_bits, bval_bits]; exact hh.out)).mono ?_
  rintro e w6 ⟨v6, rfl, g6, b6, _⟩
  rw [bval_bits, bval_bits] at g6
  have hm : (Num.bits (a - b)).length ≤ 32000 := (bits_length_le _ _).2 (Nat.lt_of_le_of_lt (Nat.sub_le a b) ((bits_length_le a 32000).1 hsa.out))
  have HM := Lib.hid hm
  clear hm
  go_wp2_with fail
  refine (rlimbs_of _ _ (a - b) g6 (Nat.le_trans HM.out (by decide))).mono ?_
  rintro e w7 ⟨v7, rfl, g7, b7⟩
  go_wp2_with fail
  go_ret2
  exact ⟨_, rfl, g7, (b1.trans (b6.mono b1.size)).trans (b7.mono (Nat.le_trans b1.size b6.size))⟩

set_option maxHeartbeats 4000000 in
theorem rDiv_any (w : World) (va vb : Value) (la lb : List Nat) (a b : Nat) (ha : Num w va la a) (hb : Num w vb lb b) (hla : la.length ≤ 1000) (hlb : lb.length ≤ 1000) (h : 0 < b) :
    Calls Tryz.prog 75 #[va, vb] w fun e w' => ∃ vq vr, e = .returned (.tuple #[vq, vr, .int .i64 0]) ∧ Arg encU w' vq (limbs (a / b)) ∧ Arg encU w' vr (limbs (a % b)) ∧ Below w.heap.size w w' := by
  have hsa := Lib.hid (bits_small ha hla)
  have hsb := Lib.hid (bits_small hb hlb)
  have hh := Lib.hid h
  have hl0 : 0 < (Num.bits b).length := by
    rcases Nat.eq_zero_or_pos (Num.bits b).length with h1 | h1
    · have := (bits_length_le b 0).1 (by omega); simp at this; omega
    · exact h1
  obtain ⟨m, hm⟩ : ∃ m, (Num.bits b).length = m + 1 := ⟨_, (Nat.succ_pred_eq_of_pos hl0).symm⟩
  clear h hl0
  go_enter Tryz.func75, Tryz.ntmps75
  go_wp2_with fail
  refine (bits_of _ _ _ b hb).mono ?_
  rintro e w1 ⟨v1, rfl, g1, b1⟩
  replace ha := ha.below b1
  replace hb := hb.below b1
  obtain ⟨A, c, rfl, _, _⟩ := g1.open_
  rw [hm]
  clear g1 hm
  go_wp2_with fail
  refine (bits_of _ _ _ a ha).mono ?_
  rintro e w2 ⟨v2, rfl, g2, b2⟩
  replace hb := hb.below b2
  replace b1 := b1.trans (b2.mono b1.size)
  clear b2 ha
  go_wp2_with fail
  refine (bits_of _ _ _ b hb).mono ?_
  rintro e w3 ⟨v3, rfl, g3, b3⟩
  replace g2 := g2.below b3
  replace b1 := b1.trans (b3.mono b1.size)
  clear b3 hb
  go_wp2_with fail
  refine (rdiv_any _ _ _ (Num.bits a) (Num.bits b) g2 g3 (Nat.le_trans hsa.out (by decide)) (Nat.le_trans hsb.out (by decide)) (by rw [bval_bits]; exact hh.out)).mono ?_
  rintro e w4 ⟨vq, vr, rfl, g4, g5, b4⟩
  rw [bval_bits, bval_bits] at g4 g5
  replace b1 := b1.trans (b4.mono b1.size)
  have hq : (Num.bits (a / b)).length ≤ 32000 := (bits_length_le _ _).2 (Nat.lt_of_le_of_lt (Nat.div_le_self a b) ((bits_length_le a 32000).1 hsa.out))
  have hr : (Num.bits (a % b)).length ≤ 32000 := (bits_length_le _ _).2 (Nat.lt_of_le_of_lt (Nat.mod_le a b) ((bits_length_le a 32000).1 hsa.out))
  have HQ := Lib.hid (And.intro hq hr)
  clear b4 g2 g3 hq hr
  go_wp2_with fail
  refine (rlimbs_of _ _ (a / b) g4 (Nat.le_trans HQ.out.1 (by decide))).mono ?_
  rintro e w5 ⟨v5, rfl, g6, b5⟩
  replace g5 := g5.below b5
  replace b1 := b1.trans (b5.mono b1.size)
  clear b5 g4
  go_wp2_with fail
  refine (rlimbs_of _ _ (a % b) g5 (Nat.le_trans HQ.out.2 (by decide))).mono ?_
  rintro e w6 ⟨v6, rfl, g7, b6⟩
  replace g6 := g6.below b6
  go_wp2_with fail
  go_ret3
  exact ⟨_, _, rfl, g6, g7, b1.trans (b6.mono b1.size)⟩

set_option maxHeartbeats 4000000 in
theorem rCmp_any (w : World) (va vb : Value) (la lb : List Nat) (a b : Nat) (ha : Num w va la a) (hb : Num w vb lb b) (hla : la.length ≤ 1000) (hlb : lb.length ≤ 1000) :
    Calls Tryz.prog 100 #[va, vb] w fun e w' => e = .returned (.int .i64 (cmpN a b)) ∧ Below w.heap.size w w' := by
  have hsa := Lib.hid (bits_small ha hla)
  have hsb := Lib.hid (bits_small hb hlb)
  have hd : decide (bval (Num.bits a) < bval (Num.bits b)) = decide (a < b) := by rw [bval_bits, bval_bits]
  have hd2 : decide (bval (Num.bits b) < bval (Num.bits a)) = decide (b < a) := by rw [bval_bits, bval_bits]
  have HD := Lib.hid (And.intro hd hd2)
  clear hd hd2
  rcases Nat.lt_trichotomy a b with h0 | h0 | h0
  · have hlt := Lib.hid (show decide (bval (Num.bits a) < bval (Num.bits b)) = true from HD.out.1.trans (decide_eq_true h0))
    have hgt := Lib.hid (show decide (bval (Num.bits b) < bval (Num.bits a)) = false from HD.out.2.trans (decide_eq_false (by omega)))
    have hc := Lib.hid (show cmpN a b = -1 from cmpN_lt h0)
    clear h0
    go_enter Tryz.func100, Tryz.ntmps100
    go_wp2_with fail
    refine (bits_of _ _ _ a ha).mono ?_
    rintro e w1 ⟨v1, rfl, g1, b1⟩
    replace ha := ha.below b1
    replace hb := hb.below b1
    go_wp2_with fail
    refine (bits_of _ _ _ b hb).mono ?_
    rintro e w2 ⟨v2, rfl, g2, b2⟩
    replace ha := ha.below b2
    replace hb := hb.below b2
    replace g1 := g1.below b2
    replace b1 := b1.trans (b2.mono b1.size)
    clear b2
    go_wp2_with fail
    refine (rless_is _ _ _ _ _ true g1 g2 (Nat.le_trans hsa.out (by decide)) (Nat.le_trans hsb.out (by decide)) hlt.out).mono ?_
    rintro e w3 ⟨rfl, b3⟩
    replace ha := ha.below b3
    replace hb := hb.below b3
    replace b1 := b1.trans (b3.mono b1.size)
    clear b3 g1 g2
    go_wp2_with fail
    go_ret
    exact ⟨by rw [hc.out]; rfl, b1⟩
  · have hlt := Lib.hid (show decide (bval (Num.bits a) < bval (Num.bits b)) = false from HD.out.1.trans (decide_eq_false (by omega)))
    have hgt := Lib.hid (show decide (bval (Num.bits b) < bval (Num.bits a)) = false from HD.out.2.trans (decide_eq_false (by omega)))
    have hc := Lib.hid (show cmpN a b = 0 from cmpN_eq h0)
    clear h0
    go_enter Tryz.func100, Tryz.ntmps100
    go_wp2_with fail
    refine (bits_of _ _ _ a ha).mono ?_
    rintro e w1 ⟨v1, rfl, g1, b1⟩
    replace ha := ha.below b1
    replace hb := hb.below b1
    go_wp2_with fail
    refine (bits_of _ _ _ b hb).mono ?_
    rintro e w2 ⟨v2, rfl, g2, b2⟩
    replace ha := ha.below b2
    replace hb := hb.below b2
    replace g1 := g1.below b2
    replace b1 := b1.trans (b2.mono b1.size)
    clear b2
    go_wp2_with fail
    refine (rless_is _ _ _ _ _ false g1 g2 (Nat.le_trans hsa.out (by decide)) (Nat.le_trans hsb.out (by decide)) hlt.out).mono ?_
    rintro e w3 ⟨rfl, b3⟩
    replace ha := ha.below b3
    replace hb := hb.below b3
    replace b1 := b1.trans (b3.mono b1.size)
    clear b3 g1 g2
    go_wp2_with fail
    refine (bits_of _ _ _ b hb).mono ?_
    rintro e w4 ⟨v4, rfl, g4, b4⟩
    replace ha := ha.below b4
    replace b1 := b1.trans (b4.mono b1.size)
    clear b4
    go_wp2_with fail
    refine (bits_of _ _ _ a ha).mono ?_
    rintro e w5 ⟨v5, rfl, g5, b5⟩
    replace g4 := g4.below b5
    replace b1 := b1.trans (b5.mono b1.size)
    clear b5
    go_wp2_with fail
    refine (rless_is _ _ _ _ _ false g4 g5 (Nat.le_trans hsb.out (by decide)) (Nat.le_trans hsa.out (by decide)) hgt.out).mono ?_
    rintro e w6 ⟨rfl, b6⟩
    replace b1 := b1.trans (b6.mono b1.size)
    clear b6
    go_wp2_with fail
    go_ret
    exact ⟨by rw [hc.out]; rfl, b1⟩
  · have hlt := Lib.hid (show decide (bval (Num.bits a) < bval (Num.bits b)) = false from HD.out.1.trans (decide_eq_false (by omega)))
    have hgt := Lib.hid (show decide (bval (Num.bits b) < bval (Num.bits a)) = true from HD.out.2.trans (decide_eq_true h0))
    have hc := Lib.hid (show cmpN a b = 1 from cmpN_gt h0)
    clear h0
    go_enter Tryz.func100, Tryz.ntmps100
    go_wp2_with fail
    refine (bits_of _ _ _ a ha).mono ?_
    rintro e w1 ⟨v1, rfl, g1, b1⟩
    replace ha := ha.below b1
    replace hb := hb.below b1
    go_wp2_with fail
    refine (bits_of _ _ _ b hb).mono ?_
    rintro e w2 ⟨v2, rfl, g2, b2⟩
    replace ha := ha.below b2
    replace hb := hb.below b2
    replace g1 := g1.below b2
    replace b1 := b1.trans (b2.mono b1.size)
    clear b2
    go_wp2_with fail
    refine (rless_is _ _ _ _ _ false g1 g2 (Nat.le_trans hsa.out (by decide)) (Nat.le_trans hsb.out (by decide)) hlt.out).mono ?_
    rintro e w3 ⟨rfl, b3⟩
    replace ha := ha.below b3
    replace hb := hb.below b3
    replace b1 := b1.trans (b3.mono b1.size)
    clear b3 g1 g2
    go_wp2_with fail
    refine (bits_of _ _ _ b hb).mono ?_
    rintro e w4 ⟨v4, rfl, g4, b4⟩
    replace ha := ha.below b4
    replace b1 := b1.trans (b4.mono b1.size)
    clear b4
    go_wp2_with fail
    refine (bits_of _ _ _ a ha).mono ?_
    rintro e w5 ⟨v5, rfl, g5, b5⟩
    replace g4 := g4.below b5
    replace b1 := b1.trans (b5.mono b1.size)
    clear b5
    go_wp2_with fail
    refine (rless_is _ _ _ _ _ true g4 g5 (Nat.le_trans hsb.out (by decide)) (Nat.le_trans hsa.out (by decide)) hgt.out).mono ?_
    rintro e w6 ⟨rfl, b6⟩
    replace b1 := b1.trans (b6.mono b1.size)
    clear b6
    go_wp2_with fail
    go_ret
    exact ⟨by rw [hc.out]; rfl, b1⟩
end Go.Proofs.YtbippecchpaleaaGreatDoor

