import Derived.Test.YtdmghakmhfhpiaaDoorRefSub
import Derived.Test.YtdmghakmhfhpiaaDoorRefLess
import Derived.RegionTactic
/- litmusref01.div: what it returns. -/
namespace Go.Proofs.YtdmghakmhfhpiaaDoor
open Go.RowKit Go.Num
attribute [local go_sem] Oper.semAt_some

theorem rless_is (w : World) (va vb : Value) (la lb : List Bool) (t : Bool) (hA : Arg encB w va la) (hB : Arg encB w vb lb) (hla : la.length ≤ 20000000) (hlb : lb.length ≤ 20000000) (ht : decide (bval la < bval lb) = t) :
    Calls Tryd.prog 56 #[va, vb] w fun e w' => e = .returned (.bool t) ∧ Below w.heap.size w w' := by
  subst ht
  exact rless_any w va vb la lb hA hB hla hlb
theorem div_low_step {X B x R : Nat} (hR : R = X % B) (h : x + 2 * R < B) : (x + 2 * X) / B = 2 * (X / B) ∧ (x + 2 * X) % B = x + 2 * R := by
  have e := Nat.div_add_mod X B
  rw [← hR] at e
  have e2 : x + 2 * X = B * (2 * (X / B)) + (x + 2 * R) := by rw [← Nat.mul_assoc, Nat.mul_comm B 2, Nat.mul_assoc]; omega
  rw [e2, Nat.mul_add_div (by omega), Nat.mul_add_mod, Nat.div_eq_of_lt h, Nat.mod_eq_of_lt h]
  exact ⟨rfl, rfl⟩
theorem div_high_step {X B x R : Nat} (hR : R = X % B) (hB : 0 < B) (hx : x ≤ 1) (h : B ≤ x + 2 * R) : (x + 2 * X) / B = 1 + 2 * (X / B) ∧ (x + 2 * X) % B = x + 2 * R - B := by
  have e := Nat.div_add_mod X B
  have hlt := Nat.mod_lt X hB
  rw [← hR] at e hlt
  obtain ⟨q, hq⟩ : ∃ q, q = X / B := ⟨_, rfl⟩
  rw [← hq] at e ⊢
  obtain ⟨r, hr⟩ : ∃ r, r = x + 2 * R - B := ⟨_, rfl⟩
  have hr2 : r < B := by omega
  have e2 : x + 2 * X = B * (1 + 2 * q) + r := by
    have : B * (1 + 2 * q) = B + 2 * (B * q) := by rw [Nat.mul_add, Nat.mul_one, ← Nat.mul_assoc, Nat.mul_comm B 2, Nat.mul_assoc]
    rw [this]; omega
  rw [← hr, e2, Nat.mul_add_div hB, Nat.mul_add_mod, Nat.div_eq_of_lt hr2, Nat.mod_eq_of_lt hr2]
  exact ⟨rfl, rfl⟩
theorem bits_len {R : Nat} {lb : List Bool} (h : R < bval lb) : (Num.bits R).length ≤ lb.length := (bits_length_le R lb.length).2 (Nat.lt_trans h (bval_lt lb))
theorem bits_shift (x : Bool) (R : Nat) : btz (x :: Num.bits R) = Num.bits (x.toNat + 2 * R) := by rw [← bits_bval, bval_cons, bval_bits]

set_option maxHeartbeats 8000000 in
set_option maxRecDepth 100000 in
theorem rdiv_any (w : World) (va vb : Value) (la lb : List Bool) (hA : Arg encB w va la) (hB : Arg encB w vb lb) (hla : la.length ≤ 10000000) (hlb : lb.length ≤ 10000000) (hpos : 0 < bval lb) :
    Calls Tryd.prog 40 #[va, vb] w fun e w' => ∃ vq vr, e = .returned (.tuple #[vq, vr]) ∧ Arg encB w' vq (Num.bits (bval la / bval lb)) ∧ Arg encB w' vr (Num.bits (bval la % bval lb)) ∧ Below w.heap.size w w' := by
  obtain ⟨i0, hi, hz0, hz1, hz2⟩ := info_parts infoB
  obtain ⟨A1, c1, rfl, hcl, hr⟩ := hA.open_
  obtain ⟨N, hN⟩ : ∃ N, la.length = N := ⟨_, rfl⟩
  rw [hN] at hcl hla ⊢
  have hmk := run_make_row' (P := Tryd.prog) 48 4 (.bool false) 1 Tryd.underlying48 infoB rfl .i64 .i64 N (by omega) (by omega)
  have hstart : Inp 4 encB w.heap.size (w.alloc (.cells (madeCells #[.bool false] N) 4)) w.heap.size N N (List.replicate N false) := Inp.made w false (by omega) rfl
  have HN := Lib.hid hN
  have HP := Lib.hid hpos
  clear hN hpos hA
  go_enter Tryd.func40, Tryd.ntmps40
  go_wp2_with fail
  go_loopw [7, 8] (fun rv i wr => ∃ (k R : Nat) (Q : List Bool), k ≤ N ∧ i = .int .i64 ((k : Int) - 1) ∧ Arg encB wr rv (Num.bits R) ∧
      Hid (R = bval (la.drop k) % bval lb ∧ bval (Q.drop k) = bval (la.drop k) / bval lb ∧ ∀ j, j < k → Q[j]? = some false) ∧ Inp 4 encB w.heap.size wr w.heap.size N N Q ∧ Below w.heap.size w wr) (fun _ i _ => (intOf i + 1).toNat)
  case atStart =>
    refine ⟨N, 0, List.replicate N false, Nat.le_refl _, rfl, ?_, ?_, hstart, (Below.refl _ w).alloc (Nat.le_refl _) _⟩
    · rw [bits_zero]; exact Arg.nil_ _ _ _ _
    · show _ ∧ _ ∧ _
      have hN := HN.out
      rw [List.drop_of_length_le (by omega), List.drop_of_length_le (by simp)]
      exact ⟨by simp, by simp, fun j hj => by rw [List.getElem?_replicate]; simp [hj]⟩
  case round =>
    obtain ⟨k, R, Q, hk, rfl, hR, HI, hin, hbel⟩ := hrel
    have HL : Hid ((Num.bits R).length ≤ lb.length) := bits_len (by rw [HI.out.1]; exact Nat.mod_lt _ HP.out)
    rcases Nat.eq_zero_or_pos k with h0 | h0
    · subst h0
      clear hmk hstart
      obtain ⟨e1, e2, _⟩ := HI.out
      simp only [List.drop_zero] at e1 e2
      have HE := Lib.hid (And.intro e1 e2)
      clear e1 e2
      have hq := hin.arg
      have hql := hin.len
      have HQL := Lib.hid hql
      clear hql
      go_wp2_with fail
      refine (rtrim_any _ _ _ hq (by rw [HQL.out]; omega)).mono ?_
      rintro e w3 ⟨v3, rfl, hw3, h3⟩
      subst w3
      go_wp2_with fail
      go_ret2
      refine ⟨_, _, rfl, ?_, ?_, hbel⟩
      · rw [← HE.out.2, bits_bval]; exact h3
      · rw [← HE.out.1]; exact hR
    · obtain ⟨x, hx⟩ := get_some (l := la) (k := k - 1) (by have := HN.out; omega)
      obtain ⟨b, o, rfl, hc0⟩ := hr.at_ hx
      have hc1 := (hbel.cell (World.block_lt_of_cell? w _ hc0)).trans hc0
      have HX := Lib.hid hx
      obtain ⟨A3, c3, rfl, hcr, hrr⟩ := hR.open_
      clear hmk hstart hx hc0
      cases A3 with
      | none =>
        have hb0 : Num.bits R = [] := by
          rcases Nat.eq_zero_or_pos (Num.bits R).length with h9 | h9
          · exact List.length_eq_zero_iff.1 h9
          · obtain ⟨_, _, e9, _⟩ := hrr h9; cases e9
        have hl0 : (Num.bits R).length = 0 := by rw [hb0]; rfl
        have HB0 := Lib.hid hb0
        rw [hl0]
        clear hb0 hl0 hcr hrr hR
        have hR : True := trivial
        have hrow : Arg encB (wr.alloc (.cells #[.bool x] 4)) (.slice (some ⟨wr.heap.size, 0, none⟩) 1 1) (x :: Num.bits R) := by rw [HB0.out]; exact arg_lit wr _ _ 1 _ rfl rfl
        have hb2 : Below wr.heap.size wr (wr.alloc (.cells #[.bool x] 4)) := (Below.refl _ wr).alloc (Nat.le_refl _) _
        go_wp2_with fail
        refine (rtrim_any _ _ _ hrow (by have := HL.out; simp; omega)).mono ?_
        rintro e w3 ⟨v3, rfl, hw3, h3⟩
        subst w3
        rw [bits_shift] at h3
        have hin2 := hin.below hb2
        have hbel2 := hbel.trans (hb2.mono hbel.size)
        have hB2 := hB.below hbel2
        obtain ⟨R2, hR2⟩ : ∃ R2, R2 = x.toNat + 2 * R := ⟨_, rfl⟩
        rw [← hR2] at h3
        have HR2 := Lib.hid hR2
        have HL2 : Hid ((Num.bits R2).length ≤ lb.length + 1) := by
          show (Num.bits R2).length ≤ lb.length + 1
          rw [hR2, ← bits_shift]
          refine Nat.le_trans (btz_length_le _) ?_
          have := HL.out
          simp; omega
        clear hin hbel hrow hb2 hR2 hR
        by_cases hlt : R2 < bval lb
        · have hd : decide (bval (Num.bits R2) < bval lb) = true := by rw [bval_bits]; exact decide_eq_true hlt
          have HD := Lib.hid (And.intro hd hlt)
          clear hd hlt
          go_wp2_with fail
          refine (rless_is _ _ _ _ _ true h3 hB2 (by have := HL2.out; omega) (by omega) HD.out.1).mono ?_
          rintro e w4 ⟨rfl, hb4⟩
          have hin4 := hin2.below hb4
          have hbel4 := hbel2.trans (hb4.mono hbel2.size)
          have h34 := h3.below hb4
          clear hin2 hbel2 h3 hB2 hb4 hc1
          go_wp2_with fail
          go_roundw
          case rel =>
            refine ⟨k - 1, R2, Q, by omega, by go_num, h34, ?_, hin4, hbel4⟩
            show R2 = bval (la.drop (k - 1)) % bval lb ∧ bval (Q.drop (k - 1)) = bval (la.drop (k - 1)) / bval lb ∧ _
            obtain ⟨e1, e2, e3⟩ := HI.out
            have s1 := div_low_step e1 (by rw [← HR2.out]; exact HD.out.2)
            rw [bdrop_pred h0 HX.out, bval_cons, bdrop_pred h0 (e3 (k - 1) (by omega)), bval_cons, s1.1, s1.2, e2, HR2.out]
            exact ⟨rfl, by simp, fun j hj => e3 j (by omega)⟩
          case measure => simp [intOf]; omega
        · have hd : decide (bval (Num.bits R2) < bval lb) = false := by rw [bval_bits]; exact decide_eq_false hlt
          have HD := Lib.hid (And.intro hd (Nat.le_of_not_lt hlt))
          clear hd hlt
          go_wp2_with fail
          refine (rless_is _ _ _ _ _ false h3 hB2 (by have := HL2.out; omega) (by omega) HD.out.1).mono ?_
          rintro e w4 ⟨rfl, hb4⟩
          have hin4 := hin2.below hb4
          have hbel4 := hbel2.trans (hb4.mono hbel2.size)
          have h34 := h3.below hb4
          have hB4 := hB2.below hb4
          clear hin2 hbel2 h3 hB2 hb4 hc1
          go_wp2_with fail
          refine (rsub_any _ _ _ _ lb h34 hB4 (by have := HL2.out; omega) (by omega) (by rw [bval_bits]; exact HD.out.2)).mono ?_
          rintro e w5 ⟨v5, rfl, h5, hb5, hfar⟩
          rw [bval_bits] at h5
          have hin5 := hin4.below hb5
          have hbel5 := hbel4.trans (hb5.mono hbel4.size)
          have hgs := hin4.lt
          have hfz := hin5.free (k - 1)
          have hct := hin5.cell (HI.out.2.2 (k - 1) (by omega))
          clear hin4 hbel4 h34 hB4 hb5
          go_wp2_with fail
          go_roundw
          case rel =>
            refine ⟨k - 1, R2 - bval lb, Q.set (k - 1) true, by omega, by go_num, Arg.setFar h5 hfar hgs, ?_, hin5.set (k - 1) true, hbel5.setCell (p := ⟨w.heap.size, k - 1, none⟩) (Nat.le_refl _) _⟩
            show R2 - bval lb = bval (la.drop (k - 1)) % bval lb ∧ bval ((Q.set (k - 1) true).drop (k - 1)) = bval (la.drop (k - 1)) / bval lb ∧ _
            obtain ⟨e1, e2, e3⟩ := HI.out
            have s1 := div_high_step (x := x.toNat) e1 HP.out (toNat_le x) (by rw [← HR2.out]; exact HD.out.2)
            have hQ : k - 1 < Q.length := len_of_get (e3 (k - 1) (by omega))
            rw [bdrop_pred h0 HX.out, bval_cons, bdrop_pred (l := Q.set (k - 1) true) h0 (y := true) (by rw [List.getElem?_set]; simp; exact hQ), bval_cons, s1.1, s1.2, HR2.out, List.drop_set, if_pos (by omega), e2]
            exact ⟨rfl, by simp, fun j hj => by rw [List.getElem?_set_ne (by omega)]; exact e3 j (by omega)⟩
          case measure => simp [intOf]; omega
      | some a3 =>
        have hnews : ∀ (j : Nat) (u : Value), ((Num.bits R).map encB)[j]? = some u → (wr.alloc (.cells #[.bool x] 4)).cell? (a3.add j) = some u := by
          intro j u hj
          rw [List.getElem?_map] at hj
          cases hxx : (Num.bits R)[j]? with
          | none => rw [hxx] at hj; cases hj
          | some y =>
            rw [hxx] at hj
            cases hj
            obtain ⟨b9, o9, e9, hx9⟩ := hrr (by have := len_of_get hxx; omega)
            cases e9
            rw [Addr.add_lit]
            have h8 := hx9 j y hxx
            exact (World.cell?_alloc_lt wr _ _ (World.block_lt_of_cell? wr _ h8)).trans h8
        have HNW := Lib.hid hnews
        clear hnews hrr
        go_wp2_with (at_builtin; refine wpList_append_own _ rfl _ _ 48 rfl wr.heap.size 4 i0 (.bool false) 1 1 Tryd.underlying48 hi hz0 hz1 hz2 rfl (by decide) _ _ _ rfl (World.ownsRow_lit wr #[.bool x] 1 (Nat.le_refl _) (by decide) (by simp)) a3 (Num.bits R).length c3 ((Num.bits R).map encB) rfl ?c1 ?c2 ?c3 ?c4 ?c5 ?c6 ?_)
        case c1 => simp
        case c2 => exact HNW.out
        case c3 => intro u hu; simp at hu; rcases hu with ⟨_, rfl⟩ | ⟨_, rfl⟩ <;> rfl
        case c4 => have := HL.out; unfold maxLen; omega
        case c5 => have := HL.out; omega
        case c6 => simp
        intro v' w2 hown hgrow _
        have hrow : Arg encB w2 v' (x :: Num.bits R) := ownsRow_arg (enc := encB) (l := x :: Num.bits R) (by simpa [Nat.add_comm] using hown)
        have hb2 : Below wr.heap.size wr w2 := ((Below.refl _ wr).alloc (Nat.le_refl _) _).grown hgrow (by simp) (by intro j hj; simp [Value.ownBlock] at hj; omega)
        clear hown hgrow
        go_wp2_with fail
        refine (rtrim_any _ _ _ hrow (by have := HL.out; simp; omega)).mono ?_
        rintro e w3 ⟨v3, rfl, hw3, h3⟩
        subst w3
        rw [bits_shift] at h3
        have hin2 := hin.below hb2
        have hbel2 := hbel.trans (hb2.mono hbel.size)
        have hB2 := hB.below hbel2
        obtain ⟨R2, hR2⟩ : ∃ R2, R2 = x.toNat + 2 * R := ⟨_, rfl⟩
        rw [← hR2] at h3
        have HR2 := Lib.hid hR2
        have HL2 : Hid ((Num.bits R2).length ≤ lb.length + 1) := by
          show (Num.bits R2).length ≤ lb.length + 1
          rw [hR2, ← bits_shift]
          refine Nat.le_trans (btz_length_le _) ?_
          have := HL.out
          simp; omega
        clear hin hbel hrow hb2 hR2 hR
        by_cases hlt : R2 < bval lb
        · have hd : decide (bval (Num.bits R2) < bval lb) = true := by rw [bval_bits]; exact decide_eq_true hlt
          have HD := Lib.hid (And.intro hd hlt)
          clear hd hlt
          go_wp2_with fail
          refine (rless_is _ _ _ _ _ true h3 hB2 (by have := HL2.out; omega) (by omega) HD.out.1).mono ?_
          rintro e w4 ⟨rfl, hb4⟩
          have hin4 := hin2.below hb4
          have hbel4 := hbel2.trans (hb4.mono hbel2.size)
          have h34 := h3.below hb4
          clear hin2 hbel2 h3 hB2 hb4 hc1
          go_wp2_with fail
          go_roundw
          case rel =>
            refine ⟨k - 1, R2, Q, by omega, by go_num, h34, ?_, hin4, hbel4⟩
            show R2 = bval (la.drop (k - 1)) % bval lb ∧ bval (Q.drop (k - 1)) = bval (la.drop (k - 1)) / bval lb ∧ _
            obtain ⟨e1, e2, e3⟩ := HI.out
            have s1 := div_low_step e1 (by rw [← HR2.out]; exact HD.out.2)
            rw [bdrop_pred h0 HX.out, bval_cons, bdrop_pred h0 (e3 (k - 1) (by omega)), bval_cons, s1.1, s1.2, e2, HR2.out]
            exact ⟨rfl, by simp, fun j hj => e3 j (by omega)⟩
          case measure => simp [intOf]; omega
        · have hd : decide (bval (Num.bits R2) < bval lb) = false := by rw [bval_bits]; exact decide_eq_false hlt
          have HD := Lib.hid (And.intro hd (Nat.le_of_not_lt hlt))
          clear hd hlt
          go_wp2_with fail
          refine (rless_is _ _ _ _ _ false h3 hB2 (by have := HL2.out; omega) (by omega) HD.out.1).mono ?_
          rintro e w4 ⟨rfl, hb4⟩
          have hin4 := hin2.below hb4
          have hbel4 := hbel2.trans (hb4.mono hbel2.size)
          have h34 := h3.below hb4
          have hB4 := hB2.below hb4
          clear hin2 hbel2 h3 hB2 hb4 hc1
          go_wp2_with fail
          refine (rsub_any _ _ _ _ lb h34 hB4 (by have := HL2.out; omega) (by omega) (by rw [bval_bits]; exact HD.out.2)).mono ?_
          rintro e w5 ⟨v5, rfl, h5, hb5, hfar⟩
          rw [bval_bits] at h5
          have hin5 := hin4.below hb5
          have hbel5 := hbel4.trans (hb5.mono hbel4.size)
          have hgs := hin4.lt
          have hfz := hin5.free (k - 1)
          have hct := hin5.cell (HI.out.2.2 (k - 1) (by omega))
          clear hin4 hbel4 h34 hB4 hb5
          go_wp2_with fail
          go_roundw
          case rel =>
            refine ⟨k - 1, R2 - bval lb, Q.set (k - 1) true, by omega, by go_num, Arg.setFar h5 hfar hgs, ?_, hin5.set (k - 1) true, hbel5.setCell (p := ⟨w.heap.size, k - 1, none⟩) (Nat.le_refl _) _⟩
            show R2 - bval lb = bval (la.drop (k - 1)) % bval lb ∧ bval ((Q.set (k - 1) true).drop (k - 1)) = bval (la.drop (k - 1)) / bval lb ∧ _
            obtain ⟨e1, e2, e3⟩ := HI.out
            have s1 := div_high_step (x := x.toNat) e1 HP.out (toNat_le x) (by rw [← HR2.out]; exact HD.out.2)
            have hQ : k - 1 < Q.length := len_of_get (e3 (k - 1) (by omega))
            rw [bdrop_pred h0 HX.out, bval_cons, bdrop_pred (l := Q.set (k - 1) true) h0 (y := true) (by rw [List.getElem?_set]; simp; exact hQ), bval_cons, s1.1, s1.2, HR2.out, List.drop_set, if_pos (by omega), e2]
            exact ⟨rfl, by simp, fun j hj => by rw [List.getElem?_set_ne (by omega)]; exact e3 j (by omega)⟩
          case measure => simp [intOf]; omega
end Go.Proofs.YtdmghakmhfhpiaaDoor
