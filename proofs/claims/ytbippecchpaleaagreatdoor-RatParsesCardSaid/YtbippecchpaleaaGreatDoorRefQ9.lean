import Derived.Test.YtbippecchpaleaaGreatDoorRefQ8
import Derived.Test.YtbippecchpaleaaGreatDoorRefParse
/- litmusref03.Parse: what it returns. -/
namespace Go.Num
open Go Go.RowKit Go.Kp Go.Proofs.YtbippecchpaleaaGreatDoor
/-- Read loosely: whose text it is, that it is read as. -/
def LooseZ (l : List UInt8) (z : Int) (t : Bool) : Prop := ∀ z', l = ztext z' → t = true ∧ z = z'
theorem loose_of {l u : List UInt8} {neg : Bool} {n : Nat} {t : Bool} (hl : l = if neg then 45 :: u else u) (hn : neg = false → u.head? ≠ some 45) (h : ReadsN u n t) : LooseZ l (sg neg n) t := by
  intro z' e
  by_cases hz : z' < 0
  · rw [ztext_neg hz] at e
    cases neg with
    | false =>
      simp only [Bool.false_eq_true, if_false] at hl
      exact absurd (by rw [← hl, e]; rfl) (hn rfl)
    | true =>
      simp only [if_true] at hl
      rw [hl] at e
      have e1 : u = dec z'.natAbs := by simpa using e
      rcases h with ⟨ht, e2, _⟩ | ⟨_, _, h⟩
      · refine ⟨ht, ?_⟩
        have := dec_inj (e2.symm.trans e1)
        rw [this, sg_true]; omega
      · exact absurd e1 (h _)
  · rw [ztext_pos hz] at e
    cases neg with
    | false =>
      simp only [Bool.false_eq_true, if_false] at hl
      rw [hl] at e
      rcases h with ⟨ht, e2, _⟩ | ⟨_, _, h⟩
      · refine ⟨ht, ?_⟩
        have := dec_inj (e2.symm.trans e)
        rw [this, sg_false]; omega
      · exact absurd e (h _)
    | true =>
      simp only [if_true] at hl
      exact absurd (by rw [← e, hl]; rfl) (good_head (goodText_dec z'.natAbs))
theorem loose_no1 {l : List UInt8} {z : Int} {t : Bool} (h : LooseZ l z t) (hs : (47 : UInt8) ∉ l) (hn : t = true → qtext (mkRat z (dn 1)) ≠ l) : ReadsQ l 0 false := by
  refine .inr ⟨rfl, rfl, fun q e => ?_⟩
  by_cases hd : q.den = 1
  · rw [qtext_one hd] at e
    obtain ⟨ht, hz⟩ := h _ e
    refine hn ht ?_
    have hq : mkRat z (dn 1) = q := by rw [hz, show dn 1 = q.den by rw [hd]; rfl, Rat.mkRat_self]
    rw [hq, qtext_one hd, e]
  · rw [qtext_far hd] at e
    exact hs (by rw [e]; simp)
theorem loose_no2 {h t : List UInt8} {z : Int} {a : Nat} {u v : Bool} (hz : LooseZ h z u) (ha : ReadsN t a v) (hs : (47 : UInt8) ∉ h) (hn : u = true → v = true → qtext (mkRat z (dn a)) ≠ h ++ 47 :: t) : ReadsQ (h ++ 47 :: t) 0 false := by
  refine .inr ⟨rfl, rfl, fun q e => ?_⟩
  by_cases hd : q.den = 1
  · rw [qtext_one hd] at e
    exact ztext_no q.num (by rw [← e]; simp)
  · rw [qtext_far hd] at e
    obtain ⟨e1, e2⟩ := slash_inj hs (ztext_no _) e
    obtain ⟨hu, h1⟩ := hz _ e1
    rcases ha with ⟨hv, e3, _⟩ | ⟨_, _, h'⟩
    · have h2 : a = q.den := dec_inj (e3.symm.trans e2)
      refine hn hu hv ?_
      have hq : mkRat z (dn a) = q := by rw [h1, h2, dn_of_pos q.den_pos, Rat.mkRat_self]
      rw [hq, qtext_far hd, e1, e2]
    · exact h' _ e2
theorem ext_mid {l : List UInt8} {S : ByteArray} (hS : ByteArray.mk l.toArray = S) (i j : Nat) : ByteArray.mk ((l.take j).drop i).toArray = S.extract i j := by
  subst hS
  apply ByteArray.ext
  simp [ByteArray.data_extract, List.drop_take]
theorem byte_here {l : List UInt8} {S : ByteArray} (hS : ByteArray.mk l.toArray = S) {k : Nat} {c : UInt8} (hc : l[k]? = some c) : ∃ h : k < S.size, ((S[k]'h).toNat : Int) = (c.toNat : Int) := by
  subst hS
  obtain ⟨hk, e⟩ := List.getElem?_eq_some_iff.1 hc
  refine ⟨by show k < l.toArray.size; simpa using hk, ?_⟩
  show ((l.toArray[k]'_).toNat : Int) = _
  simp [e]
end Go.Num
namespace Go.Proofs.YtbippecchpaleaaGreatDoor
open Go.RowKit Go.Num Go.Kp
attribute [local go_sem] Oper.semAt_some u64_mask ev_const ev_func ev_global
theorem rparse01_v (w : World) {l : List UInt8} {a : Nat} {t : Bool} {s : ByteArray} (h : ReadsN l a t) (hl : l.length ≤ 90000) (e : ByteArray.mk l.toArray = s) : Calls Tryz.prog 92 #[.string s] w fun e w' => ∃ r, e = .returned r ∧ (∃ u0, r = .tuple #[u0, .bool t] ∧ LV w' u0 (limbs a) a) ∧ Grows w w' := by
  subst e
  rcases h with ⟨rfl, h, hs⟩ | ⟨rfl, rfl, h⟩
  · refine (rparse_yes w l (h ▸ goodText_dec a) (Nat.le_trans hl (by decide))).mono ?_
    rintro e w1 ⟨v, rfl, g, hb⟩
    exact ⟨_, rfl, ⟨_, rfl, by rw [h, tval_dec] at g; exact lv_limbs g (Nat.le_trans hs (by decide))⟩, hb⟩
  · refine (rparse_no w l (no_dec h) (Nat.le_trans hl (by decide))).mono ?_
    rintro e w1 ⟨rfl, g⟩
    exact ⟨_, rfl, ⟨_, rfl, ⟨none, 0, by rw [limbs_zero]; rfl, (Sound.nil_ w1 0).num⟩⟩, g⟩
set_option maxHeartbeats 16000000 in
set_option maxRecDepth 100000 in
theorem rqparse_w (w : World) {l : List UInt8} {S : ByteArray} {N : Nat} {q : Rat} {t : Bool} (hQ : ReadsQ l q t) (hl : l.length ≤ 200) (hS : ByteArray.mk l.toArray = S) (hN : l.length = N) : Calls Tryz.prog 46 #[.string S] w fun e w' => ∃ y, e = .returned y ∧ (∃ x, y = .tuple #[x, .bool t] ∧ QV w' x q ∧ (t = true → RV w' x q)) ∧ Grows w w' := by
  go_enter Tryz.func46, Tryz.ntmps46
  go_upto_region 1 with fail
  obtain ⟨x0, ex0, HB, DR⟩ := st_3 w 26 (.bool false) (.slice none 0 0) (.slice none 0 0)
  rw [ex0]
  clear ex0
  replace HB := Lib.hid HB
  replace DR := Lib.hid DR
  have hsz : S.size = N := by rw [← hS, ← hN]; show l.toArray.size = _; simp
  have hN9 : N ≤ 200 := by omega
  obtain ⟨nb, hnb⟩ : ∃ nb, decide (l.head? = some 45) = nb := ⟨_, rfl⟩
  obtain ⟨fr, hfr⟩ : ∃ fr : Nat, (if nb = true then 1 else 0) = fr := ⟨_, rfl⟩
  have hfr1 : fr ≤ 1 := by rw [← hfr]; split <;> omega
  have hfrt := Lib.hid (show nb = true → fr = 1 from fun h => by rw [← hfr, if_pos h])
  have hfrf := Lib.hid (show nb = false → fr = 0 from fun h => by rw [← hfr, h]; rfl)
  have hfn : ((fr : Int) == 1) = nb := by rw [← hfr]; cases nb <;> rfl
  have hht := Lib.hid (show nb = true → l.head? = some 45 from fun h => of_decide_eq_true (hnb.trans h))
  have hhf := Lib.hid (show nb = false → l.head? ≠ some 45 from fun h => of_decide_eq_false (hnb.trans h))
  clear hfr
  replace hnb := Lib.hid hnb
  replace hS := Lib.hid hS
  replace hN := Lib.hid hN
  go_upto_region 1 with fail
  refine wp_region_calm 2 [] ([fun vq _ => vq = .string S,
      fun vq _ => vq = .int .i64 N]) (by kernel_rfl) (by decide) ?_ ?_ ?_
  · intro j hj; cases hj
  · refine po rfl (fun lq aq wq hk hr K hK => ?_) ?_
    · have B0 : ev aq (.tmp 0) = .string S := hk.base 0 (by kernel_rfl) rfl
      exact vc hK (by go_simp) (fun w2 h2 => rfl)
    refine po rfl (fun lq aq wq hk hr K hK => ?_) ?_
    · have E0 : ev aq (.tmp 12) = .string S := hk.dc hr 0 (by kernel_rfl) fun _ _ h => h
      exact vc hK (by go_simp) (fun w2 h2 => rfl)
    exact AllOps.nil
  intro V x1 hG hV hap
  have r1 : (V 1) = .int .i64 N := hV 1 (by decide)
  clear hV hap
  simp only [List.take_succ_cons, List.take_zero, List.drop_succ_cons, List.drop_zero, putAll, Act.put, List.setIfInBounds_toArray, List.set_cons_zero, List.set_cons_succ]
  have hb := (show Below _ _ _ from hG)
  replace DR := Lib.hid (DR.out.below hb)
  replace HB := Lib.hid (HB.out.trans (Below.mono hb HB.out.size))
  clear hb hG
  rw [r1]
  clear r1
  go_upto_region 2 with fail
  go_cut [20] from 12 (fun v wx => v = .bool nb ∧ Hid (Below x1.heap.size x1 wx))
  case first =>
    replace HB := Lib.hid (Below.refl x1.heap.size x1)
    rcases Decidable.em (S.toList = []) with hne0 | hne0
    · skip
      have hnb0 : nb = false := by
        rw [← hnb.out]
        refine decide_eq_false fun h => ?_
        rw [← hS.out, ByteArray.toList_mk] at hne0
        rw [hne0] at h
        cases h
      subst hnb0
      refine wp_region_calm 7 [] ([fun vq _ => vq = .string S,
          fun vq _ => vq = .bool false,
          fun vq _ => vq = .bool false,
          fun vq _ => vq = undef,
          fun vq _ => vq = undef,
          fun vq _ => vq = undef,
          fun vq _ => vq = .bool false]) (by kernel_rfl) (by decide) ?_ ?_ ?_
      · intro j hj; cases hj
      · refine po rfl (fun lq aq wq hk hr K hK => ?_) ?_
        · have B0 : ev aq (.tmp 0) = .string S := hk.base 0 (by kernel_rfl) rfl
          exact vc hK (by go_simp) (fun w2 h2 => rfl)
        refine po rfl (fun lq aq wq hk hr K hK => ?_) ?_
        · have E0 : ev aq (.tmp 14) = .string S := hk.dc hr 0 (by kernel_rfl) fun _ _ h => h
          exact vc hK (by first | (go_simp; done) | (go_simp; exact hne0)) (fun w2 h2 => rfl)
        refine po rfl (fun lq aq wq hk hr K hK => ?_) ?_
        · have E1 : ev aq (.tmp 15) = .bool false := hk.dc hr 1 (by kernel_rfl) fun _ _ h => h
          exact vc hK (by go_simp) (fun w2 h2 => rfl)
        refine pb 2 16 true false rfl (by kernel_rfl) (fun _ _ h => h) (by decide) (fun _ => rfl) rfl ?_
        refine pb 2 16 true false rfl (by kernel_rfl) (fun _ _ h => h) (by decide) (fun _ => rfl) rfl ?_
        refine pb 2 16 true false rfl (by kernel_rfl) (fun _ _ h => h) (by decide) (fun _ => rfl) rfl ?_
        refine po rfl (fun lq aq wq hk hr K hK => ?_) ?_
        · have E2 : ev aq (.tmp 16) = .bool false := hk.dc hr 2 (by kernel_rfl) fun _ _ h => h
          exact vc hK (by go_simp) (fun w2 h2 => rfl)
        exact AllOps.nil
      intro V x2 hG hV hap
      have r6 : (V 6) = .bool false := hV 6 (by decide)
      clear hV hap
      simp only [List.take_succ_cons, List.take_nil, List.drop_succ_cons, List.drop_nil, putAll, Act.put, List.setIfInBounds_toArray, List.set_cons_zero, List.set_cons_succ]
      have hb := (show Below _ _ _ from hG)
      replace DR := Lib.hid (DR.out.below hb)
      replace HB := Lib.hid (HB.out.trans (Below.mono hb HB.out.size))
      clear hb hG
      rw [r6]
      clear r6
      go_wp2_with fail
      go_meet
      exact ⟨rfl, HB⟩
    · skip
      obtain ⟨c0, hc0⟩ : ∃ c0, l[0]? = some c0 := by
        cases hl9 : l with
        | nil => exact absurd (by rw [← hS.out, ByteArray.toList_mk, hl9]) hne0
        | cons c9 t9 => exact ⟨c9, rfl⟩
      obtain ⟨hs0, hcc⟩ := byte_here hS.out hc0
      obtain ⟨cz0, hcz0⟩ : ∃ cz : Int, (c0.toNat : Int) = cz := ⟨_, rfl⟩
      rw [hcz0] at hcc
      have h450 : (cz0 == 45) = nb := by
        rw [← hnb.out, List.head?_eq_getElem?, hc0, ← hcz0]
        by_cases e : c0 = 45
        · subst e; rfl
        · rw [decide_eq_false (fun h => e (Option.some.inj h)), beq_eq_false_iff_ne]
          intro h
          refine e (UInt8.toNat_inj.1 ?_)
          have : (45 : UInt8).toNat = 45 := rfl
          omega
      clear hc0
      refine wp_region_calm 7 [] ([fun vq _ => vq = .string S,
          fun vq _ => vq = .bool true,
          fun vq _ => vq = .bool true,
          fun vq _ => vq = .string S,
          fun vq _ => vq = .int .u8 cz0,
          fun vq _ => vq = .bool nb,
          fun vq _ => vq = .bool nb]) (by kernel_rfl) (by decide) ?_ ?_ ?_
      · intro j hj; cases hj
      · refine po rfl (fun lq aq wq hk hr K hK => ?_) ?_
        · have B0 : ev aq (.tmp 0) = .string S := hk.base 0 (by kernel_rfl) rfl
          exact vc hK (by go_simp) (fun w2 h2 => rfl)
        refine po rfl (fun lq aq wq hk hr K hK => ?_) ?_
        · have E0 : ev aq (.tmp 14) = .string S := hk.dc hr 0 (by kernel_rfl) fun _ _ h => h
          exact vc hK (by first | (go_simp; done) | (go_simp; exact hne0)) (fun w2 h2 => rfl)
        refine po rfl (fun lq aq wq hk hr K hK => ?_) ?_
        · have E1 : ev aq (.tmp 15) = .bool true := hk.dc hr 1 (by kernel_rfl) fun _ _ h => h
          exact vc hK (by go_simp) (fun w2 h2 => rfl)
        refine pl 2 16 true rfl (by kernel_rfl) (fun _ _ h => h) (fun lq aq wq hk hr K hK => ?_) ?_
        · have B0 : ev aq (.tmp 0) = .string S := hk.base 0 (by kernel_rfl) rfl
          exact vc hK (by go_simp) (fun w2 h2 => rfl)
        refine pl 2 16 true rfl (by kernel_rfl) (fun _ _ h => h) (fun lq aq wq hk hr K hK => ?_) ?_
        · have E3 : ev aq (.tmp 17) = .string S := hk.dc hr 3 (by kernel_rfl) fun _ _ h => h
          exact vc hK (by first | (go_simp; done) | (go_simp; exact hcc) | (go_simp; intro h; omega)) (fun w2 h2 => rfl)
        refine pl 2 16 true rfl (by kernel_rfl) (fun _ _ h => h) (fun lq aq wq hk hr K hK => ?_) ?_
        · have E4 : ev aq (.tmp 18) = .int .u8 cz0 := hk.dc hr 4 (by kernel_rfl) fun _ _ h => h
          exact vc hK (by go_simp) (fun w2 h2 => rfl)
        refine po rfl (fun lq aq wq hk hr K hK => ?_) ?_
        · have E2 : ev aq (.tmp 16) = .bool true := hk.dc hr 2 (by kernel_rfl) fun _ _ h => h
          have E5 : ev aq (.tmp 19) = .bool nb := hk.dc hr 5 (by kernel_rfl) fun _ _ h => h
          exact vc hK (by go_simp) (fun w2 h2 => rfl)
        exact AllOps.nil
      intro V x2 hG hV hap
      have r6 : (V 6) = .bool nb := hV 6 (by decide)
      clear hV hap
      simp only [List.take_succ_cons, List.take_nil, List.drop_succ_cons, List.drop_nil, putAll, Act.put, List.setIfInBounds_toArray, List.set_cons_zero, List.set_cons_succ]
      have hb := (show Below _ _ _ from hG)
      replace DR := Lib.hid (DR.out.below hb)
      replace HB := Lib.hid (HB.out.trans (Below.mono hb HB.out.size))
      clear hb hG
      rw [r6]
      clear r6
      go_wp2_with fail
      go_meet
      exact ⟨rfl, HB⟩
  case rest =>
    obtain ⟨rfl, hcb0⟩ := hcut
    have hcb := hcb0.out
    clear hcb0
    replace DR := Lib.hid (DR.out.below hcb)
    replace HB := Lib.hid (HB.out.trans (Below.mono hcb HB.out.size))
    clear hcb
    go_upto_if 20 with fail
    go_cut [4] from 12 (fun v wx => v = .int .i64 fr ∧ wc = wx)
    case first =>
      rcases nb with _ | _
      · have h9 := hfrf.out rfl
        subst h9
        go_wp2_with fail
        go_meet
        exact ⟨rfl, rfl⟩
      · have h9 := hfrt.out rfl
        subst h9
        go_wp2_with fail
        go_meet
        exact ⟨rfl, rfl⟩
    case rest =>
      obtain ⟨rfl, rfl⟩ := hcut
      have HW := HB
      replace HB := Lib.hid (Below.refl wc.heap.size wc)
      go_wp2_with fail
      go_loopw [5, 6] (fun sv iv wr => ∃ k : Nat, k ≤ N ∧ sv = .int .i64 N ∧ iv = .int .i64 k ∧ Hid ((47 : UInt8) ∉ l.take k) ∧ Hid (Below wc.heap.size wc wr)) (fun _ iv _ => N - (intOf iv).toNat)
      case atStart => exact ⟨0, Nat.zero_le _, rfl, rfl, Lib.hid (by simp), HB⟩
      case round =>
        clear HB
        obtain ⟨k, hk, rfl, rfl, hno, HB⟩ := hrel
        replace DR := Lib.hid (DR.out.below HB.out)
        rcases Nat.lt_or_ge k N with hlt | hge
        · skip
          obtain ⟨c, hc⟩ : ∃ c, l[k]? = some c := by
            rw [← hN.out] at hlt
            exact ⟨l[k], List.getElem?_eq_getElem hlt⟩
          obtain ⟨hks, hcb⟩ := byte_here hS.out hc
          obtain ⟨cz, hcz⟩ : ∃ cz : Int, (c.toNat : Int) = cz := ⟨_, rfl⟩
          rw [hcz] at hcb
          rcases Decidable.em (c = 47) with h47 | h47
          · skip
            have h7 : cz = 47 := by rw [← hcz, h47]; rfl
            subst h7
            go_upto_region 7 with fail
            refine wp_region_calm 4 [] ([fun vq _ => vq = .string S,
                fun vq _ => vq = .int .i64 k,
                fun vq _ => vq = .int .u8 47,
                fun vq _ => vq = .bool true]) (by kernel_rfl) (by decide) ?_ ?_ ?_
            · intro j hj; cases hj
            · refine po rfl (fun lq aq wq hk hr K hK => ?_) ?_
              · have B0 : ev aq (.tmp 0) = .string S := hk.base 0 (by kernel_rfl) rfl
                exact vc hK (by go_simp) (fun w2 h2 => rfl)
              refine po rfl (fun lq aq wq hk hr K hK => ?_) ?_
              · have B6 : ev aq (.tmp 6) = .int .i64 k := hk.base 6 (by kernel_rfl) rfl
                exact vc hK (by go_simp) (fun w2 h2 => rfl)
              refine po rfl (fun lq aq wq hk hr K hK => ?_) ?_
              · have E0 : ev aq (.tmp 27) = .string S := hk.dc hr 0 (by kernel_rfl) fun _ _ h => h
                have E1 : ev aq (.tmp 28) = .int .i64 k := hk.dc hr 1 (by kernel_rfl) fun _ _ h => h
                exact vc hK (by first | (go_simp; done) | (go_simp; exact hcb)) (fun w2 h2 => rfl)
              refine po rfl (fun lq aq wq hk hr K hK => ?_) ?_
              · have E2 : ev aq (.tmp 29) = .int .u8 47 := hk.dc hr 2 (by kernel_rfl) fun _ _ h => h
                exact vc hK (by go_simp) (fun w2 h2 => rfl)
              exact AllOps.nil
            intro V x2 hG hV hap
            have r3 : (V 3) = .bool true := hV 3 (by decide)
            clear hV hap
            simp only [List.take_succ_cons, List.take_nil, List.drop_succ_cons, List.drop_nil, putAll, Act.put, List.setIfInBounds_toArray, List.set_cons_zero, List.set_cons_succ]
            have hb := (show Below _ _ _ from hG)
            replace DR := Lib.hid (DR.out.below hb)
            replace HB := Lib.hid (HB.out.trans (Below.mono hb HB.out.size))
            clear hb hG
            rw [r3]
            clear r3
            go_upto_region 8 with fail
            refine wp_region_calm 1 [] ([fun vq _ => vq = .int .i64 k]) (by kernel_rfl) (by decide) ?_ ?_ ?_
            · intro j hj; cases hj
            · refine po rfl (fun lq aq wq hk hr K hK => ?_) ?_
              · have B6 : ev aq (.tmp 6) = .int .i64 k := hk.base 6 (by kernel_rfl) rfl
                exact vc hK (by go_simp) (fun w2 h2 => rfl)
              exact AllOps.nil
            intro V x3 hG hV hap
            have r0 : (V 0) = .int .i64 k := hV 0 (by decide)
            clear hV hap
            simp only [List.take_succ_cons, List.take_zero, List.drop_succ_cons, List.drop_zero, putAll, Act.put, List.setIfInBounds_toArray, List.set_cons_zero, List.set_cons_succ]
            have hb := (show Below _ _ _ from hG)
            replace DR := Lib.hid (DR.out.below hb)
            replace HB := Lib.hid (HB.out.trans (Below.mono hb HB.out.size))
            clear hb hG
            rw [r0]
            clear r0
            replace HB := Lib.hid (HW.out.trans (Below.mono HB.out HW.out.size))
            clear HW
            have hel : l = l.take k ++ 47 :: l.drop (k + 1) := by
              obtain ⟨h9, e9⟩ := List.getElem?_eq_some_iff.1 hc
              have h8 := List.drop_eq_getElem_cons h9
              rw [e9, h47] at h8
              rw [← h8, List.take_append_drop]
            have htl : (l.drop (k + 1)).length ≤ 200 := by rw [List.length_drop]; omega
            obtain ⟨u, hu⟩ : ∃ u, (l.take k).drop fr = u := ⟨_, rfl⟩
            obtain ⟨su, hsu⟩ : ∃ su, ByteArray.mk u.toArray = su := ⟨_, rfl⟩
            have hex : S.extract fr k = su := by rw [← hsu, ← hu]; exact (ext_mid hS.out fr k).symm
            have hul : u.length ≤ 200 := by rw [← hu, List.length_drop, List.length_take]; omega
            have hul9 : u.length ≤ 90000 := by omega
            have hk1 : fr ≤ k := by
              rcases nb with _ | _
              · rw [hfrf.out rfl]; exact Nat.zero_le _
              · rw [hfrt.out rfl]
                have hhd := hht.out rfl
                rcases Nat.eq_zero_or_pos k with h0 | h0
                · exfalso
                  subst h0
                  rw [← List.head?_eq_getElem?, hhd] at hc
                  exact absurd (h47.symm.trans (Option.some.inj hc).symm) (by decide)
                · exact h0
            have hhu : l.take k = if nb = true then 45 :: u else u := by
              rcases nb with _ | _
              · simp only [Bool.false_eq_true, if_false]
                rw [← hu, hfrf.out rfl, List.drop_zero]
              · simp only [if_true]
                have hhd := hht.out rfl
                have h1 := hfrt.out rfl
                rw [h1] at hk1
                rw [← hu, h1]
                cases hl9 : l with
                | nil => rw [hl9] at hhd; cases hhd
                | cons c9 t9 =>
                  rw [hl9] at hhd
                  obtain rfl : c9 = 45 := Option.some.inj hhd
                  obtain ⟨j, rfl⟩ : ∃ j, k = j + 1 := ⟨k - 1, by omega⟩
                  simp
            have hnh : nb = false → u.head? ≠ some 45 := fun hb h => hhf.out hb (by
              rw [← hu, hfrf.out hb, List.drop_zero] at h
              cases hl9 : l with
              | nil => rw [hl9] at h; simp at h
              | cons c9 t9 =>
                rw [hl9] at h
                cases k with
                | zero => simp at h
                | succ j => simpa using h)
            obtain ⟨n1, t1, hn1⟩ := readsN_any hul
            have hkn := Nat.le_trans hn1.sz (show 100 ≤ 1000 by decide)
            have hlz := loose_of hhu hnh hn1
            have hkz : szz (sg nb n1) ≤ 100 := by unfold szz; rw [sg_natAbs]; exact hn1.sz
            replace hn1 := Lib.hid hn1
            replace hlz := Lib.hid hlz
            replace hsu := Lib.hid hsu
            clear hhu hnh
            obtain ⟨tl, htl9⟩ : ∃ tl, l.drop (k + 1) = tl := ⟨_, rfl⟩
            obtain ⟨st, hst⟩ : ∃ st, ByteArray.mk tl.toArray = st := ⟨_, rfl⟩
            have hex2 : S.extract (k + 1) N = st := by
              rw [← hst, ← htl9, ← ext_mid hS.out (k + 1) N, List.take_of_length_le (by rw [hN.out]; exact Nat.le_refl _)]
            rw [htl9] at hel htl
            obtain ⟨n2, t2, hn2⟩ := readsN_any htl
            have hkm := Nat.le_trans hn2.sz (show 100 ≤ 1000 by decide)
            have htl8 : tl.length ≤ 90000 := by omega
            have hwk : IntKind.i64.wrap ((k : Int) + 1) = (k : Int) + 1 := IntWalk.i64_in _ (by omega)
            replace hn2 := Lib.hid hn2
            replace hst := Lib.hid hst
            clear htl9
            obtain ⟨z, hz⟩ : ∃ z, sg nb n1 = z := ⟨_, rfl⟩
            rw [hz] at hkz hlz
            clear hu
            replace hel := Lib.hid hel
            clear hc h47 hcb hcz hks
            go_upto_region 9 with fail
            refine wp_region_calm 3 [] ([fun vq _ => vq = .int .i64 k,
                fun vq _ => vq = .int .i64 fr,
                fun vq _ => vq = .bool false]) (by kernel_rfl) (by decide) ?_ ?_ ?_
            · intro j hj; cases hj
            · refine po rfl (fun lq aq wq hk hr K hK => ?_) ?_
              · have B5 : ev aq (.tmp 5) = .int .i64 k := hk.base 5 (by kernel_rfl) rfl
                exact vc hK (by go_simp) (fun w2 h2 => rfl)
              refine po rfl (fun lq aq wq hk hr K hK => ?_) ?_
              · have B4 : ev aq (.tmp 4) = .int .i64 fr := hk.base 4 (by kernel_rfl) rfl
                exact vc hK (by go_simp) (fun w2 h2 => rfl)
              refine po rfl (fun lq aq wq hk hr K hK => ?_) ?_
              · have E0 : ev aq (.tmp 32) = .int .i64 k := hk.dc hr 0 (by kernel_rfl) fun _ _ h => h
                have E1 : ev aq (.tmp 33) = .int .i64 fr := hk.dc hr 1 (by kernel_rfl) fun _ _ h => h
                exact vc hK (by first | (go_simp; done) | (go_simp; omega)) (fun w2 h2 => rfl)
              exact AllOps.nil
            intro V x4 hG hV hap
            have r2 : (V 2) = .bool false := hV 2 (by decide)
            clear hV hap
            simp only [List.take_succ_cons, List.take_nil, List.drop_succ_cons, List.drop_nil, putAll, Act.put, List.setIfInBounds_toArray, List.set_cons_zero, List.set_cons_succ]
            have hb := (show Below _ _ _ from hG)
            replace DR := Lib.hid (DR.out.below hb)
            replace HB := Lib.hid (HB.out.trans (Below.mono hb HB.out.size))
            clear hb hG
            rw [r2]
            clear r2
            go_upto_region 11 with fail
            refine wp_region_calm 8 [] ([fun vq _ => vq = .string S,
                fun vq _ => vq = .int .i64 fr,
                fun vq _ => vq = .int .i64 k,
                fun vq _ => vq = .string su,
                fun vq wq => ∃ u0, vq = .tuple #[u0, .bool t1] ∧ LV wq u0 ((limbs n1)) n1,
                fun vq wq => ∃ u0, vq = .tuple #[u0, .bool t1] ∧ LV wq u0 ((limbs n1)) n1,
                fun vq wq => LV wq vq ((limbs n1)) n1,
                fun vq _ => vq = .bool t1]) (by kernel_rfl) (by decide) ?_ ?_ ?_
            · intro j hj; cases hj
            · refine po rfl (fun lq aq wq hk hr K hK => ?_) ?_
              · have B0 : ev aq (.tmp 0) = .string S := hk.base 0 (by kernel_rfl) rfl
                exact vc hK (by go_simp) (fun w2 h2 => rfl)
              refine po rfl (fun lq aq wq hk hr K hK => ?_) ?_
              · have B4 : ev aq (.tmp 4) = .int .i64 fr := hk.base 4 (by kernel_rfl) rfl
                exact vc hK (by go_simp) (fun w2 h2 => rfl)
              refine po rfl (fun lq aq wq hk hr K hK => ?_) ?_
              · have B5 : ev aq (.tmp 5) = .int .i64 k := hk.base 5 (by kernel_rfl) rfl
                exact vc hK (by go_simp) (fun w2 h2 => rfl)
              refine po rfl (fun lq aq wq hk hr K hK => ?_) ?_
              · have E0 : ev aq (.tmp 37) = .string S := hk.dc hr 0 (by kernel_rfl) fun _ _ h => h
                have E1 : ev aq (.tmp 38) = .int .i64 fr := hk.dc hr 1 (by kernel_rfl) fun _ _ h => h
                have E2 : ev aq (.tmp 39) = .int .i64 k := hk.dc hr 2 (by kernel_rfl) fun _ _ h => h
                exact vc hK (by first | (go_simp; done) | (go_simp; omega) | (go_simp; intro h; omega)) (fun w2 h2 => rfl)
              refine po rfl (fun lq aq wq hk hr K hK => ?_) ?_
              · have E3 : ev aq (.tmp 40) = .string su := hk.dc hr 3 (by kernel_rfl) fun _ _ h => h
                exact yc hK (by go_simp) (rparse01_v wq hn1.out hul9 hsu.out) (fun u w1 hu w2 h2 => (let ⟨u0, e0, h0⟩ := hu; ⟨u0, e0, (h0).grow h2⟩))
              refine po rfl (fun lq aq wq hk hr K hK => ?_) ?_
              · obtain ⟨v4, E4, r4⟩ := hk.dp hr 4 41 (by kernel_rfl)
                have r4 : ∃ u0, v4 = .tuple #[u0, .bool t1] ∧ LV wq u0 ((limbs n1)) n1 := r4
                exact vc hK (by go_simp) (fun w2 h2 => (let ⟨u0, e0, h0⟩ := r4; ⟨u0, e0, (h0).grow h2⟩))
              refine po rfl (fun lq aq wq hk hr K hK => ?_) ?_
              · obtain ⟨v5, E5, r5⟩ := hk.dp hr 5 36 (by kernel_rfl)
                have r5 : ∃ u0, v5 = .tuple #[u0, .bool t1] ∧ LV wq u0 ((limbs n1)) n1 := r5
                obtain ⟨u0, rfl, h0⟩ := r5
                exact vc hK (by go_simp) (fun w2 h2 => (h0).grow h2)
              refine po rfl (fun lq aq wq hk hr K hK => ?_) ?_
              · obtain ⟨v5, E5, r5⟩ := hk.dp hr 5 36 (by kernel_rfl)
                have r5 : ∃ u0, v5 = .tuple #[u0, .bool t1] ∧ LV wq u0 ((limbs n1)) n1 := r5
                obtain ⟨u0, rfl, h0⟩ := r5
                exact vc hK (by go_simp) (fun w2 h2 => rfl)
              exact AllOps.nil
            intro V x5 hG hV hap
            have r6 : LV x5 (V 6) ((limbs n1)) n1 := hV 6 (by decide)
            have r7 : (V 7) = .bool t1 := hV 7 (by decide)
            clear hV hap
            simp only [List.take_succ_cons, List.take_zero, List.drop_succ_cons, List.drop_zero, putAll, Act.put, List.setIfInBounds_toArray, List.set_cons_zero, List.set_cons_succ]
            have hb := (show Below _ _ _ from hG)
            replace DR := Lib.hid (DR.out.below hb)
            replace HB := Lib.hid (HB.out.trans (Below.mono hb HB.out.size))
            clear hb hG
            rw [r7]
            clear r7
            obtain ⟨Ap, cp, ep, qp⟩ := r6
            simp only [ep]
            rw [ep] at qp
            have Qp := Lib.hid qp
            clear ep qp
            go_upto_region 12 with fail
            refine wp_region_calm 1 [] ([fun vq wq => LV wq vq ([1]) 1]) (by kernel_rfl) (by decide) ?_ ?_ ?_
            · intro j hj; cases hj
            · refine po rfl (fun lq aq wq hk hr K hK => ?_) ?_
              · exact wp_of_value (by go_simp) (hK.out _ _ ((Grows.refl _).alloc _) (fun w2 h2 => (lit_lv wq 43 (cs := #[.int .u32 1]) (n := 1) [1] 1 rfl rfl (by decide) (by decide)).grow h2) (fun h => absurd h (by decide)))
              exact AllOps.nil
            intro V x6 hG hV hap
            have r0 : LV x6 (V 0) ([1]) 1 := hV 0 (by decide)
            clear hV hap
            simp only [List.take_succ_cons, List.take_zero, List.drop_succ_cons, List.drop_zero, putAll, Act.put, List.setIfInBounds_toArray, List.set_cons_zero, List.set_cons_succ]
            have hb := (show Below _ _ _ from hG)
            replace DR := Lib.hid (DR.out.below hb)
            replace Qp := Lib.hid (Qp.out.below hb)
            replace HB := Lib.hid (HB.out.trans (Below.mono hb HB.out.size))
            clear hb hG
            obtain ⟨Ad, cd, ed, qd⟩ := r0
            simp only [ed]
            rw [ed] at qd
            have Qd := Lib.hid qd
            clear ed qd
            go_upto_region 14 with fail
            refine wp_region_calm 4 [] ([fun vq _ => vq = .int .i64 k,
                fun vq _ => vq = .string S,
                fun vq _ => vq = .int .i64 N,
                fun vq _ => vq = .bool true]) (by kernel_rfl) (by decide) ?_ ?_ ?_
            · intro j hj; cases hj
            · refine po rfl (fun lq aq wq hk hr K hK => ?_) ?_
              · have B5 : ev aq (.tmp 5) = .int .i64 k := hk.base 5 (by kernel_rfl) rfl
                exact vc hK (by go_simp) (fun w2 h2 => rfl)
              refine po rfl (fun lq aq wq hk hr K hK => ?_) ?_
              · have B0 : ev aq (.tmp 0) = .string S := hk.base 0 (by kernel_rfl) rfl
                exact vc hK (by go_simp) (fun w2 h2 => rfl)
              refine po rfl (fun lq aq wq hk hr K hK => ?_) ?_
              · have E1 : ev aq (.tmp 46) = .string S := hk.dc hr 1 (by kernel_rfl) fun _ _ h => h
                exact vc hK (by go_simp) (fun w2 h2 => rfl)
              refine po rfl (fun lq aq wq hk hr K hK => ?_) ?_
              · have E0 : ev aq (.tmp 45) = .int .i64 k := hk.dc hr 0 (by kernel_rfl) fun _ _ h => h
                have E2 : ev aq (.tmp 47) = .int .i64 N := hk.dc hr 2 (by kernel_rfl) fun _ _ h => h
                exact vc hK (by first | (go_simp; done) | (go_simp; omega)) (fun w2 h2 => rfl)
              exact AllOps.nil
            intro V x7 hG hV hap
            have r3 : (V 3) = .bool true := hV 3 (by decide)
            clear hV hap
            simp only [List.take_succ_cons, List.take_nil, List.drop_succ_cons, List.drop_nil, putAll, Act.put, List.setIfInBounds_toArray, List.set_cons_zero, List.set_cons_succ]
            have hb := (show Below _ _ _ from hG)
            replace DR := Lib.hid (DR.out.below hb)
            replace Qp := Lib.hid (Qp.out.below hb)
            replace Qd := Lib.hid (Qd.out.below hb)
            replace HB := Lib.hid (HB.out.trans (Below.mono hb HB.out.size))
            clear hb hG
            rw [r3]
            clear r3
            clear Qd
            go_upto_region 15 with fail
            refine wp_region_calm 8 [] ([fun vq _ => vq = .string S,
                fun vq _ => vq = .int .i64 k,
                fun vq _ => vq = .int .i64 (k + 1),
                fun vq _ => vq = .string st,
                fun vq wq => ∃ u0, vq = .tuple #[u0, .bool t2] ∧ LV wq u0 ((limbs n2)) n2,
                fun vq wq => ∃ u0, vq = .tuple #[u0, .bool t2] ∧ LV wq u0 ((limbs n2)) n2,
                fun vq wq => LV wq vq ((limbs n2)) n2,
                fun vq _ => vq = .bool t2]) (by kernel_rfl) (by decide) ?_ ?_ ?_
            · intro j hj; cases hj
            · refine po rfl (fun lq aq wq hk hr K hK => ?_) ?_
              · have B0 : ev aq (.tmp 0) = .string S := hk.base 0 (by kernel_rfl) rfl
                exact vc hK (by go_simp) (fun w2 h2 => rfl)
              refine po rfl (fun lq aq wq hk hr K hK => ?_) ?_
              · have B5 : ev aq (.tmp 5) = .int .i64 k := hk.base 5 (by kernel_rfl) rfl
                exact vc hK (by go_simp) (fun w2 h2 => rfl)
              refine po rfl (fun lq aq wq hk hr K hK => ?_) ?_
              · have E1 : ev aq (.tmp 51) = .int .i64 k := hk.dc hr 1 (by kernel_rfl) fun _ _ h => h
                exact vc hK (by go_simp) (fun w2 h2 => rfl)
              refine po rfl (fun lq aq wq hk hr K hK => ?_) ?_
              · have E0 : ev aq (.tmp 50) = .string S := hk.dc hr 0 (by kernel_rfl) fun _ _ h => h
                have E2 : ev aq (.tmp 52) = .int .i64 (k + 1) := hk.dc hr 2 (by kernel_rfl) fun _ _ h => h
                exact vc hK (by first | (go_simp; done) | (go_simp; omega) | (go_simp; intro h; omega)) (fun w2 h2 => rfl)
              refine po rfl (fun lq aq wq hk hr K hK => ?_) ?_
              · have E3 : ev aq (.tmp 53) = .string st := hk.dc hr 3 (by kernel_rfl) fun _ _ h => h
                exact yc hK (by go_simp) (rparse01_v wq hn2.out htl8 hst.out) (fun u w1 hu w2 h2 => (let ⟨u0, e0, h0⟩ := hu; ⟨u0, e0, (h0).grow h2⟩))
              refine po rfl (fun lq aq wq hk hr K hK => ?_) ?_
              · obtain ⟨v4, E4, r4⟩ := hk.dp hr 4 54 (by kernel_rfl)
                have r4 : ∃ u0, v4 = .tuple #[u0, .bool t2] ∧ LV wq u0 ((limbs n2)) n2 := r4
                exact vc hK (by go_simp) (fun w2 h2 => (let ⟨u0, e0, h0⟩ := r4; ⟨u0, e0, (h0).grow h2⟩))
              refine po rfl (fun lq aq wq hk hr K hK => ?_) ?_
              · obtain ⟨v5, E5, r5⟩ := hk.dp hr 5 49 (by kernel_rfl)
                have r5 : ∃ u0, v5 = .tuple #[u0, .bool t2] ∧ LV wq u0 ((limbs n2)) n2 := r5
                obtain ⟨u0, rfl, h0⟩ := r5
                exact vc hK (by go_simp) (fun w2 h2 => (h0).grow h2)
              refine po rfl (fun lq aq wq hk hr K hK => ?_) ?_
              · obtain ⟨v5, E5, r5⟩ := hk.dp hr 5 49 (by kernel_rfl)
                have r5 : ∃ u0, v5 = .tuple #[u0, .bool t2] ∧ LV wq u0 ((limbs n2)) n2 := r5
                obtain ⟨u0, rfl, h0⟩ := r5
                exact vc hK (by go_simp) (fun w2 h2 => rfl)
              exact AllOps.nil
            intro V x8 hG hV hap
            have r6 : LV x8 (V 6) ((limbs n2)) n2 := hV 6 (by decide)
            have r7 : (V 7) = .bool t2 := hV 7 (by decide)
            clear hV hap
            simp only [List.take_succ_cons, List.take_zero, List.drop_succ_cons, List.drop_zero, putAll, Act.put, List.setIfInBounds_toArray, List.set_cons_zero, List.set_cons_succ]
            have hb := (show Below _ _ _ from hG)
            replace DR := Lib.hid (DR.out.below hb)
            replace Qp := Lib.hid (Qp.out.below hb)
            replace HB := Lib.hid (HB.out.trans (Below.mono hb HB.out.size))
            clear hb hG
            rw [r7]
            clear r7
            obtain ⟨Ae, ce, ee, qe⟩ := r6
            simp only [ee]
            rw [ee] at qe
            have Qe := Lib.hid qe
            clear ee qe
            go_upto_region 16 with fail
            have lwR := DR.out.lt
            refine wp_region_calm 8 [7] ([fun vq _ => vq = .int .i64 fr,
                fun vq _ => vq = .bool nb,
                fun vq _ => vq = .slice Ap (limbs n1).length cp,
                fun vq wq => WV wq vq z,
                fun vq _ => vq = .slice Ae (limbs n2).length ce,
                fun vq wq => QV wq vq ((mkRat z (dn n2))),
                fun vq wq => RV wq vq ((mkRat z (dn n2))),
                fun vq wq => ∃ bq, vq = .pointer (some ⟨bq, 0, none⟩) ∧ BoxN wq bq 26 #[.bool false, .slice none 0 0, .slice none 0 0] ∧ (x8).heap.size ≤ bq]) (by kernel_rfl) (by decide) ?_ ?_ ?_
            · intro j hj v w h
              simp only [List.mem_cons, List.not_mem_nil, or_false] at hj
              subst hj
              all_goals (obtain ⟨b, rfl, hB, _⟩ := h; exact hB.lt)
            · refine po rfl (fun lq aq wq hk hr K hK => ?_) ?_
              · have B4 : ev aq (.tmp 4) = .int .i64 fr := hk.base 4 (by kernel_rfl) rfl
                exact vc hK (by go_simp) (fun w2 h2 => rfl)
              refine po rfl (fun lq aq wq hk hr K hK => ?_) ?_
              · have E0 : ev aq (.tmp 57) = .int .i64 fr := hk.dc hr 0 (by kernel_rfl) fun _ _ h => h
                exact vc hK (by go_simp) (fun w2 h2 => rfl)
              refine po rfl (fun lq aq wq hk hr K hK => ?_) ?_
              · have B7 : ev aq (.tmp 7) = .slice Ap (limbs n1).length cp := hk.base 7 (by kernel_rfl) rfl
                exact vc hK (by go_simp) (fun w2 h2 => rfl)
              refine po rfl (fun lq aq wq hk hr K hK => ?_) ?_
              · have E1 : ev aq (.tmp 58) = .bool nb := hk.dc hr 1 (by kernel_rfl) fun _ _ h => h
                have E2 : ev aq (.tmp 59) = .slice Ap (limbs n1).length cp := hk.dc hr 2 (by kernel_rfl) fun _ _ h => h
                exact vc hK (by go_simp) (fun w2 h2 => (wv_lit nb (Qp.out.below hk.ext) hkn hz).grow h2)
              refine po rfl (fun lq aq wq hk hr K hK => ?_) ?_
              · have B9 : ev aq (.tmp 9) = .slice Ae (limbs n2).length ce := hk.base 9 (by kernel_rfl) rfl
                exact vc hK (by go_simp) (fun w2 h2 => rfl)
              refine po rfl (fun lq aq wq hk hr K hK => ?_) ?_
              · obtain ⟨v3, E3, r3⟩ := hk.dp hr 3 60 (by kernel_rfl)
                have r3 : WV wq v3 z := r3
                have E4 : ev aq (.tmp 61) = .slice Ae (limbs n2).length ce := hk.dc hr 4 (by kernel_rfl) fun _ _ h => h
                obtain ⟨n3, A3, k3, c3, rfl, s3⟩ := r3
                have hsl : ∃ B j e, .slice Ae (limbs n2).length ce = Value.slice B j e := ⟨_, _, _, rfl⟩
                have hnd := Qe.out.below hk.ext
                exact vc hK (op_rat 60 61 E3 E4 hsl) (fun w2 h2 => QV.grow ⟨_, _, _, _, _, _, _, rfl, _, _, _, s3, hnd, hkm, rfl⟩ h2)
              refine po rfl (fun lq aq wq hk hr K hK => ?_) ?_
              · obtain ⟨v5, E5, r5⟩ := hk.dp hr 5 62 (by kernel_rfl)
                have r5 : QV wq v5 ((mkRat z (dn n2))) := r5
                exact yc hK (by go_simp) (rmadeQ_v wq r5) (fun u w1 hu w2 h2 => (hu).grow h2)
              refine po rfl (fun lq aq wq hk hr K hK => ?_) ?_
              · exact wp_of_value (by go_simp) (hK.out _ _ ((Grows.refl _).alloc _) (fun w2 h2 => ⟨_, rfl, (BoxN.new wq 26 _).below h2, hk.ext.size⟩) (fun _ => Nat.le_refl _))
              exact AllOps.nil
            intro V x9 hG hV hap
            have r6 : RV x9 (V 6) ((mkRat z (dn n2))) := hV 6 (by decide)
            have r7 : ∃ bq, (V 7) = .pointer (some ⟨bq, 0, none⟩) ∧ BoxN x9 bq 26 #[.bool false, .slice none 0 0, .slice none 0 0] ∧ (x8).heap.size ≤ bq := hV 7 (by decide)
            clear hV
            simp only [List.take_succ_cons, List.take_zero, List.drop_succ_cons, List.drop_zero, putAll, Act.put, List.setIfInBounds_toArray, List.set_cons_zero, List.set_cons_succ]
            have hb := (show Below _ _ _ from hG)
            obtain ⟨ba, ea, Da, ga⟩ := r7
            obtain ⟨na, Aa, ka, ca, Ba, ja, da, ea9, sa, ta, hda⟩ := r6
            simp only [ea, ea9]
            clear ea ea9 hap hG
            replace Da : Box3 _ ba 26 (.bool false) (.slice none 0 0) (.slice none 0 0) := Da
            refine wpList_of_skip rfl (op_store3 11 63 _ rfl rfl Da) ?_
            have hB := put3_below (x' := .bool na) (y' := .slice Aa ka ca) (z' := .slice Ba ja da) hb ga
            replace sa := sa.put3 Da (.bool na) (.slice Aa ka ca) (.slice Ba ja da)
            replace ta := ta.put3 Da (.bool na) (.slice Aa ka ca) (.slice Ba ja da)
            replace Da := put3_own (x' := .bool na) (y' := .slice Aa ka ca) (z' := .slice Ba ja da) Da
            clear hb
            generalize put3 x9 ba (.bool na) (.slice Aa ka ca) (.slice Ba ja da) = y10 at *
            replace DR := Lib.hid (DR.out.below hB)
            replace Qp := Lib.hid (Qp.out.below hB)
            replace Qe := Lib.hid (Qe.out.below hB)
            replace HB := Lib.hid (HB.out.trans (Below.mono hB HB.out.size))
            replace lwR := Nat.lt_of_lt_of_le lwR ga
            replace Da := Lib.hid Da
            have SNa := Lib.hid sa
            have SDa := Lib.hid ta
            clear hB ga sa ta
            go_upto_region 17 with fail
            rcases t1 with _ | _
            · skip
              rcases t2 with _ | _
              · skip
                obtain ⟨hq9, ht9⟩ := (show ReadsQ l 0 false from by rw [hel.out]; exact loose_no2 hlz.out hn2.out hno.out (fun h => absurd h (by decide))).one hQ
                subst ht9
                replace hq9 := Lib.hid hq9
                refine wp_region_calm 12 [] ([fun vq _ => vq = .bool false,
                    fun vq _ => vq = .bool true,
                    fun vq _ => vq = .bool true,
                    fun vq _ => vq = undef,
                    fun vq _ => vq = undef,
                    fun vq _ => vq = .bool true,
                    fun vq _ => vq = .bool true,
                    fun vq _ => vq = undef,
                    fun vq _ => vq = undef,
                    fun vq _ => vq = undef,
                    fun vq _ => vq = undef,
                    fun vq _ => vq = .bool true]) (by kernel_rfl) (by decide) ?_ ?_ ?_
                · intro j hj; cases hj
                · refine po rfl (fun lq aq wq hk hr K hK => ?_) ?_
                  · have B8 : ev aq (.tmp 8) = .bool false := hk.base 8 (by kernel_rfl) rfl
                    exact vc hK (by go_simp) (fun w2 h2 => rfl)
                  refine po rfl (fun lq aq wq hk hr K hK => ?_) ?_
                  · have E0 : ev aq (.tmp 64) = .bool false := hk.dc hr 0 (by kernel_rfl) fun _ _ h => h
                    exact vc hK (by go_simp) (fun w2 h2 => rfl)
                  refine po rfl (fun lq aq wq hk hr K hK => ?_) ?_
                  · have E1 : ev aq (.tmp 65) = .bool true := hk.dc hr 1 (by kernel_rfl) fun _ _ h => h
                    exact vc hK (by go_simp) (fun w2 h2 => rfl)
                  refine pb 2 66 false true rfl (by kernel_rfl) (fun _ _ h => h) (by decide) (fun _ => rfl) rfl ?_
                  refine pb 2 66 false true rfl (by kernel_rfl) (fun _ _ h => h) (by decide) (fun _ => rfl) rfl ?_
                  refine po rfl (fun lq aq wq hk hr K hK => ?_) ?_
                  · have E2 : ev aq (.tmp 66) = .bool true := hk.dc hr 2 (by kernel_rfl) fun _ _ h => h
                    exact vc hK (by go_simp) (fun w2 h2 => rfl)
                  refine po rfl (fun lq aq wq hk hr K hK => ?_) ?_
                  · have E5 : ev aq (.tmp 69) = .bool true := hk.dc hr 5 (by kernel_rfl) fun _ _ h => h
                    exact vc hK (by go_simp) (fun w2 h2 => rfl)
                  refine pb 6 70 false true rfl (by kernel_rfl) (fun _ _ h => h) (by decide) (fun _ => rfl) rfl ?_
                  refine pb 6 70 false true rfl (by kernel_rfl) (fun _ _ h => h) (by decide) (fun _ => rfl) rfl ?_
                  refine pb 6 70 false true rfl (by kernel_rfl) (fun _ _ h => h) (by decide) (fun _ => rfl) rfl ?_
                  refine pb 6 70 false true rfl (by kernel_rfl) (fun _ _ h => h) (by decide) (fun _ => rfl) rfl ?_
                  refine po rfl (fun lq aq wq hk hr K hK => ?_) ?_
                  · have E6 : ev aq (.tmp 70) = .bool true := hk.dc hr 6 (by kernel_rfl) fun _ _ h => h
                    exact vc hK (by go_simp) (fun w2 h2 => rfl)
                  exact AllOps.nil
                intro V x11 hG hV hap
                have r11 : (V 11) = .bool true := hV 11 (by decide)
                clear hV hap
                simp only [List.take_succ_cons, List.take_nil, List.drop_succ_cons, List.drop_nil, putAll, Act.put, List.setIfInBounds_toArray, List.set_cons_zero, List.set_cons_succ]
                have hb := (show Below _ _ _ from hG)
                replace DR := Lib.hid (DR.out.below hb)
                replace Da := Lib.hid (Da.out.below hb)
                replace SNa := Lib.hid (SNa.out.below hb)
                replace SDa := Lib.hid (SDa.out.below hb)
                replace Qp := Lib.hid (Qp.out.below hb)
                replace Qe := Lib.hid (Qe.out.below hb)
                replace HB := Lib.hid (HB.out.trans (Below.mono hb HB.out.size))
                clear hb hG
                rw [r11]
                clear r11
                go_upto_region 18 with fail
                refine wp_region_calm 1 [] ([fun vq wq => QV wq vq ((0 : Rat))]) (by kernel_rfl) (by decide) ?_ ?_ ?_
                · intro j hj; cases hj
                · refine po rfl (fun lq aq wq hk hr K hK => ?_) ?_
                  · exact vc hK (by go_simp) (fun w2 h2 => (QV.zero _).grow h2)
                  exact AllOps.nil
                intro V x12 hG hV hap
                have r0 : QV x12 (V 0) ((0 : Rat)) := hV 0 (by decide)
                clear hV hap
                simp only [List.take_succ_cons, List.take_zero, List.drop_succ_cons, List.drop_zero, putAll, Act.put, List.setIfInBounds_toArray, List.set_cons_zero, List.set_cons_succ]
                have hb := (show Below _ _ _ from hG)
                obtain ⟨nR, AR, kR, cR, BR, jR, dR, y9, eR, ey, hQ, HQ, c0, c1, c2⟩ := ret3q r0 (DR.out.below hb) (HB.out.trans (Below.mono hb HB.out.size)) (by omega)
                simp only [eR]
                refine wpList_of_skip rfl (op_store3 2 76 _ rfl rfl (DR.out.below hb)) ?_
                rw [ey]
                clear eR ey hb hG HB DR
                go_wp2_with fail
                refine bodyPost_ret (v := .tuple #[.agg #[.bool nR, .slice AR kR cR, .slice BR jR dR], .bool false]) (by simp [results, Tryz.results46, go_sem, c0, c1, c2]) rfl ⟨_, rfl, ⟨_, rfl, (by have h9 := (QV.to hQ hq9.out); first | exact h9 | exact ⟨h9, fun h => absurd h (by decide)⟩)⟩, HQ⟩
              · skip
                obtain ⟨hq9, ht9⟩ := (show ReadsQ l 0 false from by rw [hel.out]; exact loose_no2 hlz.out hn2.out hno.out (fun h => absurd h (by decide))).one hQ
                subst ht9
                replace hq9 := Lib.hid hq9
                refine wp_region_calm 12 [] ([fun vq _ => vq = .bool false,
                    fun vq _ => vq = .bool true,
                    fun vq _ => vq = .bool true,
                    fun vq _ => vq = undef,
                    fun vq _ => vq = undef,
                    fun vq _ => vq = .bool true,
                    fun vq _ => vq = .bool true,
                    fun vq _ => vq = undef,
                    fun vq _ => vq = undef,
                    fun vq _ => vq = undef,
                    fun vq _ => vq = undef,
                    fun vq _ => vq = .bool true]) (by kernel_rfl) (by decide) ?_ ?_ ?_
                · intro j hj; cases hj
                · refine po rfl (fun lq aq wq hk hr K hK => ?_) ?_
                  · have B8 : ev aq (.tmp 8) = .bool false := hk.base 8 (by kernel_rfl) rfl
                    exact vc hK (by go_simp) (fun w2 h2 => rfl)
                  refine po rfl (fun lq aq wq hk hr K hK => ?_) ?_
                  · have E0 : ev aq (.tmp 64) = .bool false := hk.dc hr 0 (by kernel_rfl) fun _ _ h => h
                    exact vc hK (by go_simp) (fun w2 h2 => rfl)
                  refine po rfl (fun lq aq wq hk hr K hK => ?_) ?_
                  · have E1 : ev aq (.tmp 65) = .bool true := hk.dc hr 1 (by kernel_rfl) fun _ _ h => h
                    exact vc hK (by go_simp) (fun w2 h2 => rfl)
                  refine pb 2 66 false true rfl (by kernel_rfl) (fun _ _ h => h) (by decide) (fun _ => rfl) rfl ?_
                  refine pb 2 66 false true rfl (by kernel_rfl) (fun _ _ h => h) (by decide) (fun _ => rfl) rfl ?_
                  refine po rfl (fun lq aq wq hk hr K hK => ?_) ?_
                  · have E2 : ev aq (.tmp 66) = .bool true := hk.dc hr 2 (by kernel_rfl) fun _ _ h => h
                    exact vc hK (by go_simp) (fun w2 h2 => rfl)
                  refine po rfl (fun lq aq wq hk hr K hK => ?_) ?_
                  · have E5 : ev aq (.tmp 69) = .bool true := hk.dc hr 5 (by kernel_rfl) fun _ _ h => h
                    exact vc hK (by go_simp) (fun w2 h2 => rfl)
                  refine pb 6 70 false true rfl (by kernel_rfl) (fun _ _ h => h) (by decide) (fun _ => rfl) rfl ?_
                  refine pb 6 70 false true rfl (by kernel_rfl) (fun _ _ h => h) (by decide) (fun _ => rfl) rfl ?_
                  refine pb 6 70 false true rfl (by kernel_rfl) (fun _ _ h => h) (by decide) (fun _ => rfl) rfl ?_
                  refine pb 6 70 false true rfl (by kernel_rfl) (fun _ _ h => h) (by decide) (fun _ => rfl) rfl ?_
                  refine po rfl (fun lq aq wq hk hr K hK => ?_) ?_
                  · have E6 : ev aq (.tmp 70) = .bool true := hk.dc hr 6 (by kernel_rfl) fun _ _ h => h
                    exact vc hK (by go_simp) (fun w2 h2 => rfl)
                  exact AllOps.nil
                intro V x11 hG hV hap
                have r11 : (V 11) = .bool true := hV 11 (by decide)
                clear hV hap
                simp only [List.take_succ_cons, List.take_nil, List.drop_succ_cons, List.drop_nil, putAll, Act.put, List.setIfInBounds_toArray, List.set_cons_zero, List.set_cons_succ]
                have hb := (show Below _ _ _ from hG)
                replace DR := Lib.hid (DR.out.below hb)
                replace Da := Lib.hid (Da.out.below hb)
                replace SNa := Lib.hid (SNa.out.below hb)
                replace SDa := Lib.hid (SDa.out.below hb)
                replace Qp := Lib.hid (Qp.out.below hb)
                replace Qe := Lib.hid (Qe.out.below hb)
                replace HB := Lib.hid (HB.out.trans (Below.mono hb HB.out.size))
                clear hb hG
                rw [r11]
                clear r11
                go_upto_region 18 with fail
                refine wp_region_calm 1 [] ([fun vq wq => QV wq vq ((0 : Rat))]) (by kernel_rfl) (by decide) ?_ ?_ ?_
                · intro j hj; cases hj
                · refine po rfl (fun lq aq wq hk hr K hK => ?_) ?_
                  · exact vc hK (by go_simp) (fun w2 h2 => (QV.zero _).grow h2)
                  exact AllOps.nil
                intro V x12 hG hV hap
                have r0 : QV x12 (V 0) ((0 : Rat)) := hV 0 (by decide)
                clear hV hap
                simp only [List.take_succ_cons, List.take_zero, List.drop_succ_cons, List.drop_zero, putAll, Act.put, List.setIfInBounds_toArray, List.set_cons_zero, List.set_cons_succ]
                have hb := (show Below _ _ _ from hG)
                obtain ⟨nR, AR, kR, cR, BR, jR, dR, y9, eR, ey, hQ, HQ, c0, c1, c2⟩ := ret3q r0 (DR.out.below hb) (HB.out.trans (Below.mono hb HB.out.size)) (by omega)
                simp only [eR]
                refine wpList_of_skip rfl (op_store3 2 76 _ rfl rfl (DR.out.below hb)) ?_
                rw [ey]
                clear eR ey hb hG HB DR
                go_wp2_with fail
                refine bodyPost_ret (v := .tuple #[.agg #[.bool nR, .slice AR kR cR, .slice BR jR dR], .bool false]) (by simp [results, Tryz.results46, go_sem, c0, c1, c2]) rfl ⟨_, rfl, ⟨_, rfl, (by have h9 := (QV.to hQ hq9.out); first | exact h9 | exact ⟨h9, fun h => absurd h (by decide)⟩)⟩, HQ⟩
            · skip
              rcases t2 with _ | _
              · skip
                obtain ⟨hq9, ht9⟩ := (show ReadsQ l 0 false from by rw [hel.out]; exact loose_no2 hlz.out hn2.out hno.out (fun _ h => absurd h (by decide))).one hQ
                subst ht9
                replace hq9 := Lib.hid hq9
                refine wp_region_calm 12 [] ([fun vq _ => vq = .bool true,
                    fun vq _ => vq = .bool false,
                    fun vq _ => vq = .bool false,
                    fun vq _ => vq = .bool false,
                    fun vq _ => vq = .bool true,
                    fun vq _ => vq = .bool true,
                    fun vq _ => vq = .bool true,
                    fun vq _ => vq = undef,
                    fun vq _ => vq = undef,
                    fun vq _ => vq = undef,
                    fun vq _ => vq = undef,
                    fun vq _ => vq = .bool true]) (by kernel_rfl) (by decide) ?_ ?_ ?_
                · intro j hj; cases hj
                · refine po rfl (fun lq aq wq hk hr K hK => ?_) ?_
                  · have B8 : ev aq (.tmp 8) = .bool true := hk.base 8 (by kernel_rfl) rfl
                    exact vc hK (by go_simp) (fun w2 h2 => rfl)
                  refine po rfl (fun lq aq wq hk hr K hK => ?_) ?_
                  · have E0 : ev aq (.tmp 64) = .bool true := hk.dc hr 0 (by kernel_rfl) fun _ _ h => h
                    exact vc hK (by go_simp) (fun w2 h2 => rfl)
                  refine po rfl (fun lq aq wq hk hr K hK => ?_) ?_
                  · have E1 : ev aq (.tmp 65) = .bool false := hk.dc hr 1 (by kernel_rfl) fun _ _ h => h
                    exact vc hK (by go_simp) (fun w2 h2 => rfl)
                  refine pl 2 66 false rfl (by kernel_rfl) (fun _ _ h => h) (fun lq aq wq hk hr K hK => ?_) ?_
                  · have B10 : ev aq (.tmp 10) = .bool false := hk.base 10 (by kernel_rfl) rfl
                    exact vc hK (by go_simp) (fun w2 h2 => rfl)
                  refine pl 2 66 false rfl (by kernel_rfl) (fun _ _ h => h) (fun lq aq wq hk hr K hK => ?_) ?_
                  · have E3 : ev aq (.tmp 67) = .bool false := hk.dc hr 3 (by kernel_rfl) fun _ _ h => h
                    exact vc hK (by go_simp) (fun w2 h2 => rfl)
                  refine po rfl (fun lq aq wq hk hr K hK => ?_) ?_
                  · have E2 : ev aq (.tmp 66) = .bool false := hk.dc hr 2 (by kernel_rfl) fun _ _ h => h
                    have E4 : ev aq (.tmp 68) = .bool true := hk.dc hr 4 (by kernel_rfl) fun _ _ h => h
                    exact vc hK (by go_simp) (fun w2 h2 => rfl)
                  refine po rfl (fun lq aq wq hk hr K hK => ?_) ?_
                  · have E5 : ev aq (.tmp 69) = .bool true := hk.dc hr 5 (by kernel_rfl) fun _ _ h => h
                    exact vc hK (by go_simp) (fun w2 h2 => rfl)
                  refine pb 6 70 false true rfl (by kernel_rfl) (fun _ _ h => h) (by decide) (fun _ => rfl) rfl ?_
                  refine pb 6 70 false true rfl (by kernel_rfl) (fun _ _ h => h) (by decide) (fun _ => rfl) rfl ?_
                  refine pb 6 70 false true rfl (by kernel_rfl) (fun _ _ h => h) (by decide) (fun _ => rfl) rfl ?_
                  refine pb 6 70 false true rfl (by kernel_rfl) (fun _ _ h => h) (by decide) (fun _ => rfl) rfl ?_
                  refine po rfl (fun lq aq wq hk hr K hK => ?_) ?_
                  · have E6 : ev aq (.tmp 70) = .bool true := hk.dc hr 6 (by kernel_rfl) fun _ _ h => h
                    exact vc hK (by go_simp) (fun w2 h2 => rfl)
                  exact AllOps.nil
                intro V x11 hG hV hap
                have r11 : (V 11) = .bool true := hV 11 (by decide)
                clear hV hap
                simp only [List.take_succ_cons, List.take_nil, List.drop_succ_cons, List.drop_nil, putAll, Act.put, List.setIfInBounds_toArray, List.set_cons_zero, List.set_cons_succ]
                have hb := (show Below _ _ _ from hG)
                replace DR := Lib.hid (DR.out.below hb)
                replace Da := Lib.hid (Da.out.below hb)
                replace SNa := Lib.hid (SNa.out.below hb)
                replace SDa := Lib.hid (SDa.out.below hb)
                replace Qp := Lib.hid (Qp.out.below hb)
                replace Qe := Lib.hid (Qe.out.below hb)
                replace HB := Lib.hid (HB.out.trans (Below.mono hb HB.out.size))
                clear hb hG
                rw [r11]
                clear r11
                go_upto_region 18 with fail
                refine wp_region_calm 1 [] ([fun vq wq => QV wq vq ((0 : Rat))]) (by kernel_rfl) (by decide) ?_ ?_ ?_
                · intro j hj; cases hj
                · refine po rfl (fun lq aq wq hk hr K hK => ?_) ?_
                  · exact vc hK (by go_simp) (fun w2 h2 => (QV.zero _).grow h2)
                  exact AllOps.nil
                intro V x12 hG hV hap
                have r0 : QV x12 (V 0) ((0 : Rat)) := hV 0 (by decide)
                clear hV hap
                simp only [List.take_succ_cons, List.take_zero, List.drop_succ_cons, List.drop_zero, putAll, Act.put, List.setIfInBounds_toArray, List.set_cons_zero, List.set_cons_succ]
                have hb := (show Below _ _ _ from hG)
                obtain ⟨nR, AR, kR, cR, BR, jR, dR, y9, eR, ey, hQ, HQ, c0, c1, c2⟩ := ret3q r0 (DR.out.below hb) (HB.out.trans (Below.mono hb HB.out.size)) (by omega)
                simp only [eR]
                refine wpList_of_skip rfl (op_store3 2 76 _ rfl rfl (DR.out.below hb)) ?_
                rw [ey]
                clear eR ey hb hG HB DR
                go_wp2_with fail
                refine bodyPost_ret (v := .tuple #[.agg #[.bool nR, .slice AR kR cR, .slice BR jR dR], .bool false]) (by simp [results, Tryz.results46, go_sem, c0, c1, c2]) rfl ⟨_, rfl, ⟨_, rfl, (by have h9 := (QV.to hQ hq9.out); first | exact h9 | exact ⟨h9, fun h => absurd h (by decide)⟩)⟩, HQ⟩
              · skip
                rcases Decidable.em (qtext (mkRat z (dn n2)) = l) with htq | htq
                · skip
                  have hsa := Lib.hid (show ByteArray.mk (qtext (mkRat z (dn n2))).toArray = S by rw [htq, hS.out])
                  obtain ⟨hq9, ht9⟩ := (reads_yes hkz hn2.out.sz htq).one hQ
                  subst ht9
                  replace hq9 := Lib.hid hq9
                  refine wp_region_calm 12 [] ([fun vq _ => vq = .bool true,
                      fun vq _ => vq = .bool false,
                      fun vq _ => vq = .bool false,
                      fun vq _ => vq = .bool true,
                      fun vq _ => vq = .bool false,
                      fun vq _ => vq = .bool false,
                      fun vq _ => vq = .bool false,
                      fun vq wq => RV wq vq ((mkRat z (dn n2))),
                      fun vq _ => vq = .string S,
                      fun vq _ => vq = .string S,
                      fun vq _ => vq = .bool false,
                      fun vq _ => vq = .bool false]) (by kernel_rfl) (by decide) ?_ ?_ ?_
                  · intro j hj; cases hj
                  · refine po rfl (fun lq aq wq hk hr K hK => ?_) ?_
                    · have B8 : ev aq (.tmp 8) = .bool true := hk.base 8 (by kernel_rfl) rfl
                      exact vc hK (by go_simp) (fun w2 h2 => rfl)
                    refine po rfl (fun lq aq wq hk hr K hK => ?_) ?_
                    · have E0 : ev aq (.tmp 64) = .bool true := hk.dc hr 0 (by kernel_rfl) fun _ _ h => h
                      exact vc hK (by go_simp) (fun w2 h2 => rfl)
                    refine po rfl (fun lq aq wq hk hr K hK => ?_) ?_
                    · have E1 : ev aq (.tmp 65) = .bool false := hk.dc hr 1 (by kernel_rfl) fun _ _ h => h
                      exact vc hK (by go_simp) (fun w2 h2 => rfl)
                    refine pl 2 66 false rfl (by kernel_rfl) (fun _ _ h => h) (fun lq aq wq hk hr K hK => ?_) ?_
                    · have B10 : ev aq (.tmp 10) = .bool true := hk.base 10 (by kernel_rfl) rfl
                      exact vc hK (by go_simp) (fun w2 h2 => rfl)
                    refine pl 2 66 false rfl (by kernel_rfl) (fun _ _ h => h) (fun lq aq wq hk hr K hK => ?_) ?_
                    · have E3 : ev aq (.tmp 67) = .bool true := hk.dc hr 3 (by kernel_rfl) fun _ _ h => h
                      exact vc hK (by go_simp) (fun w2 h2 => rfl)
                    refine po rfl (fun lq aq wq hk hr K hK => ?_) ?_
                    · have E2 : ev aq (.tmp 66) = .bool false := hk.dc hr 2 (by kernel_rfl) fun _ _ h => h
                      have E4 : ev aq (.tmp 68) = .bool false := hk.dc hr 4 (by kernel_rfl) fun _ _ h => h
                      exact vc hK (by go_simp) (fun w2 h2 => rfl)
                    refine po rfl (fun lq aq wq hk hr K hK => ?_) ?_
                    · have E5 : ev aq (.tmp 69) = .bool false := hk.dc hr 5 (by kernel_rfl) fun _ _ h => h
                      exact vc hK (by go_simp) (fun w2 h2 => rfl)
                    refine pl 6 70 false rfl (by kernel_rfl) (fun _ _ h => h) (fun lq aq wq hk hr K hK => ?_) ?_
                    · have B11 : ev aq (.tmp 11) = .pointer (some ⟨ba, 0, none⟩) := hk.base 11 (by kernel_rfl) rfl
                      have hb : Below _ _ _ := hk.ext
                      exact vc hK (op_load3 11 _ B11 (Da.out.below hb)) (fun w2 h2 => RV.grow ⟨_, _, _, _, _, _, _, rfl, (SNa.out.below hb), (SDa.out.below hb), hda⟩ h2)
                    refine pl 6 70 false rfl (by kernel_rfl) (fun _ _ h => h) (fun lq aq wq hk hr K hK => ?_) ?_
                    · obtain ⟨v7, E7, r7⟩ := hk.dp hr 7 71 (by kernel_rfl)
                      have r7 : RV wq v7 ((mkRat z (dn n2))) := r7
                      exact yc hK (by go_simp) (rqtext_v wq (r7).qv hsa.out) (fun u w1 hu w2 h2 => hu)
                    refine pl 6 70 false rfl (by kernel_rfl) (fun _ _ h => h) (fun lq aq wq hk hr K hK => ?_) ?_
                    · have B0 : ev aq (.tmp 0) = .string S := hk.base 0 (by kernel_rfl) rfl
                      exact vc hK (by go_simp) (fun w2 h2 => rfl)
                    refine pl 6 70 false rfl (by kernel_rfl) (fun _ _ h => h) (fun lq aq wq hk hr K hK => ?_) ?_
                    · have E8 : ev aq (.tmp 72) = .string S := hk.dc hr 8 (by kernel_rfl) fun _ _ h => h
                      have E9 : ev aq (.tmp 73) = .string S := hk.dc hr 9 (by kernel_rfl) fun _ _ h => h
                      exact vc hK (by go_simp) (fun w2 h2 => rfl)
                    refine po rfl (fun lq aq wq hk hr K hK => ?_) ?_
                    · have E6 : ev aq (.tmp 70) = .bool false := hk.dc hr 6 (by kernel_rfl) fun _ _ h => h
                      have E10 : ev aq (.tmp 74) = .bool false := hk.dc hr 10 (by kernel_rfl) fun _ _ h => h
                      exact vc hK (by go_simp) (fun w2 h2 => rfl)
                    exact AllOps.nil
                  intro V x11 hG hV hap
                  have r11 : (V 11) = .bool false := hV 11 (by decide)
                  clear hV hap
                  simp only [List.take_succ_cons, List.take_nil, List.drop_succ_cons, List.drop_nil, putAll, Act.put, List.setIfInBounds_toArray, List.set_cons_zero, List.set_cons_succ]
                  have hb := (show Below _ _ _ from hG)
                  replace DR := Lib.hid (DR.out.below hb)
                  replace Da := Lib.hid (Da.out.below hb)
                  replace SNa := Lib.hid (SNa.out.below hb)
                  replace SDa := Lib.hid (SDa.out.below hb)
                  replace Qp := Lib.hid (Qp.out.below hb)
                  replace Qe := Lib.hid (Qe.out.below hb)
                  replace HB := Lib.hid (HB.out.trans (Below.mono hb HB.out.size))
                  clear hb hG
                  rw [r11]
                  clear r11
                  go_upto_region 19 with fail
                  refine wp_region_calm 1 [] ([fun vq wq => RV wq vq ((mkRat z (dn n2)))]) (by kernel_rfl) (by decide) ?_ ?_ ?_
                  · intro j hj; cases hj
                  · refine po rfl (fun lq aq wq hk hr K hK => ?_) ?_
                    · have B11 : ev aq (.tmp 11) = .pointer (some ⟨ba, 0, none⟩) := hk.base 11 (by kernel_rfl) rfl
                      have hb : Below _ _ _ := hk.ext
                      exact vc hK (op_load3 11 _ B11 (Da.out.below hb)) (fun w2 h2 => RV.grow ⟨_, _, _, _, _, _, _, rfl, (SNa.out.below hb), (SDa.out.below hb), hda⟩ h2)
                    exact AllOps.nil
                  intro V x12 hG hV hap
                  have r0 : RV x12 (V 0) ((mkRat z (dn n2))) := hV 0 (by decide)
                  clear hV hap
                  simp only [List.take_succ_cons, List.take_zero, List.drop_succ_cons, List.drop_zero, putAll, Act.put, List.setIfInBounds_toArray, List.set_cons_zero, List.set_cons_succ]
                  have hb := (show Below _ _ _ from hG)
                  obtain ⟨nR, AR, kR, cR, BR, jR, dR, y9, eR, ey, hQ, HQ, c0, c1, c2⟩ := ret3 r0 (DR.out.below hb) (HB.out.trans (Below.mono hb HB.out.size)) (by omega)
                  simp only [eR]
                  refine wpList_of_skip rfl (op_store3 2 77 _ rfl rfl (DR.out.below hb)) ?_
                  rw [ey]
                  clear eR ey hb hG HB DR
                  go_wp2_with fail
                  refine bodyPost_ret (v := .tuple #[.agg #[.bool nR, .slice AR kR cR, .slice BR jR dR], .bool true]) (by simp [results, Tryz.results46, go_sem, c0, c1, c2]) rfl ⟨_, rfl, ⟨_, rfl, (by have h9 := (RV.to hQ hq9.out); first | exact ⟨h9.qv, h9⟩ | exact ⟨h9.qv, fun _ => h9⟩)⟩, HQ⟩
                · skip
                  obtain ⟨sa, hsa⟩ : ∃ sa, ByteArray.mk (qtext (mkRat z (dn n2))).toArray = sa := ⟨_, rfl⟩
                  have hsne : ¬ sa.toList = S.toList := by
                    intro e9
                    refine htq ?_
                    rw [← hS.out, ← hsa, ByteArray.toList_mk, ByteArray.toList_mk] at e9
                    exact e9
                  replace hsa := Lib.hid hsa
                  obtain ⟨hq9, ht9⟩ := (show ReadsQ l 0 false from by rw [hel.out]; exact loose_no2 hlz.out hn2.out hno.out (fun _ _ => hel.out ▸ htq)).one hQ
                  subst ht9
                  replace hq9 := Lib.hid hq9
                  refine wp_region_calm 12 [] ([fun vq _ => vq = .bool true,
                      fun vq _ => vq = .bool false,
                      fun vq _ => vq = .bool false,
                      fun vq _ => vq = .bool true,
                      fun vq _ => vq = .bool false,
                      fun vq _ => vq = .bool false,
                      fun vq _ => vq = .bool false,
                      fun vq wq => RV wq vq ((mkRat z (dn n2))),
                      fun vq _ => vq = .string sa,
                      fun vq _ => vq = .string S,
                      fun vq _ => vq = .bool true,
                      fun vq _ => vq = .bool true]) (by kernel_rfl) (by decide) ?_ ?_ ?_
                  · intro j hj; cases hj
                  · refine po rfl (fun lq aq wq hk hr K hK => ?_) ?_
                    · have B8 : ev aq (.tmp 8) = .bool true := hk.base 8 (by kernel_rfl) rfl
                      exact vc hK (by go_simp) (fun w2 h2 => rfl)
                    refine po rfl (fun lq aq wq hk hr K hK => ?_) ?_
                    · have E0 : ev aq (.tmp 64) = .bool true := hk.dc hr 0 (by kernel_rfl) fun _ _ h => h
                      exact vc hK (by go_simp) (fun w2 h2 => rfl)
                    refine po rfl (fun lq aq wq hk hr K hK => ?_) ?_
                    · have E1 : ev aq (.tmp 65) = .bool false := hk.dc hr 1 (by kernel_rfl) fun _ _ h => h
                      exact vc hK (by go_simp) (fun w2 h2 => rfl)
                    refine pl 2 66 false rfl (by kernel_rfl) (fun _ _ h => h) (fun lq aq wq hk hr K hK => ?_) ?_
                    · have B10 : ev aq (.tmp 10) = .bool true := hk.base 10 (by kernel_rfl) rfl
                      exact vc hK (by go_simp) (fun w2 h2 => rfl)
                    refine pl 2 66 false rfl (by kernel_rfl) (fun _ _ h => h) (fun lq aq wq hk hr K hK => ?_) ?_
                    · have E3 : ev aq (.tmp 67) = .bool true := hk.dc hr 3 (by kernel_rfl) fun _ _ h => h
                      exact vc hK (by go_simp) (fun w2 h2 => rfl)
                    refine po rfl (fun lq aq wq hk hr K hK => ?_) ?_
                    · have E2 : ev aq (.tmp 66) = .bool false := hk.dc hr 2 (by kernel_rfl) fun _ _ h => h
                      have E4 : ev aq (.tmp 68) = .bool false := hk.dc hr 4 (by kernel_rfl) fun _ _ h => h
                      exact vc hK (by go_simp) (fun w2 h2 => rfl)
                    refine po rfl (fun lq aq wq hk hr K hK => ?_) ?_
                    · have E5 : ev aq (.tmp 69) = .bool false := hk.dc hr 5 (by kernel_rfl) fun _ _ h => h
                      exact vc hK (by go_simp) (fun w2 h2 => rfl)
                    refine pl 6 70 false rfl (by kernel_rfl) (fun _ _ h => h) (fun lq aq wq hk hr K hK => ?_) ?_
                    · have B11 : ev aq (.tmp 11) = .pointer (some ⟨ba, 0, none⟩) := hk.base 11 (by kernel_rfl) rfl
                      have hb : Below _ _ _ := hk.ext
                      exact vc hK (op_load3 11 _ B11 (Da.out.below hb)) (fun w2 h2 => RV.grow ⟨_, _, _, _, _, _, _, rfl, (SNa.out.below hb), (SDa.out.below hb), hda⟩ h2)
                    refine pl 6 70 false rfl (by kernel_rfl) (fun _ _ h => h) (fun lq aq wq hk hr K hK => ?_) ?_
                    · obtain ⟨v7, E7, r7⟩ := hk.dp hr 7 71 (by kernel_rfl)
                      have r7 : RV wq v7 ((mkRat z (dn n2))) := r7
                      exact yc hK (by go_simp) (rqtext_v wq (r7).qv hsa.out) (fun u w1 hu w2 h2 => hu)
                    refine pl 6 70 false rfl (by kernel_rfl) (fun _ _ h => h) (fun lq aq wq hk hr K hK => ?_) ?_
                    · have B0 : ev aq (.tmp 0) = .string S := hk.base 0 (by kernel_rfl) rfl
                      exact vc hK (by go_simp) (fun w2 h2 => rfl)
                    refine pl 6 70 false rfl (by kernel_rfl) (fun _ _ h => h) (fun lq aq wq hk hr K hK => ?_) ?_
                    · have E8 : ev aq (.tmp 72) = .string sa := hk.dc hr 8 (by kernel_rfl) fun _ _ h => h
                      have E9 : ev aq (.tmp 73) = .string S := hk.dc hr 9 (by kernel_rfl) fun _ _ h => h
                      exact vc hK (by first | (go_simp; done) | (go_simp; exact hsne)) (fun w2 h2 => rfl)
                    refine po rfl (fun lq aq wq hk hr K hK => ?_) ?_
                    · have E6 : ev aq (.tmp 70) = .bool false := hk.dc hr 6 (by kernel_rfl) fun _ _ h => h
                      have E10 : ev aq (.tmp 74) = .bool true := hk.dc hr 10 (by kernel_rfl) fun _ _ h => h
                      exact vc hK (by go_simp) (fun w2 h2 => rfl)
                    exact AllOps.nil
                  intro V x11 hG hV hap
                  have r11 : (V 11) = .bool true := hV 11 (by decide)
                  clear hV hap
                  simp only [List.take_succ_cons, List.take_nil, List.drop_succ_cons, List.drop_nil, putAll, Act.put, List.setIfInBounds_toArray, List.set_cons_zero, List.set_cons_succ]
                  have hb := (show Below _ _ _ from hG)
                  replace DR := Lib.hid (DR.out.below hb)
                  replace Da := Lib.hid (Da.out.below hb)
                  replace SNa := Lib.hid (SNa.out.below hb)
                  replace SDa := Lib.hid (SDa.out.below hb)
                  replace Qp := Lib.hid (Qp.out.below hb)
                  replace Qe := Lib.hid (Qe.out.below hb)
                  replace HB := Lib.hid (HB.out.trans (Below.mono hb HB.out.size))
                  clear hb hG
                  rw [r11]
                  clear r11
                  go_upto_region 18 with fail
                  refine wp_region_calm 1 [] ([fun vq wq => QV wq vq ((0 : Rat))]) (by kernel_rfl) (by decide) ?_ ?_ ?_
                  · intro j hj; cases hj
                  · refine po rfl (fun lq aq wq hk hr K hK => ?_) ?_
                    · exact vc hK (by go_simp) (fun w2 h2 => (QV.zero _).grow h2)
                    exact AllOps.nil
                  intro V x12 hG hV hap
                  have r0 : QV x12 (V 0) ((0 : Rat)) := hV 0 (by decide)
                  clear hV hap
                  simp only [List.take_succ_cons, List.take_zero, List.drop_succ_cons, List.drop_zero, putAll, Act.put, List.setIfInBounds_toArray, List.set_cons_zero, List.set_cons_succ]
                  have hb := (show Below _ _ _ from hG)
                  obtain ⟨nR, AR, kR, cR, BR, jR, dR, y9, eR, ey, hQ, HQ, c0, c1, c2⟩ := ret3q r0 (DR.out.below hb) (HB.out.trans (Below.mono hb HB.out.size)) (by omega)
                  simp only [eR]
                  refine wpList_of_skip rfl (op_store3 2 76 _ rfl rfl (DR.out.below hb)) ?_
                  rw [ey]
                  clear eR ey hb hG HB DR
                  go_wp2_with fail
                  refine bodyPost_ret (v := .tuple #[.agg #[.bool nR, .slice AR kR cR, .slice BR jR dR], .bool false]) (by simp [results, Tryz.results46, go_sem, c0, c1, c2]) rfl ⟨_, rfl, ⟨_, rfl, (by have h9 := (QV.to hQ hq9.out); first | exact h9 | exact ⟨h9, fun h => absurd h (by decide)⟩)⟩, HQ⟩
          · skip
            have h7 : ¬ cz = 47 := by
              intro e
              refine h47 (UInt8.toNat_inj.1 ?_)
              have : (47 : UInt8).toNat = 47 := rfl
              omega
            go_upto_region 7 with fail
            refine wp_region_calm 4 [] ([fun vq _ => vq = .string S,
                fun vq _ => vq = .int .i64 k,
                fun vq _ => vq = .int .u8 cz,
                fun vq _ => vq = .bool false]) (by kernel_rfl) (by decide) ?_ ?_ ?_
            · intro j hj; cases hj
            · refine po rfl (fun lq aq wq hk hr K hK => ?_) ?_
              · have B0 : ev aq (.tmp 0) = .string S := hk.base 0 (by kernel_rfl) rfl
                exact vc hK (by go_simp) (fun w2 h2 => rfl)
              refine po rfl (fun lq aq wq hk hr K hK => ?_) ?_
              · have B6 : ev aq (.tmp 6) = .int .i64 k := hk.base 6 (by kernel_rfl) rfl
                exact vc hK (by go_simp) (fun w2 h2 => rfl)
              refine po rfl (fun lq aq wq hk hr K hK => ?_) ?_
              · have E0 : ev aq (.tmp 27) = .string S := hk.dc hr 0 (by kernel_rfl) fun _ _ h => h
                have E1 : ev aq (.tmp 28) = .int .i64 k := hk.dc hr 1 (by kernel_rfl) fun _ _ h => h
                exact vc hK (by first | (go_simp; done) | (go_simp; exact hcb)) (fun w2 h2 => rfl)
              refine po rfl (fun lq aq wq hk hr K hK => ?_) ?_
              · have E2 : ev aq (.tmp 29) = .int .u8 cz := hk.dc hr 2 (by kernel_rfl) fun _ _ h => h
                exact vc hK (by first | (go_simp; done) | (go_simp; exact h7) | (go_simp; omega)) (fun w2 h2 => rfl)
              exact AllOps.nil
            intro V x2 hG hV hap
            have r3 : (V 3) = .bool false := hV 3 (by decide)
            clear hV hap
            simp only [List.take_succ_cons, List.take_nil, List.drop_succ_cons, List.drop_nil, putAll, Act.put, List.setIfInBounds_toArray, List.set_cons_zero, List.set_cons_succ]
            have hb := (show Below _ _ _ from hG)
            replace DR := Lib.hid (DR.out.below hb)
            replace HB := Lib.hid (HB.out.trans (Below.mono hb HB.out.size))
            clear hb hG
            rw [r3]
            clear r3
            have hno2 : (47 : UInt8) ∉ l.take (k + 1) := by
              obtain ⟨h9, e9⟩ := List.getElem?_eq_some_iff.1 hc
              rw [List.take_succ_eq_append_getElem h9, List.mem_append]
              rintro (h | h)
              · exact hno.out h
              · rw [e9] at h
                exact h47 (List.mem_singleton.1 h).symm
            replace hno2 := Lib.hid hno2
            clear hc hcb hcz hks h7
            go_wp2_with fail
            go_roundw
            case rel =>
              first
                | exact ⟨k + 1, by omega, rfl, (by first | rfl | simp), hno2, HB⟩
                | ((repeat apply Exists.intro); refine ⟨?_, rfl⟩; exact ⟨k + 1, by omega, rfl, (by first | rfl | simp), hno2, HB⟩)
            case measure => simp [intOf]; omega
        · skip
          replace HB := Lib.hid (HW.out.trans (Below.mono HB.out HW.out.size))
          clear HW
          obtain rfl : k = N := by omega
          have hel : l.take k = l := List.take_of_length_le (by rw [hN.out]; exact Nat.le_refl _)
          obtain ⟨u, hu⟩ : ∃ u, (l.take k).drop fr = u := ⟨_, rfl⟩
          obtain ⟨su, hsu⟩ : ∃ su, ByteArray.mk u.toArray = su := ⟨_, rfl⟩
          have hex : S.extract fr k = su := by rw [← hsu, ← hu]; exact (ext_mid hS.out fr k).symm
          have hul : u.length ≤ 200 := by rw [← hu, List.length_drop, List.length_take]; omega
          have hul9 : u.length ≤ 90000 := by omega
          have hk1 : fr ≤ k := by
            rcases nb with _ | _
            · rw [hfrf.out rfl]; exact Nat.zero_le _
            · rw [hfrt.out rfl]
              have hhd := hht.out rfl
              rw [← hN.out]
              cases hl9 : l with
              | nil => rw [hl9] at hhd; cases hhd
              | cons c9 t9 => simp
          have hhu : l.take k = if nb = true then 45 :: u else u := by
            rcases nb with _ | _
            · simp only [Bool.false_eq_true, if_false]
              rw [← hu, hfrf.out rfl, List.drop_zero]
            · simp only [if_true]
              have hhd := hht.out rfl
              have h1 := hfrt.out rfl
              rw [h1] at hk1
              rw [← hu, h1]
              cases hl9 : l with
              | nil => rw [hl9] at hhd; cases hhd
              | cons c9 t9 =>
                rw [hl9] at hhd
                obtain rfl : c9 = 45 := Option.some.inj hhd
                obtain ⟨j, rfl⟩ : ∃ j, k = j + 1 := ⟨k - 1, by omega⟩
                simp
          have hnh : nb = false → u.head? ≠ some 45 := fun hb h => hhf.out hb (by
            rw [← hu, hfrf.out hb, List.drop_zero] at h
            cases hl9 : l with
            | nil => rw [hl9] at h; simp at h
            | cons c9 t9 =>
              rw [hl9] at h
              cases k with
              | zero => simp at h
              | succ j => simpa using h)
          obtain ⟨n1, t1, hn1⟩ := readsN_any hul
          have hkn := Nat.le_trans hn1.sz (show 100 ≤ 1000 by decide)
          have hlz := loose_of hhu hnh hn1
          have hkz : szz (sg nb n1) ≤ 100 := by unfold szz; rw [sg_natAbs]; exact hn1.sz
          replace hn1 := Lib.hid hn1
          replace hlz := Lib.hid hlz
          replace hsu := Lib.hid hsu
          clear hhu hnh
          obtain ⟨z, hz⟩ : ∃ z, sg nb n1 = z := ⟨_, rfl⟩
          rw [hz] at hkz hlz
          clear hu
          replace hel := Lib.hid hel
          go_upto_region 9 with fail
          refine wp_region_calm 3 [] ([fun vq _ => vq = .int .i64 k,
              fun vq _ => vq = .int .i64 fr,
              fun vq _ => vq = .bool false]) (by kernel_rfl) (by decide) ?_ ?_ ?_
          · intro j hj; cases hj
          · refine po rfl (fun lq aq wq hk hr K hK => ?_) ?_
            · have B5 : ev aq (.tmp 5) = .int .i64 k := hk.base 5 (by kernel_rfl) rfl
              exact vc hK (by go_simp) (fun w2 h2 => rfl)
            refine po rfl (fun lq aq wq hk hr K hK => ?_) ?_
            · have B4 : ev aq (.tmp 4) = .int .i64 fr := hk.base 4 (by kernel_rfl) rfl
              exact vc hK (by go_simp) (fun w2 h2 => rfl)
            refine po rfl (fun lq aq wq hk hr K hK => ?_) ?_
            · have E0 : ev aq (.tmp 32) = .int .i64 k := hk.dc hr 0 (by kernel_rfl) fun _ _ h => h
              have E1 : ev aq (.tmp 33) = .int .i64 fr := hk.dc hr 1 (by kernel_rfl) fun _ _ h => h
              exact vc hK (by first | (go_simp; done) | (go_simp; omega)) (fun w2 h2 => rfl)
            exact AllOps.nil
          intro V x2 hG hV hap
          have r2 : (V 2) = .bool false := hV 2 (by decide)
          clear hV hap
          simp only [List.take_succ_cons, List.take_nil, List.drop_succ_cons, List.drop_nil, putAll, Act.put, List.setIfInBounds_toArray, List.set_cons_zero, List.set_cons_succ]
          have hb := (show Below _ _ _ from hG)
          replace DR := Lib.hid (DR.out.below hb)
          replace HB := Lib.hid (HB.out.trans (Below.mono hb HB.out.size))
          clear hb hG
          rw [r2]
          clear r2
          go_upto_region 11 with fail
          refine wp_region_calm 8 [] ([fun vq _ => vq = .string S,
              fun vq _ => vq = .int .i64 fr,
              fun vq _ => vq = .int .i64 k,
              fun vq _ => vq = .string su,
              fun vq wq => ∃ u0, vq = .tuple #[u0, .bool t1] ∧ LV wq u0 ((limbs n1)) n1,
              fun vq wq => ∃ u0, vq = .tuple #[u0, .bool t1] ∧ LV wq u0 ((limbs n1)) n1,
              fun vq wq => LV wq vq ((limbs n1)) n1,
              fun vq _ => vq = .bool t1]) (by kernel_rfl) (by decide) ?_ ?_ ?_
          · intro j hj; cases hj
          · refine po rfl (fun lq aq wq hk hr K hK => ?_) ?_
            · have B0 : ev aq (.tmp 0) = .string S := hk.base 0 (by kernel_rfl) rfl
              exact vc hK (by go_simp) (fun w2 h2 => rfl)
            refine po rfl (fun lq aq wq hk hr K hK => ?_) ?_
            · have B4 : ev aq (.tmp 4) = .int .i64 fr := hk.base 4 (by kernel_rfl) rfl
              exact vc hK (by go_simp) (fun w2 h2 => rfl)
            refine po rfl (fun lq aq wq hk hr K hK => ?_) ?_
            · have B5 : ev aq (.tmp 5) = .int .i64 k := hk.base 5 (by kernel_rfl) rfl
              exact vc hK (by go_simp) (fun w2 h2 => rfl)
            refine po rfl (fun lq aq wq hk hr K hK => ?_) ?_
            · have E0 : ev aq (.tmp 37) = .string S := hk.dc hr 0 (by kernel_rfl) fun _ _ h => h
              have E1 : ev aq (.tmp 38) = .int .i64 fr := hk.dc hr 1 (by kernel_rfl) fun _ _ h => h
              have E2 : ev aq (.tmp 39) = .int .i64 k := hk.dc hr 2 (by kernel_rfl) fun _ _ h => h
              exact vc hK (by first | (go_simp; done) | (go_simp; omega) | (go_simp; intro h; omega)) (fun w2 h2 => rfl)
            refine po rfl (fun lq aq wq hk hr K hK => ?_) ?_
            · have E3 : ev aq (.tmp 40) = .string su := hk.dc hr 3 (by kernel_rfl) fun _ _ h => h
              exact yc hK (by go_simp) (rparse01_v wq hn1.out hul9 hsu.out) (fun u w1 hu w2 h2 => (let ⟨u0, e0, h0⟩ := hu; ⟨u0, e0, (h0).grow h2⟩))
            refine po rfl (fun lq aq wq hk hr K hK => ?_) ?_
            · obtain ⟨v4, E4, r4⟩ := hk.dp hr 4 41 (by kernel_rfl)
              have r4 : ∃ u0, v4 = .tuple #[u0, .bool t1] ∧ LV wq u0 ((limbs n1)) n1 := r4
              exact vc hK (by go_simp) (fun w2 h2 => (let ⟨u0, e0, h0⟩ := r4; ⟨u0, e0, (h0).grow h2⟩))
            refine po rfl (fun lq aq wq hk hr K hK => ?_) ?_
            · obtain ⟨v5, E5, r5⟩ := hk.dp hr 5 36 (by kernel_rfl)
              have r5 : ∃ u0, v5 = .tuple #[u0, .bool t1] ∧ LV wq u0 ((limbs n1)) n1 := r5
              obtain ⟨u0, rfl, h0⟩ := r5
              exact vc hK (by go_simp) (fun w2 h2 => (h0).grow h2)
            refine po rfl (fun lq aq wq hk hr K hK => ?_) ?_
            · obtain ⟨v5, E5, r5⟩ := hk.dp hr 5 36 (by kernel_rfl)
              have r5 : ∃ u0, v5 = .tuple #[u0, .bool t1] ∧ LV wq u0 ((limbs n1)) n1 := r5
              obtain ⟨u0, rfl, h0⟩ := r5
              exact vc hK (by go_simp) (fun w2 h2 => rfl)
            exact AllOps.nil
          intro V x3 hG hV hap
          have r6 : LV x3 (V 6) ((limbs n1)) n1 := hV 6 (by decide)
          have r7 : (V 7) = .bool t1 := hV 7 (by decide)
          clear hV hap
          simp only [List.take_succ_cons, List.take_zero, List.drop_succ_cons, List.drop_zero, putAll, Act.put, List.setIfInBounds_toArray, List.set_cons_zero, List.set_cons_succ]
          have hb := (show Below _ _ _ from hG)
          replace DR := Lib.hid (DR.out.below hb)
          replace HB := Lib.hid (HB.out.trans (Below.mono hb HB.out.size))
          clear hb hG
          rw [r7]
          clear r7
          obtain ⟨Ap, cp, ep, qp⟩ := r6
          simp only [ep]
          rw [ep] at qp
          have Qp := Lib.hid qp
          clear ep qp
          go_upto_region 12 with fail
          refine wp_region_calm 1 [] ([fun vq wq => LV wq vq ([1]) 1]) (by kernel_rfl) (by decide) ?_ ?_ ?_
          · intro j hj; cases hj
          · refine po rfl (fun lq aq wq hk hr K hK => ?_) ?_
            · exact wp_of_value (by go_simp) (hK.out _ _ ((Grows.refl _).alloc _) (fun w2 h2 => (lit_lv wq 43 (cs := #[.int .u32 1]) (n := 1) [1] 1 rfl rfl (by decide) (by decide)).grow h2) (fun h => absurd h (by decide)))
            exact AllOps.nil
          intro V x4 hG hV hap
          have r0 : LV x4 (V 0) ([1]) 1 := hV 0 (by decide)
          clear hV hap
          simp only [List.take_succ_cons, List.take_zero, List.drop_succ_cons, List.drop_zero, putAll, Act.put, List.setIfInBounds_toArray, List.set_cons_zero, List.set_cons_succ]
          have hb := (show Below _ _ _ from hG)
          replace DR := Lib.hid (DR.out.below hb)
          replace Qp := Lib.hid (Qp.out.below hb)
          replace HB := Lib.hid (HB.out.trans (Below.mono hb HB.out.size))
          clear hb hG
          obtain ⟨Ad, cd, ed, qd⟩ := r0
          simp only [ed]
          rw [ed] at qd
          have Qd := Lib.hid qd
          clear ed qd
          go_upto_region 14 with fail
          refine wp_region_calm 4 [] ([fun vq _ => vq = .int .i64 k,
              fun vq _ => vq = .string S,
              fun vq _ => vq = .int .i64 k,
              fun vq _ => vq = .bool false]) (by kernel_rfl) (by decide) ?_ ?_ ?_
          · intro j hj; cases hj
          · refine po rfl (fun lq aq wq hk hr K hK => ?_) ?_
            · have B5 : ev aq (.tmp 5) = .int .i64 k := hk.base 5 (by kernel_rfl) rfl
              exact vc hK (by go_simp) (fun w2 h2 => rfl)
            refine po rfl (fun lq aq wq hk hr K hK => ?_) ?_
            · have B0 : ev aq (.tmp 0) = .string S := hk.base 0 (by kernel_rfl) rfl
              exact vc hK (by go_simp) (fun w2 h2 => rfl)
            refine po rfl (fun lq aq wq hk hr K hK => ?_) ?_
            · have E1 : ev aq (.tmp 46) = .string S := hk.dc hr 1 (by kernel_rfl) fun _ _ h => h
              exact vc hK (by go_simp) (fun w2 h2 => rfl)
            refine po rfl (fun lq aq wq hk hr K hK => ?_) ?_
            · have E0 : ev aq (.tmp 45) = .int .i64 k := hk.dc hr 0 (by kernel_rfl) fun _ _ h => h
              have E2 : ev aq (.tmp 47) = .int .i64 k := hk.dc hr 2 (by kernel_rfl) fun _ _ h => h
              exact vc hK (by first | (go_simp; done) | (go_simp; omega)) (fun w2 h2 => rfl)
            exact AllOps.nil
          intro V x5 hG hV hap
          have r3 : (V 3) = .bool false := hV 3 (by decide)
          clear hV hap
          simp only [List.take_succ_cons, List.take_nil, List.drop_succ_cons, List.drop_nil, putAll, Act.put, List.setIfInBounds_toArray, List.set_cons_zero, List.set_cons_succ]
          have hb := (show Below _ _ _ from hG)
          replace DR := Lib.hid (DR.out.below hb)
          replace Qp := Lib.hid (Qp.out.below hb)
          replace Qd := Lib.hid (Qd.out.below hb)
          replace HB := Lib.hid (HB.out.trans (Below.mono hb HB.out.size))
          clear hb hG
          rw [r3]
          clear r3
          go_upto_region 16 with fail
          have lwR := DR.out.lt
          refine wp_region_calm 8 [7] ([fun vq _ => vq = .int .i64 fr,
              fun vq _ => vq = .bool nb,
              fun vq _ => vq = .slice Ap (limbs n1).length cp,
              fun vq wq => WV wq vq z,
              fun vq _ => vq = .slice Ad 1 cd,
              fun vq wq => QV wq vq ((mkRat z (dn 1))),
              fun vq wq => RV wq vq ((mkRat z (dn 1))),
              fun vq wq => ∃ bq, vq = .pointer (some ⟨bq, 0, none⟩) ∧ BoxN wq bq 26 #[.bool false, .slice none 0 0, .slice none 0 0] ∧ (x5).heap.size ≤ bq]) (by kernel_rfl) (by decide) ?_ ?_ ?_
          · intro j hj v w h
            simp only [List.mem_cons, List.not_mem_nil, or_false] at hj
            subst hj
            all_goals (obtain ⟨b, rfl, hB, _⟩ := h; exact hB.lt)
          · refine po rfl (fun lq aq wq hk hr K hK => ?_) ?_
            · have B4 : ev aq (.tmp 4) = .int .i64 fr := hk.base 4 (by kernel_rfl) rfl
              exact vc hK (by go_simp) (fun w2 h2 => rfl)
            refine po rfl (fun lq aq wq hk hr K hK => ?_) ?_
            · have E0 : ev aq (.tmp 57) = .int .i64 fr := hk.dc hr 0 (by kernel_rfl) fun _ _ h => h
              exact vc hK (by go_simp) (fun w2 h2 => rfl)
            refine po rfl (fun lq aq wq hk hr K hK => ?_) ?_
            · have B7 : ev aq (.tmp 7) = .slice Ap (limbs n1).length cp := hk.base 7 (by kernel_rfl) rfl
              exact vc hK (by go_simp) (fun w2 h2 => rfl)
            refine po rfl (fun lq aq wq hk hr K hK => ?_) ?_
            · have E1 : ev aq (.tmp 58) = .bool nb := hk.dc hr 1 (by kernel_rfl) fun _ _ h => h
              have E2 : ev aq (.tmp 59) = .slice Ap (limbs n1).length cp := hk.dc hr 2 (by kernel_rfl) fun _ _ h => h
              exact vc hK (by go_simp) (fun w2 h2 => (wv_lit nb (Qp.out.below hk.ext) hkn hz).grow h2)
            refine po rfl (fun lq aq wq hk hr K hK => ?_) ?_
            · have B9 : ev aq (.tmp 9) = .slice Ad 1 cd := hk.base 9 (by kernel_rfl) rfl
              exact vc hK (by go_simp) (fun w2 h2 => rfl)
            refine po rfl (fun lq aq wq hk hr K hK => ?_) ?_
            · obtain ⟨v3, E3, r3⟩ := hk.dp hr 3 60 (by kernel_rfl)
              have r3 : WV wq v3 z := r3
              have E4 : ev aq (.tmp 61) = .slice Ad 1 cd := hk.dc hr 4 (by kernel_rfl) fun _ _ h => h
              obtain ⟨n3, A3, k3, c3, rfl, s3⟩ := r3
              have hsl : ∃ B j e, .slice Ad 1 cd = Value.slice B j e := ⟨_, _, _, rfl⟩
              have hnd := Qd.out.below hk.ext
              exact vc hK (op_rat 60 61 E3 E4 hsl) (fun w2 h2 => QV.grow ⟨_, _, _, _, _, _, _, rfl, _, _, _, s3, hnd, (by decide), rfl⟩ h2)
            refine po rfl (fun lq aq wq hk hr K hK => ?_) ?_
            · obtain ⟨v5, E5, r5⟩ := hk.dp hr 5 62 (by kernel_rfl)
              have r5 : QV wq v5 ((mkRat z (dn 1))) := r5
              exact yc hK (by go_simp) (rmadeQ_v wq r5) (fun u w1 hu w2 h2 => (hu).grow h2)
            refine po rfl (fun lq aq wq hk hr K hK => ?_) ?_
            · exact wp_of_value (by go_simp) (hK.out _ _ ((Grows.refl _).alloc _) (fun w2 h2 => ⟨_, rfl, (BoxN.new wq 26 _).below h2, hk.ext.size⟩) (fun _ => Nat.le_refl _))
            exact AllOps.nil
          intro V x6 hG hV hap
          have r6 : RV x6 (V 6) ((mkRat z (dn 1))) := hV 6 (by decide)
          have r7 : ∃ bq, (V 7) = .pointer (some ⟨bq, 0, none⟩) ∧ BoxN x6 bq 26 #[.bool false, .slice none 0 0, .slice none 0 0] ∧ (x5).heap.size ≤ bq := hV 7 (by decide)
          clear hV
          simp only [List.take_succ_cons, List.take_zero, List.drop_succ_cons, List.drop_zero, putAll, Act.put, List.setIfInBounds_toArray, List.set_cons_zero, List.set_cons_succ]
          have hb := (show Below _ _ _ from hG)
          obtain ⟨ba, ea, Da, ga⟩ := r7
          obtain ⟨na, Aa, ka, ca, Ba, ja, da, ea9, sa, ta, hda⟩ := r6
          simp only [ea, ea9]
          clear ea ea9 hap hG
          replace Da : Box3 _ ba 26 (.bool false) (.slice none 0 0) (.slice none 0 0) := Da
          refine wpList_of_skip rfl (op_store3 11 63 _ rfl rfl Da) ?_
          have hB := put3_below (x' := .bool na) (y' := .slice Aa ka ca) (z' := .slice Ba ja da) hb ga
          replace sa := sa.put3 Da (.bool na) (.slice Aa ka ca) (.slice Ba ja da)
          replace ta := ta.put3 Da (.bool na) (.slice Aa ka ca) (.slice Ba ja da)
          replace Da := put3_own (x' := .bool na) (y' := .slice Aa ka ca) (z' := .slice Ba ja da) Da
          clear hb
          generalize put3 x6 ba (.bool na) (.slice Aa ka ca) (.slice Ba ja da) = y7 at *
          replace DR := Lib.hid (DR.out.below hB)
          replace Qp := Lib.hid (Qp.out.below hB)
          replace Qd := Lib.hid (Qd.out.below hB)
          replace HB := Lib.hid (HB.out.trans (Below.mono hB HB.out.size))
          replace lwR := Nat.lt_of_lt_of_le lwR ga
          replace Da := Lib.hid Da
          have SNa := Lib.hid sa
          have SDa := Lib.hid ta
          clear hB ga sa ta
          go_upto_region 17 with fail
          rcases t1 with _ | _
          · skip
            obtain ⟨hq9, ht9⟩ := (show ReadsQ l 0 false from loose_no1 (hel.out ▸ hlz.out) (hel.out ▸ hno.out) (fun h => absurd h (by decide))).one hQ
            subst ht9
            replace hq9 := Lib.hid hq9
            refine wp_region_calm 12 [] ([fun vq _ => vq = .bool false,
                fun vq _ => vq = .bool true,
                fun vq _ => vq = .bool true,
                fun vq _ => vq = undef,
                fun vq _ => vq = undef,
                fun vq _ => vq = .bool true,
                fun vq _ => vq = .bool true,
                fun vq _ => vq = undef,
                fun vq _ => vq = undef,
                fun vq _ => vq = undef,
                fun vq _ => vq = undef,
                fun vq _ => vq = .bool true]) (by kernel_rfl) (by decide) ?_ ?_ ?_
            · intro j hj; cases hj
            · refine po rfl (fun lq aq wq hk hr K hK => ?_) ?_
              · have B8 : ev aq (.tmp 8) = .bool false := hk.base 8 (by kernel_rfl) rfl
                exact vc hK (by go_simp) (fun w2 h2 => rfl)
              refine po rfl (fun lq aq wq hk hr K hK => ?_) ?_
              · have E0 : ev aq (.tmp 64) = .bool false := hk.dc hr 0 (by kernel_rfl) fun _ _ h => h
                exact vc hK (by go_simp) (fun w2 h2 => rfl)
              refine po rfl (fun lq aq wq hk hr K hK => ?_) ?_
              · have E1 : ev aq (.tmp 65) = .bool true := hk.dc hr 1 (by kernel_rfl) fun _ _ h => h
                exact vc hK (by go_simp) (fun w2 h2 => rfl)
              refine pb 2 66 false true rfl (by kernel_rfl) (fun _ _ h => h) (by decide) (fun _ => rfl) rfl ?_
              refine pb 2 66 false true rfl (by kernel_rfl) (fun _ _ h => h) (by decide) (fun _ => rfl) rfl ?_
              refine po rfl (fun lq aq wq hk hr K hK => ?_) ?_
              · have E2 : ev aq (.tmp 66) = .bool true := hk.dc hr 2 (by kernel_rfl) fun _ _ h => h
                exact vc hK (by go_simp) (fun w2 h2 => rfl)
              refine po rfl (fun lq aq wq hk hr K hK => ?_) ?_
              · have E5 : ev aq (.tmp 69) = .bool true := hk.dc hr 5 (by kernel_rfl) fun _ _ h => h
                exact vc hK (by go_simp) (fun w2 h2 => rfl)
              refine pb 6 70 false true rfl (by kernel_rfl) (fun _ _ h => h) (by decide) (fun _ => rfl) rfl ?_
              refine pb 6 70 false true rfl (by kernel_rfl) (fun _ _ h => h) (by decide) (fun _ => rfl) rfl ?_
              refine pb 6 70 false true rfl (by kernel_rfl) (fun _ _ h => h) (by decide) (fun _ => rfl) rfl ?_
              refine pb 6 70 false true rfl (by kernel_rfl) (fun _ _ h => h) (by decide) (fun _ => rfl) rfl ?_
              refine po rfl (fun lq aq wq hk hr K hK => ?_) ?_
              · have E6 : ev aq (.tmp 70) = .bool true := hk.dc hr 6 (by kernel_rfl) fun _ _ h => h
                exact vc hK (by go_simp) (fun w2 h2 => rfl)
              exact AllOps.nil
            intro V x8 hG hV hap
            have r11 : (V 11) = .bool true := hV 11 (by decide)
            clear hV hap
            simp only [List.take_succ_cons, List.take_nil, List.drop_succ_cons, List.drop_nil, putAll, Act.put, List.setIfInBounds_toArray, List.set_cons_zero, List.set_cons_succ]
            have hb := (show Below _ _ _ from hG)
            replace DR := Lib.hid (DR.out.below hb)
            replace Da := Lib.hid (Da.out.below hb)
            replace SNa := Lib.hid (SNa.out.below hb)
            replace SDa := Lib.hid (SDa.out.below hb)
            replace Qp := Lib.hid (Qp.out.below hb)
            replace Qd := Lib.hid (Qd.out.below hb)
            replace HB := Lib.hid (HB.out.trans (Below.mono hb HB.out.size))
            clear hb hG
            rw [r11]
            clear r11
            go_upto_region 18 with fail
            refine wp_region_calm 1 [] ([fun vq wq => QV wq vq ((0 : Rat))]) (by kernel_rfl) (by decide) ?_ ?_ ?_
            · intro j hj; cases hj
            · refine po rfl (fun lq aq wq hk hr K hK => ?_) ?_
              · exact vc hK (by go_simp) (fun w2 h2 => (QV.zero _).grow h2)
              exact AllOps.nil
            intro V x9 hG hV hap
            have r0 : QV x9 (V 0) ((0 : Rat)) := hV 0 (by decide)
            clear hV hap
            simp only [List.take_succ_cons, List.take_zero, List.drop_succ_cons, List.drop_zero, putAll, Act.put, List.setIfInBounds_toArray, List.set_cons_zero, List.set_cons_succ]
            have hb := (show Below _ _ _ from hG)
            obtain ⟨nR, AR, kR, cR, BR, jR, dR, y9, eR, ey, hQ, HQ, c0, c1, c2⟩ := ret3q r0 (DR.out.below hb) (HB.out.trans (Below.mono hb HB.out.size)) (by omega)
            simp only [eR]
            refine wpList_of_skip rfl (op_store3 2 76 _ rfl rfl (DR.out.below hb)) ?_
            rw [ey]
            clear eR ey hb hG HB DR
            go_wp2_with fail
            refine bodyPost_ret (v := .tuple #[.agg #[.bool nR, .slice AR kR cR, .slice BR jR dR], .bool false]) (by simp [results, Tryz.results46, go_sem, c0, c1, c2]) rfl ⟨_, rfl, ⟨_, rfl, (by have h9 := (QV.to hQ hq9.out); first | exact h9 | exact ⟨h9, fun h => absurd h (by decide)⟩)⟩, HQ⟩
          · skip
            rcases Decidable.em (qtext (mkRat z (dn 1)) = l) with htq | htq
            · skip
              have hsa := Lib.hid (show ByteArray.mk (qtext (mkRat z (dn 1))).toArray = S by rw [htq, hS.out])
              obtain ⟨hq9, ht9⟩ := (reads_yes hkz (sz_le (by decide)) htq).one hQ
              subst ht9
              replace hq9 := Lib.hid hq9
              refine wp_region_calm 12 [] ([fun vq _ => vq = .bool true,
                  fun vq _ => vq = .bool false,
                  fun vq _ => vq = .bool false,
                  fun vq _ => vq = .bool true,
                  fun vq _ => vq = .bool false,
                  fun vq _ => vq = .bool false,
                  fun vq _ => vq = .bool false,
                  fun vq wq => RV wq vq ((mkRat z (dn 1))),
                  fun vq _ => vq = .string S,
                  fun vq _ => vq = .string S,
                  fun vq _ => vq = .bool false,
                  fun vq _ => vq = .bool false]) (by kernel_rfl) (by decide) ?_ ?_ ?_
              · intro j hj; cases hj
              · refine po rfl (fun lq aq wq hk hr K hK => ?_) ?_
                · have B8 : ev aq (.tmp 8) = .bool true := hk.base 8 (by kernel_rfl) rfl
                  exact vc hK (by go_simp) (fun w2 h2 => rfl)
                refine po rfl (fun lq aq wq hk hr K hK => ?_) ?_
                · have E0 : ev aq (.tmp 64) = .bool true := hk.dc hr 0 (by kernel_rfl) fun _ _ h => h
                  exact vc hK (by go_simp) (fun w2 h2 => rfl)
                refine po rfl (fun lq aq wq hk hr K hK => ?_) ?_
                · have E1 : ev aq (.tmp 65) = .bool false := hk.dc hr 1 (by kernel_rfl) fun _ _ h => h
                  exact vc hK (by go_simp) (fun w2 h2 => rfl)
                refine pl 2 66 false rfl (by kernel_rfl) (fun _ _ h => h) (fun lq aq wq hk hr K hK => ?_) ?_
                · have B10 : ev aq (.tmp 10) = .bool true := hk.base 10 (by kernel_rfl) rfl
                  exact vc hK (by go_simp) (fun w2 h2 => rfl)
                refine pl 2 66 false rfl (by kernel_rfl) (fun _ _ h => h) (fun lq aq wq hk hr K hK => ?_) ?_
                · have E3 : ev aq (.tmp 67) = .bool true := hk.dc hr 3 (by kernel_rfl) fun _ _ h => h
                  exact vc hK (by go_simp) (fun w2 h2 => rfl)
                refine po rfl (fun lq aq wq hk hr K hK => ?_) ?_
                · have E2 : ev aq (.tmp 66) = .bool false := hk.dc hr 2 (by kernel_rfl) fun _ _ h => h
                  have E4 : ev aq (.tmp 68) = .bool false := hk.dc hr 4 (by kernel_rfl) fun _ _ h => h
                  exact vc hK (by go_simp) (fun w2 h2 => rfl)
                refine po rfl (fun lq aq wq hk hr K hK => ?_) ?_
                · have E5 : ev aq (.tmp 69) = .bool false := hk.dc hr 5 (by kernel_rfl) fun _ _ h => h
                  exact vc hK (by go_simp) (fun w2 h2 => rfl)
                refine pl 6 70 false rfl (by kernel_rfl) (fun _ _ h => h) (fun lq aq wq hk hr K hK => ?_) ?_
                · have B11 : ev aq (.tmp 11) = .pointer (some ⟨ba, 0, none⟩) := hk.base 11 (by kernel_rfl) rfl
                  have hb : Below _ _ _ := hk.ext
                  exact vc hK (op_load3 11 _ B11 (Da.out.below hb)) (fun w2 h2 => RV.grow ⟨_, _, _, _, _, _, _, rfl, (SNa.out.below hb), (SDa.out.below hb), hda⟩ h2)
                refine pl 6 70 false rfl (by kernel_rfl) (fun _ _ h => h) (fun lq aq wq hk hr K hK => ?_) ?_
                · obtain ⟨v7, E7, r7⟩ := hk.dp hr 7 71 (by kernel_rfl)
                  have r7 : RV wq v7 ((mkRat z (dn 1))) := r7
                  exact yc hK (by go_simp) (rqtext_v wq (r7).qv hsa.out) (fun u w1 hu w2 h2 => hu)
                refine pl 6 70 false rfl (by kernel_rfl) (fun _ _ h => h) (fun lq aq wq hk hr K hK => ?_) ?_
                · have B0 : ev aq (.tmp 0) = .string S := hk.base 0 (by kernel_rfl) rfl
                  exact vc hK (by go_simp) (fun w2 h2 => rfl)
                refine pl 6 70 false rfl (by kernel_rfl) (fun _ _ h => h) (fun lq aq wq hk hr K hK => ?_) ?_
                · have E8 : ev aq (.tmp 72) = .string S := hk.dc hr 8 (by kernel_rfl) fun _ _ h => h
                  have E9 : ev aq (.tmp 73) = .string S := hk.dc hr 9 (by kernel_rfl) fun _ _ h => h
                  exact vc hK (by go_simp) (fun w2 h2 => rfl)
                refine po rfl (fun lq aq wq hk hr K hK => ?_) ?_
                · have E6 : ev aq (.tmp 70) = .bool false := hk.dc hr 6 (by kernel_rfl) fun _ _ h => h
                  have E10 : ev aq (.tmp 74) = .bool false := hk.dc hr 10 (by kernel_rfl) fun _ _ h => h
                  exact vc hK (by go_simp) (fun w2 h2 => rfl)
                exact AllOps.nil
              intro V x8 hG hV hap
              have r11 : (V 11) = .bool false := hV 11 (by decide)
              clear hV hap
              simp only [List.take_succ_cons, List.take_nil, List.drop_succ_cons, List.drop_nil, putAll, Act.put, List.setIfInBounds_toArray, List.set_cons_zero, List.set_cons_succ]
              have hb := (show Below _ _ _ from hG)
              replace DR := Lib.hid (DR.out.below hb)
              replace Da := Lib.hid (Da.out.below hb)
              replace SNa := Lib.hid (SNa.out.below hb)
              replace SDa := Lib.hid (SDa.out.below hb)
              replace Qp := Lib.hid (Qp.out.below hb)
              replace Qd := Lib.hid (Qd.out.below hb)
              replace HB := Lib.hid (HB.out.trans (Below.mono hb HB.out.size))
              clear hb hG
              rw [r11]
              clear r11
              go_upto_region 19 with fail
              refine wp_region_calm 1 [] ([fun vq wq => RV wq vq ((mkRat z (dn 1)))]) (by kernel_rfl) (by decide) ?_ ?_ ?_
              · intro j hj; cases hj
              · refine po rfl (fun lq aq wq hk hr K hK => ?_) ?_
                · have B11 : ev aq (.tmp 11) = .pointer (some ⟨ba, 0, none⟩) := hk.base 11 (by kernel_rfl) rfl
                  have hb : Below _ _ _ := hk.ext
                  exact vc hK (op_load3 11 _ B11 (Da.out.below hb)) (fun w2 h2 => RV.grow ⟨_, _, _, _, _, _, _, rfl, (SNa.out.below hb), (SDa.out.below hb), hda⟩ h2)
                exact AllOps.nil
              intro V x9 hG hV hap
              have r0 : RV x9 (V 0) ((mkRat z (dn 1))) := hV 0 (by decide)
              clear hV hap
              simp only [List.take_succ_cons, List.take_zero, List.drop_succ_cons, List.drop_zero, putAll, Act.put, List.setIfInBounds_toArray, List.set_cons_zero, List.set_cons_succ]
              have hb := (show Below _ _ _ from hG)
              obtain ⟨nR, AR, kR, cR, BR, jR, dR, y9, eR, ey, hQ, HQ, c0, c1, c2⟩ := ret3 r0 (DR.out.below hb) (HB.out.trans (Below.mono hb HB.out.size)) (by omega)
              simp only [eR]
              refine wpList_of_skip rfl (op_store3 2 77 _ rfl rfl (DR.out.below hb)) ?_
              rw [ey]
              clear eR ey hb hG HB DR
              go_wp2_with fail
              refine bodyPost_ret (v := .tuple #[.agg #[.bool nR, .slice AR kR cR, .slice BR jR dR], .bool true]) (by simp [results, Tryz.results46, go_sem, c0, c1, c2]) rfl ⟨_, rfl, ⟨_, rfl, (by have h9 := (RV.to hQ hq9.out); first | exact ⟨h9.qv, h9⟩ | exact ⟨h9.qv, fun _ => h9⟩)⟩, HQ⟩
            · skip
              obtain ⟨sa, hsa⟩ : ∃ sa, ByteArray.mk (qtext (mkRat z (dn 1))).toArray = sa := ⟨_, rfl⟩
              have hsne : ¬ sa.toList = S.toList := by
                intro e9
                refine htq ?_
                rw [← hS.out, ← hsa, ByteArray.toList_mk, ByteArray.toList_mk] at e9
                exact e9
              replace hsa := Lib.hid hsa
              obtain ⟨hq9, ht9⟩ := (show ReadsQ l 0 false from loose_no1 (hel.out ▸ hlz.out) (hel.out ▸ hno.out) (fun h => htq)).one hQ
              subst ht9
              replace hq9 := Lib.hid hq9
              refine wp_region_calm 12 [] ([fun vq _ => vq = .bool true,
                  fun vq _ => vq = .bool false,
                  fun vq _ => vq = .bool false,
                  fun vq _ => vq = .bool true,
                  fun vq _ => vq = .bool false,
                  fun vq _ => vq = .bool false,
                  fun vq _ => vq = .bool false,
                  fun vq wq => RV wq vq ((mkRat z (dn 1))),
                  fun vq _ => vq = .string sa,
                  fun vq _ => vq = .string S,
                  fun vq _ => vq = .bool true,
                  fun vq _ => vq = .bool true]) (by kernel_rfl) (by decide) ?_ ?_ ?_
              · intro j hj; cases hj
              · refine po rfl (fun lq aq wq hk hr K hK => ?_) ?_
                · have B8 : ev aq (.tmp 8) = .bool true := hk.base 8 (by kernel_rfl) rfl
                  exact vc hK (by go_simp) (fun w2 h2 => rfl)
                refine po rfl (fun lq aq wq hk hr K hK => ?_) ?_
                · have E0 : ev aq (.tmp 64) = .bool true := hk.dc hr 0 (by kernel_rfl) fun _ _ h => h
                  exact vc hK (by go_simp) (fun w2 h2 => rfl)
                refine po rfl (fun lq aq wq hk hr K hK => ?_) ?_
                · have E1 : ev aq (.tmp 65) = .bool false := hk.dc hr 1 (by kernel_rfl) fun _ _ h => h
                  exact vc hK (by go_simp) (fun w2 h2 => rfl)
                refine pl 2 66 false rfl (by kernel_rfl) (fun _ _ h => h) (fun lq aq wq hk hr K hK => ?_) ?_
                · have B10 : ev aq (.tmp 10) = .bool true := hk.base 10 (by kernel_rfl) rfl
                  exact vc hK (by go_simp) (fun w2 h2 => rfl)
                refine pl 2 66 false rfl (by kernel_rfl) (fun _ _ h => h) (fun lq aq wq hk hr K hK => ?_) ?_
                · have E3 : ev aq (.tmp 67) = .bool true := hk.dc hr 3 (by kernel_rfl) fun _ _ h => h
                  exact vc hK (by go_simp) (fun w2 h2 => rfl)
                refine po rfl (fun lq aq wq hk hr K hK => ?_) ?_
                · have E2 : ev aq (.tmp 66) = .bool false := hk.dc hr 2 (by kernel_rfl) fun _ _ h => h
                  have E4 : ev aq (.tmp 68) = .bool false := hk.dc hr 4 (by kernel_rfl) fun _ _ h => h
                  exact vc hK (by go_simp) (fun w2 h2 => rfl)
                refine po rfl (fun lq aq wq hk hr K hK => ?_) ?_
                · have E5 : ev aq (.tmp 69) = .bool false := hk.dc hr 5 (by kernel_rfl) fun _ _ h => h
                  exact vc hK (by go_simp) (fun w2 h2 => rfl)
                refine pl 6 70 false rfl (by kernel_rfl) (fun _ _ h => h) (fun lq aq wq hk hr K hK => ?_) ?_
                · have B11 : ev aq (.tmp 11) = .pointer (some ⟨ba, 0, none⟩) := hk.base 11 (by kernel_rfl) rfl
                  have hb : Below _ _ _ := hk.ext
                  exact vc hK (op_load3 11 _ B11 (Da.out.below hb)) (fun w2 h2 => RV.grow ⟨_, _, _, _, _, _, _, rfl, (SNa.out.below hb), (SDa.out.below hb), hda⟩ h2)
                refine pl 6 70 false rfl (by kernel_rfl) (fun _ _ h => h) (fun lq aq wq hk hr K hK => ?_) ?_
                · obtain ⟨v7, E7, r7⟩ := hk.dp hr 7 71 (by kernel_rfl)
                  have r7 : RV wq v7 ((mkRat z (dn 1))) := r7
                  exact yc hK (by go_simp) (rqtext_v wq (r7).qv hsa.out) (fun u w1 hu w2 h2 => hu)
                refine pl 6 70 false rfl (by kernel_rfl) (fun _ _ h => h) (fun lq aq wq hk hr K hK => ?_) ?_
                · have B0 : ev aq (.tmp 0) = .string S := hk.base 0 (by kernel_rfl) rfl
                  exact vc hK (by go_simp) (fun w2 h2 => rfl)
                refine pl 6 70 false rfl (by kernel_rfl) (fun _ _ h => h) (fun lq aq wq hk hr K hK => ?_) ?_
                · have E8 : ev aq (.tmp 72) = .string sa := hk.dc hr 8 (by kernel_rfl) fun _ _ h => h
                  have E9 : ev aq (.tmp 73) = .string S := hk.dc hr 9 (by kernel_rfl) fun _ _ h => h
                  exact vc hK (by first | (go_simp; done) | (go_simp; exact hsne)) (fun w2 h2 => rfl)
                refine po rfl (fun lq aq wq hk hr K hK => ?_) ?_
                · have E6 : ev aq (.tmp 70) = .bool false := hk.dc hr 6 (by kernel_rfl) fun _ _ h => h
                  have E10 : ev aq (.tmp 74) = .bool true := hk.dc hr 10 (by kernel_rfl) fun _ _ h => h
                  exact vc hK (by go_simp) (fun w2 h2 => rfl)
                exact AllOps.nil
              intro V x8 hG hV hap
              have r11 : (V 11) = .bool true := hV 11 (by decide)
              clear hV hap
              simp only [List.take_succ_cons, List.take_nil, List.drop_succ_cons, List.drop_nil, putAll, Act.put, List.setIfInBounds_toArray, List.set_cons_zero, List.set_cons_succ]
              have hb := (show Below _ _ _ from hG)
              replace DR := Lib.hid (DR.out.below hb)
              replace Da := Lib.hid (Da.out.below hb)
              replace SNa := Lib.hid (SNa.out.below hb)
              replace SDa := Lib.hid (SDa.out.below hb)
              replace Qp := Lib.hid (Qp.out.below hb)
              replace Qd := Lib.hid (Qd.out.below hb)
              replace HB := Lib.hid (HB.out.trans (Below.mono hb HB.out.size))
              clear hb hG
              rw [r11]
              clear r11
              go_upto_region 18 with fail
              refine wp_region_calm 1 [] ([fun vq wq => QV wq vq ((0 : Rat))]) (by kernel_rfl) (by decide) ?_ ?_ ?_
              · intro j hj; cases hj
              · refine po rfl (fun lq aq wq hk hr K hK => ?_) ?_
                · exact vc hK (by go_simp) (fun w2 h2 => (QV.zero _).grow h2)
                exact AllOps.nil
              intro V x9 hG hV hap
              have r0 : QV x9 (V 0) ((0 : Rat)) := hV 0 (by decide)
              clear hV hap
              simp only [List.take_succ_cons, List.take_zero, List.drop_succ_cons, List.drop_zero, putAll, Act.put, List.setIfInBounds_toArray, List.set_cons_zero, List.set_cons_succ]
              have hb := (show Below _ _ _ from hG)
              obtain ⟨nR, AR, kR, cR, BR, jR, dR, y9, eR, ey, hQ, HQ, c0, c1, c2⟩ := ret3q r0 (DR.out.below hb) (HB.out.trans (Below.mono hb HB.out.size)) (by omega)
              simp only [eR]
              refine wpList_of_skip rfl (op_store3 2 76 _ rfl rfl (DR.out.below hb)) ?_
              rw [ey]
              clear eR ey hb hG HB DR
              go_wp2_with fail
              refine bodyPost_ret (v := .tuple #[.agg #[.bool nR, .slice AR kR cR, .slice BR jR dR], .bool false]) (by simp [results, Tryz.results46, go_sem, c0, c1, c2]) rfl ⟨_, rfl, ⟨_, rfl, (by have h9 := (QV.to hQ hq9.out); first | exact h9 | exact ⟨h9, fun h => absurd h (by decide)⟩)⟩, HQ⟩
end Go.Proofs.YtbippecchpaleaaGreatDoor
