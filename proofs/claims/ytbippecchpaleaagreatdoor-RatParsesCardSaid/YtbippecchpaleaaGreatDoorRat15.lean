import Derived.Test.YtbippecchpaleaaGreatDoorGRat4
import Derived.Test.YtbippecchpaleaaGreatDoorGRat5
/- rat.Parse: what it returns. -/
namespace Go.Proofs.YtbippecchpaleaaGreatDoor
open Go.RowKit Go.Num Go.Kp
attribute [local go_sem] Oper.semAt_some u64_mask ev_const ev_func ev_global
/-- A package-level number of Go's library is there. -/
def HasLen (w : World) : Prop := ∃ m : Int, w.cell? ⟨Tryz.lays145_ren.g 1, 0, none⟩ = some (.int .i64 m)
theorem HasLen.below {w w' : World} (h : HasLen w) (hb : Grows w w') : HasLen w' := by
  obtain ⟨m, h⟩ := h
  exact ⟨m, (Below.cell hb (World.block_lt_of_cell? w _ h)).trans h⟩
theorem scut_v (w : World) {l hd tl : List UInt8} {more : Bool} {s h t : ByteArray} (hlen : HasLen w) (hs : l.length ≤ 900000) (hc : Lib.cut l [47] = (hd, tl, more)) (e : ByteArray.mk l.toArray = s) (eh : ByteArray.mk hd.toArray = h) (et : ByteArray.mk tl.toArray = t) :
    Calls Tryz.prog 86 #[.string s, .string ⟨#[47]⟩] w fun e w' => ∃ r, e = .returned r ∧ r = .tuple #[.string h, .string t, .bool more] ∧ Grows w w' := by
  obtain ⟨m, hm⟩ := hlen
  subst e; subst eh; subst et
  have h1 := Any.strings_Cut Tryz.lays145 ⟨l.toArray⟩ ⟨#[47]⟩ m w (by show l.toArray.size < _; simp; omega) hm
  rw [show (ByteArray.mk l.toArray).data.toList = l by simp, show (ByteArray.mk #[47]).data.toList = [47] from rfl, hc] at h1
  refine h1.mono ?_
  rintro e w1 ⟨rfl, n, rfl⟩
  exact ⟨_, rfl, rfl, ⟨rfl, rfl, rfl, Nat.le_refl _, fun _ _ => rfl⟩⟩
set_option maxHeartbeats 16000000 in
set_option maxRecDepth 100000 in
theorem qparse_v (w : World) {l : List UInt8} {s : ByteArray} {q : Rat} {t : Bool} (hlen : HasLen w) (hQ : ReadsQ l q t) (hl : l.length ≤ 200) (eS0 : ByteArray.mk l.toArray = s) : Calls Tryz.prog 42 #[.string s] w fun e w' => ∃ y, e = .returned y ∧ (∃ x, y = .tuple #[x, .bool t] ∧ RV w' x q) ∧ Grows w w' := by
  go_enter Tryz.func42, Tryz.ntmps42
  go_upto_region 1 with fail
  obtain ⟨x0, ex0, HB, DR⟩ := st_3 w 26 (.bool false) (.slice none 0 0) (.slice none 0 0)
  rw [ex0]
  clear ex0
  replace HB := Lib.hid HB
  replace DR := Lib.hid DR
  have hlen9 := Lib.hid hlen
  have eS := Lib.hid eS0
  have hl9 : l.length ≤ 900000 := by omega
  have hl1 : (limbs 1).length ≤ 1000 := by rw [limbs_pos (by decide)]; simp [limbs_zero]
  clear hlen eS0
  rcases slash_or l with hno | ⟨hd, tl, hno, hel⟩
  · skip
    obtain ⟨z, t1, hz9⟩ := readsZ_any (l := l) hl
    have hkz := hz9.sz
    have hhl9 : (l).length ≤ 900000 := hl9
    obtain ⟨sh, esh⟩ : ∃ sh, ByteArray.mk (l).toArray = sh := ⟨_, rfl⟩
    obtain ⟨st, est⟩ : ∃ st, ByteArray.mk ([] : List UInt8).toArray = st := ⟨_, rfl⟩
    have hes : Hid (ByteArray.mk (l).toArray = sh) ∧ Hid (ByteArray.mk ([] : List UInt8).toArray = st) := ⟨Lib.hid esh, Lib.hid est⟩
    clear esh est
    replace hz9 := Lib.hid hz9
    refine wp_region_calm 6 [] ([fun vq _ => vq = .string s,
        fun vq wq => vq = .tuple #[.string sh, .string st, .bool false],
        fun vq wq => vq = .tuple #[.string sh, .string st, .bool false],
        fun vq _ => vq = .string sh,
        fun vq _ => vq = .string st,
        fun vq _ => vq = .bool false]) (by kernel_rfl) (by decide) ?_ ?_ ?_
    · intro j hj; cases hj
    · refine po rfl (fun lq aq wq hk hr K hK => ?_) ?_
      · have B0 : ev aq (.tmp 0) = .string s := hk.base 0 (by kernel_rfl) rfl
        exact vc hK (by go_simp) (fun w2 h2 => rfl)
      refine po rfl (fun lq aq wq hk hr K hK => ?_) ?_
      · have E0 : ev aq (.tmp 13) = .string s := hk.dc hr 0 (by kernel_rfl) fun _ _ h => h
        exact yc hK (by go_simp) (scut_v wq (hlen9.out.below (HB.out.trans (Below.mono hk.ext HB.out.size))) hl9 (cut_no hno) eS.out hes.1.out hes.2.out) (fun u w1 hu w2 h2 => hu)
      refine po rfl (fun lq aq wq hk hr K hK => ?_) ?_
      · obtain ⟨v1, E1, r1⟩ := hk.dp hr 1 14 (by kernel_rfl)
        have r1 : v1 = .tuple #[.string sh, .string st, .bool false] := r1
        exact vc hK (by go_simp) (fun w2 h2 => r1)
      refine po rfl (fun lq aq wq hk hr K hK => ?_) ?_
      · obtain ⟨v2, E2, r2⟩ := hk.dp hr 2 12 (by kernel_rfl)
        have r2 : v2 = .tuple #[.string sh, .string st, .bool false] := r2
        obtain ⟨rfl⟩ := r2
        exact vc hK (by go_simp) (fun w2 h2 => rfl)
      refine po rfl (fun lq aq wq hk hr K hK => ?_) ?_
      · obtain ⟨v2, E2, r2⟩ := hk.dp hr 2 12 (by kernel_rfl)
        have r2 : v2 = .tuple #[.string sh, .string st, .bool false] := r2
        obtain ⟨rfl⟩ := r2
        exact vc hK (by go_simp) (fun w2 h2 => rfl)
      refine po rfl (fun lq aq wq hk hr K hK => ?_) ?_
      · obtain ⟨v2, E2, r2⟩ := hk.dp hr 2 12 (by kernel_rfl)
        have r2 : v2 = .tuple #[.string sh, .string st, .bool false] := r2
        obtain ⟨rfl⟩ := r2
        exact vc hK (by go_simp) (fun w2 h2 => rfl)
      exact AllOps.nil
    intro V x1 hG hV hap
    have r3 : (V 3) = .string sh := hV 3 (by decide)
    have r4 : (V 4) = .string st := hV 4 (by decide)
    have r5 : (V 5) = .bool false := hV 5 (by decide)
    clear hV hap
    simp only [List.take_succ_cons, List.take_zero, List.drop_succ_cons, List.drop_zero, putAll, Act.put, List.setIfInBounds_toArray, List.set_cons_zero, List.set_cons_succ]
    have hb := (show Below _ _ _ from hG)
    replace DR := Lib.hid (DR.out.below hb)
    replace HB := Lib.hid (HB.out.trans (Below.mono hb HB.out.size))
    clear hb hG
    rw [r3, r4, r5]
    clear r3 r4 r5
    go_upto_region 2 with fail
    have lwR := DR.out.lt
    refine wp_region_calm 6 [5] ([fun vq _ => vq = .string sh,
        fun vq wq => ∃ u0, vq = .tuple #[u0, .bool t1] ∧ ZV wq u0 z,
        fun vq wq => ∃ u0, vq = .tuple #[u0, .bool t1] ∧ ZV wq u0 z,
        fun vq wq => ZV wq vq z,
        fun vq _ => vq = .bool t1,
        fun vq wq => ∃ bq, vq = .pointer (some ⟨bq, 0, none⟩) ∧ Box2 wq bq 24 (.bool false) (.slice none 0 0) ∧ (x1).heap.size ≤ bq]) (by kernel_rfl) (by decide) ?_ ?_ ?_
    · intro j hj v w h
      simp only [List.mem_cons, List.not_mem_nil, or_false] at hj
      subst hj
      all_goals (obtain ⟨b, rfl, hB, _⟩ := h; exact hB.lt)
    · refine po rfl (fun lq aq wq hk hr K hK => ?_) ?_
      · have B4 : ev aq (.tmp 4) = .string sh := hk.base 4 (by kernel_rfl) rfl
        exact vc hK (by go_simp) (fun w2 h2 => rfl)
      refine po rfl (fun lq aq wq hk hr K hK => ?_) ?_
      · have E0 : ev aq (.tmp 19) = .string sh := hk.dc hr 0 (by kernel_rfl) fun _ _ h => h
        exact yc hK (by go_simp) (bparse_any_v wq hz9.out hhl9 hes.1.out) (fun u w1 hu w2 h2 => (let ⟨u0, e0, h0⟩ := hu; ⟨u0, e0, (h0).grow h2⟩))
      refine po rfl (fun lq aq wq hk hr K hK => ?_) ?_
      · obtain ⟨v1, E1, r1⟩ := hk.dp hr 1 20 (by kernel_rfl)
        have r1 : ∃ u0, v1 = .tuple #[u0, .bool t1] ∧ ZV wq u0 z := r1
        exact vc hK (by go_simp) (fun w2 h2 => (let ⟨u0, e0, h0⟩ := r1; ⟨u0, e0, (h0).grow h2⟩))
      refine po rfl (fun lq aq wq hk hr K hK => ?_) ?_
      · obtain ⟨v2, E2, r2⟩ := hk.dp hr 2 18 (by kernel_rfl)
        have r2 : ∃ u0, v2 = .tuple #[u0, .bool t1] ∧ ZV wq u0 z := r2
        obtain ⟨u0, rfl, h0⟩ := r2
        exact vc hK (by go_simp) (fun w2 h2 => (h0).grow h2)
      refine po rfl (fun lq aq wq hk hr K hK => ?_) ?_
      · obtain ⟨v2, E2, r2⟩ := hk.dp hr 2 18 (by kernel_rfl)
        have r2 : ∃ u0, v2 = .tuple #[u0, .bool t1] ∧ ZV wq u0 z := r2
        obtain ⟨u0, rfl, h0⟩ := r2
        exact vc hK (by go_simp) (fun w2 h2 => rfl)
      refine po rfl (fun lq aq wq hk hr K hK => ?_) ?_
      · exact wp_of_value (by go_simp) (hK.out _ _ ((Grows.refl _).alloc _) (fun w2 h2 => ⟨_, rfl, (Box2.new wq 24 _ _).below h2, hk.ext.size⟩) (fun _ => Nat.le_refl _))
      exact AllOps.nil
    intro V x2 hG hV hap
    have r3 : ZV x2 (V 3) z := hV 3 (by decide)
    have r4 : (V 4) = .bool t1 := hV 4 (by decide)
    have r5 : ∃ bq, (V 5) = .pointer (some ⟨bq, 0, none⟩) ∧ Box2 x2 bq 24 (.bool false) (.slice none 0 0) ∧ (x1).heap.size ≤ bq := hV 5 (by decide)
    clear hV
    simp only [List.take_succ_cons, List.take_zero, List.drop_succ_cons, List.drop_zero, putAll, Act.put, List.setIfInBounds_toArray, List.set_cons_zero, List.set_cons_succ]
    have hb := (show Below _ _ _ from hG)
    obtain ⟨bn, en, Dn, gn⟩ := r5
    obtain ⟨nn, An, kn, cn, en9, sn⟩ := r3
    simp only [en, en9, r4]
    clear en en9 hap hG r4
    refine wpList_of_skip rfl (op_store 7 21 _ rfl rfl Dn) ?_
    have hB := put2_below (u := .bool nn) (v := .slice An kn cn) hb gn
    replace sn := sn.put Dn (.bool nn) (.slice An kn cn)
    replace Dn := put2_own (u := .bool nn) (v := .slice An kn cn) Dn
    clear hb
    generalize put2 x2 bn (.bool nn) (.slice An kn cn) = y3 at *
    replace DR := Lib.hid (DR.out.below hB)
    replace HB := Lib.hid (HB.out.trans (Below.mono hB HB.out.size))
    replace lwR := Nat.lt_of_lt_of_le lwR gn
    replace Dn := Lib.hid Dn
    have SNn := Lib.hid sn
    clear hB gn sn
    go_upto_region 3 with fail
    refine wp_region_calm 1 [] ([fun vq wq => LV wq vq ((limbs 1)) 1]) (by kernel_rfl) (by decide) ?_ ?_ ?_
    · intro j hj; cases hj
    · refine po rfl (fun lq aq wq hk hr K hK => ?_) ?_
      · exact yc hK (by go_simp) (one_v wq) (fun u w1 hu w2 h2 => (hu).grow h2)
      exact AllOps.nil
    intro V x4 hG hV hap
    have r0 : LV x4 (V 0) ((limbs 1)) 1 := hV 0 (by decide)
    clear hV hap
    simp only [List.take_succ_cons, List.take_zero, List.drop_succ_cons, List.drop_zero, putAll, Act.put, List.setIfInBounds_toArray, List.set_cons_zero, List.set_cons_succ]
    have hb := (show Below _ _ _ from hG)
    replace DR := Lib.hid (DR.out.below hb)
    replace Dn := Lib.hid (Dn.out.below hb)
    replace SNn := Lib.hid (SNn.out.below hb)
    replace HB := Lib.hid (HB.out.trans (Below.mono hb HB.out.size))
    clear hb hG
    obtain ⟨Ad, cd, ed, qd⟩ := r0
    simp only [ed]
    rw [ed] at qd
    have Qd := Lib.hid qd
    clear ed qd
    go_upto_region 4 with fail
    refine wp_region_calm 1 [] ([fun vq _ => vq = .bool false]) (by kernel_rfl) (by decide) ?_ ?_ ?_
    · intro j hj; cases hj
    · refine po rfl (fun lq aq wq hk hr K hK => ?_) ?_
      · have B6 : ev aq (.tmp 6) = .bool false := hk.base 6 (by kernel_rfl) rfl
        exact vc hK (by go_simp) (fun w2 h2 => rfl)
      exact AllOps.nil
    intro V x5 hG hV hap
    have r0 : (V 0) = .bool false := hV 0 (by decide)
    clear hV hap
    simp only [List.take_succ_cons, List.take_nil, List.drop_succ_cons, List.drop_nil, putAll, Act.put, List.setIfInBounds_toArray, List.set_cons_zero, List.set_cons_succ]
    have hb := (show Below _ _ _ from hG)
    replace DR := Lib.hid (DR.out.below hb)
    replace Dn := Lib.hid (Dn.out.below hb)
    replace SNn := Lib.hid (SNn.out.below hb)
    replace Qd := Lib.hid (Qd.out.below hb)
    replace HB := Lib.hid (HB.out.trans (Below.mono hb HB.out.size))
    clear hb hG
    rw [r0]
    clear r0
    go_upto_region 6 with fail
    have lwR := DR.out.lt
    have lwn := Dn.out.lt
    refine wp_region_calm 5 [4] ([fun vq wq => ZV wq vq z,
        fun vq _ => vq = .slice Ad (limbs 1).length cd,
        fun vq wq => QV wq vq ((mkRat z (dn 1))),
        fun vq wq => RV wq vq ((mkRat z (dn 1))),
        fun vq wq => ∃ bq, vq = .pointer (some ⟨bq, 0, none⟩) ∧ BoxN wq bq 26 #[.bool false, .slice none 0 0, .slice none 0 0] ∧ (x5).heap.size ≤ bq]) (by kernel_rfl) (by decide) ?_ ?_ ?_
    · intro j hj v w h
      simp only [List.mem_cons, List.not_mem_nil, or_false] at hj
      subst hj
      all_goals (obtain ⟨b, rfl, hB, _⟩ := h; exact hB.lt)
    · refine po rfl (fun lq aq wq hk hr K hK => ?_) ?_
      · have B7 : ev aq (.tmp 7) = .pointer (some ⟨bn, 0, none⟩) := hk.base 7 (by kernel_rfl) rfl
        have hb : Below _ _ _ := hk.ext
        exact vc hK (op_load 7 _ B7 (Dn.out.below hb)) (fun w2 h2 => ⟨_, _, _, _, rfl, (SNn.out.below hb).below h2⟩)
      refine po rfl (fun lq aq wq hk hr K hK => ?_) ?_
      · have B9 : ev aq (.tmp 9) = .slice Ad (limbs 1).length cd := hk.base 9 (by kernel_rfl) rfl
        exact vc hK (by go_simp) (fun w2 h2 => rfl)
      refine po rfl (fun lq aq wq hk hr K hK => ?_) ?_
      · obtain ⟨v0, E0, r0⟩ := hk.dp hr 0 30 (by kernel_rfl)
        have r0 : ZV wq v0 z := r0
        have E1 : ev aq (.tmp 31) = .slice Ad (limbs 1).length cd := hk.dc hr 1 (by kernel_rfl) fun _ _ h => h
        obtain ⟨n0, A0, k0, c0, rfl, s0⟩ := (r0).wv
        have hsl : ∃ B j e, .slice Ad (limbs 1).length cd = Value.slice B j e := ⟨_, _, _, rfl⟩
        have hnd := Qd.out.below hk.ext
        exact vc hK (op_rat 30 31 E0 E1 hsl) (fun w2 h2 => QV.grow ⟨_, _, _, _, _, _, _, rfl, _, _, _, s0, hnd, hl1, rfl⟩ h2)
      refine po rfl (fun lq aq wq hk hr K hK => ?_) ?_
      · obtain ⟨v2, E2, r2⟩ := hk.dp hr 2 32 (by kernel_rfl)
        have r2 : QV wq v2 ((mkRat z (dn 1))) := r2
        exact yc hK (by go_simp) (made_v wq r2) (fun u w1 hu w2 h2 => (hu).grow h2)
      refine po rfl (fun lq aq wq hk hr K hK => ?_) ?_
      · exact wp_of_value (by go_simp) (hK.out _ _ ((Grows.refl _).alloc _) (fun w2 h2 => ⟨_, rfl, (BoxN.new wq 26 _).below h2, hk.ext.size⟩) (fun _ => Nat.le_refl _))
      exact AllOps.nil
    intro V x6 hG hV hap
    have r3 : RV x6 (V 3) ((mkRat z (dn 1))) := hV 3 (by decide)
    have r4 : ∃ bq, (V 4) = .pointer (some ⟨bq, 0, none⟩) ∧ BoxN x6 bq 26 #[.bool false, .slice none 0 0, .slice none 0 0] ∧ (x5).heap.size ≤ bq := hV 4 (by decide)
    clear hV
    simp only [List.take_succ_cons, List.take_zero, List.drop_succ_cons, List.drop_zero, putAll, Act.put, List.setIfInBounds_toArray, List.set_cons_zero, List.set_cons_succ]
    have hb := (show Below _ _ _ from hG)
    obtain ⟨ba, ea, Da, ga⟩ := r4
    obtain ⟨na, Aa, ka, ca, Ba, ja, da, ea9, sa, ta, hda⟩ := r3
    simp only [ea, ea9]
    clear ea ea9 hap hG
    replace Da : Box3 _ ba 26 (.bool false) (.slice none 0 0) (.slice none 0 0) := Da
    refine wpList_of_skip rfl (op_store3 11 33 _ rfl rfl Da) ?_
    have hB := put3_below (x' := .bool na) (y' := .slice Aa ka ca) (z' := .slice Ba ja da) hb ga
    replace sa := sa.put3 Da (.bool na) (.slice Aa ka ca) (.slice Ba ja da)
    replace ta := ta.put3 Da (.bool na) (.slice Aa ka ca) (.slice Ba ja da)
    replace Da := put3_own (x' := .bool na) (y' := .slice Aa ka ca) (z' := .slice Ba ja da) Da
    clear hb
    generalize put3 x6 ba (.bool na) (.slice Aa ka ca) (.slice Ba ja da) = y7 at *
    replace DR := Lib.hid (DR.out.below hB)
    replace Dn := Lib.hid (Dn.out.below hB)
    replace SNn := Lib.hid (SNn.out.below hB)
    replace Qd := Lib.hid (Qd.out.below hB)
    replace HB := Lib.hid (HB.out.trans (Below.mono hB HB.out.size))
    replace lwR := Nat.lt_of_lt_of_le lwR ga
    replace lwn := Nat.lt_of_lt_of_le lwn ga
    replace Da := Lib.hid Da
    have SNa := Lib.hid sa
    have SDa := Lib.hid ta
    clear hB ga sa ta
    go_upto_region 7 with fail
    rcases t1 with _ | _
    · skip
      obtain ⟨hq9, ht9⟩ := (show ReadsQ l 0 false from reads_no1 hz9.out hno (fun h => absurd h (by decide))).one hQ
      subst ht9
      replace hq9 := Lib.hid hq9
      refine wp_region_calm 12 [] ([fun vq _ => vq = .bool false,
          fun vq _ => vq = .bool true,
          fun vq _ => vq = .bool true,
          fun vq _ => vq = undef,
          fun vq _ => vq = undef,
          fun vq _ => vq = .bool true,
          fun vq _ => vq = .bool true,
          fun vq _ => vq = undef,
          fun vq _ => vq = undef,
          fun vq _ => vq = undef,
          fun vq _ => vq = undef,
          fun vq _ => vq = .bool true]) (by kernel_rfl) (by decide) ?_ ?_ ?_
      · intro j hj; cases hj
      · refine po rfl (fun lq aq wq hk hr K hK => ?_) ?_
        · have B8 : ev aq (.tmp 8) = .bool false := hk.base 8 (by kernel_rfl) rfl
          exact vc hK (by go_simp) (fun w2 h2 => rfl)
        refine po rfl (fun lq aq wq hk hr K hK => ?_) ?_
        · have E0 : ev aq (.tmp 34) = .bool false := hk.dc hr 0 (by kernel_rfl) fun _ _ h => h
          exact vc hK (by go_simp) (fun w2 h2 => rfl)
        refine po rfl (fun lq aq wq hk hr K hK => ?_) ?_
        · have E1 : ev aq (.tmp 35) = .bool true := hk.dc hr 1 (by kernel_rfl) fun _ _ h => h
          exact vc hK (by go_simp) (fun w2 h2 => rfl)
        refine pb 2 36 false true rfl (by kernel_rfl) (fun _ _ h => h) (by decide) (fun _ => rfl) rfl ?_
        refine pb 2 36 false true rfl (by kernel_rfl) (fun _ _ h => h) (by decide) (fun _ => rfl) rfl ?_
        refine po rfl (fun lq aq wq hk hr K hK => ?_) ?_
        · have E2 : ev aq (.tmp 36) = .bool true := hk.dc hr 2 (by kernel_rfl) fun _ _ h => h
          exact vc hK (by go_simp) (fun w2 h2 => rfl)
        refine po rfl (fun lq aq wq hk hr K hK => ?_) ?_
        · have E5 : ev aq (.tmp 39) = .bool true := hk.dc hr 5 (by kernel_rfl) fun _ _ h => h
          exact vc hK (by go_simp) (fun w2 h2 => rfl)
        refine pb 6 40 false true rfl (by kernel_rfl) (fun _ _ h => h) (by decide) (fun _ => rfl) rfl ?_
        refine pb 6 40 false true rfl (by kernel_rfl) (fun _ _ h => h) (by decide) (fun _ => rfl) rfl ?_
        refine pb 6 40 false true rfl (by kernel_rfl) (fun _ _ h => h) (by decide) (fun _ => rfl) rfl ?_
        refine pb 6 40 false true rfl (by kernel_rfl) (fun _ _ h => h) (by decide) (fun _ => rfl) rfl ?_
        refine po rfl (fun lq aq wq hk hr K hK => ?_) ?_
        · have E6 : ev aq (.tmp 40) = .bool true := hk.dc hr 6 (by kernel_rfl) fun _ _ h => h
          exact vc hK (by go_simp) (fun w2 h2 => rfl)
        exact AllOps.nil
      intro V x8 hG hV hap
      have r11 : (V 11) = .bool true := hV 11 (by decide)
      clear hV hap
      simp only [List.take_succ_cons, List.take_nil, List.drop_succ_cons, List.drop_nil, putAll, Act.put, List.setIfInBounds_toArray, List.set_cons_zero, List.set_cons_succ]
      have hb := (show Below _ _ _ from hG)
      replace DR := Lib.hid (DR.out.below hb)
      replace Dn := Lib.hid (Dn.out.below hb)
      replace SNn := Lib.hid (SNn.out.below hb)
      replace Da := Lib.hid (Da.out.below hb)
      replace SNa := Lib.hid (SNa.out.below hb)
      replace SDa := Lib.hid (SDa.out.below hb)
      replace Qd := Lib.hid (Qd.out.below hb)
      replace HB := Lib.hid (HB.out.trans (Below.mono hb HB.out.size))
      clear hb hG
      rw [r11]
      clear r11
      go_upto_region 8 with fail
      refine wp_region_calm 2 [] ([fun vq wq => QV wq vq ((0 : Rat)),
          fun vq wq => RV wq vq ((0 : Rat))]) (by kernel_rfl) (by decide) ?_ ?_ ?_
      · intro j hj; cases hj
      · refine po rfl (fun lq aq wq hk hr K hK => ?_) ?_
        · exact vc hK (by go_simp) (fun w2 h2 => (QV.zero _).grow h2)
        refine po rfl (fun lq aq wq hk hr K hK => ?_) ?_
        · obtain ⟨v0, E0, r0⟩ := hk.dp hr 0 46 (by kernel_rfl)
          have r0 : QV wq v0 ((0 : Rat)) := r0
          exact yc hK (by go_simp) (made_v wq r0) (fun u w1 hu w2 h2 => (hu).grow h2)
        exact AllOps.nil
      intro V x9 hG hV hap
      have r1 : RV x9 (V 1) ((0 : Rat)) := hV 1 (by decide)
      clear hV hap
      simp only [List.take_succ_cons, List.take_zero, List.drop_succ_cons, List.drop_zero, putAll, Act.put, List.setIfInBounds_toArray, List.set_cons_zero, List.set_cons_succ]
      have hb := (show Below _ _ _ from hG)
      obtain ⟨nR, AR, kR, cR, BR, jR, dR, y9, eR, ey, hQ, HQ, c0, c1, c2⟩ := ret3 r1 (DR.out.below hb) (HB.out.trans (Below.mono hb HB.out.size)) (by omega)
      simp only [eR]
      refine wpList_of_skip rfl (op_store3 2 47 _ rfl rfl (DR.out.below hb)) ?_
      rw [ey]
      clear eR ey hb hG HB DR
      go_wp2_with fail
      refine bodyPost_ret (v := .tuple #[.agg #[.bool nR, .slice AR kR cR, .slice BR jR dR], .bool false]) (by simp [results, Tryz.results42, go_sem, c0, c1, c2]) rfl ⟨_, rfl, ⟨_, rfl, (RV.to hQ hq9.out)⟩, HQ⟩
    · skip
      rcases Decidable.em (qtext (mkRat z (dn 1)) = l) with htq | htq
      · skip
        have hsa := Lib.hid (show ByteArray.mk (qtext (mkRat z (dn 1))).toArray = s by rw [htq, eS.out])
        obtain ⟨hq9, ht9⟩ := (reads_yes hkz (sz_le (by decide)) htq).one hQ
        subst ht9
        replace hq9 := Lib.hid hq9
        refine wp_region_calm 12 [] ([fun vq _ => vq = .bool true,
            fun vq _ => vq = .bool false,
            fun vq _ => vq = .bool false,
            fun vq _ => vq = .bool true,
            fun vq _ => vq = .bool false,
            fun vq _ => vq = .bool false,
            fun vq _ => vq = .bool false,
            fun vq wq => RV wq vq ((mkRat z (dn 1))),
            fun vq _ => vq = .string s,
            fun vq _ => vq = .string s,
            fun vq _ => vq = .bool false,
            fun vq _ => vq = .bool false]) (by kernel_rfl) (by decide) ?_ ?_ ?_
        · intro j hj; cases hj
        · refine po rfl (fun lq aq wq hk hr K hK => ?_) ?_
          · have B8 : ev aq (.tmp 8) = .bool true := hk.base 8 (by kernel_rfl) rfl
            exact vc hK (by go_simp) (fun w2 h2 => rfl)
          refine po rfl (fun lq aq wq hk hr K hK => ?_) ?_
          · have E0 : ev aq (.tmp 34) = .bool true := hk.dc hr 0 (by kernel_rfl) fun _ _ h => h
            exact vc hK (by go_simp) (fun w2 h2 => rfl)
          refine po rfl (fun lq aq wq hk hr K hK => ?_) ?_
          · have E1 : ev aq (.tmp 35) = .bool false := hk.dc hr 1 (by kernel_rfl) fun _ _ h => h
            exact vc hK (by go_simp) (fun w2 h2 => rfl)
          refine pl 2 36 false rfl (by kernel_rfl) (fun _ _ h => h) (fun lq aq wq hk hr K hK => ?_) ?_
          · have B10 : ev aq (.tmp 10) = .bool true := hk.base 10 (by kernel_rfl) rfl
            exact vc hK (by go_simp) (fun w2 h2 => rfl)
          refine pl 2 36 false rfl (by kernel_rfl) (fun _ _ h => h) (fun lq aq wq hk hr K hK => ?_) ?_
          · have E3 : ev aq (.tmp 37) = .bool true := hk.dc hr 3 (by kernel_rfl) fun _ _ h => h
            exact vc hK (by go_simp) (fun w2 h2 => rfl)
          refine po rfl (fun lq aq wq hk hr K hK => ?_) ?_
          · have E2 : ev aq (.tmp 36) = .bool false := hk.dc hr 2 (by kernel_rfl) fun _ _ h => h
            have E4 : ev aq (.tmp 38) = .bool false := hk.dc hr 4 (by kernel_rfl) fun _ _ h => h
            exact vc hK (by go_simp) (fun w2 h2 => rfl)
          refine po rfl (fun lq aq wq hk hr K hK => ?_) ?_
          · have E5 : ev aq (.tmp 39) = .bool false := hk.dc hr 5 (by kernel_rfl) fun _ _ h => h
            exact vc hK (by go_simp) (fun w2 h2 => rfl)
          refine pl 6 40 false rfl (by kernel_rfl) (fun _ _ h => h) (fun lq aq wq hk hr K hK => ?_) ?_
          · have B11 : ev aq (.tmp 11) = .pointer (some ⟨ba, 0, none⟩) := hk.base 11 (by kernel_rfl) rfl
            have hb : Below _ _ _ := hk.ext
            exact vc hK (op_load3 11 _ B11 (Da.out.below hb)) (fun w2 h2 => RV.grow ⟨_, _, _, _, _, _, _, rfl, (SNa.out.below hb), (SDa.out.below hb), hda⟩ h2)
          refine pl 6 40 false rfl (by kernel_rfl) (fun _ _ h => h) (fun lq aq wq hk hr K hK => ?_) ?_
          · obtain ⟨v7, E7, r7⟩ := hk.dp hr 7 41 (by kernel_rfl)
            have r7 : RV wq v7 ((mkRat z (dn 1))) := r7
            exact yc hK (by go_simp) (qtext_v wq (r7).qv hsa.out) (fun u w1 hu w2 h2 => hu)
          refine pl 6 40 false rfl (by kernel_rfl) (fun _ _ h => h) (fun lq aq wq hk hr K hK => ?_) ?_
          · have B0 : ev aq (.tmp 0) = .string s := hk.base 0 (by kernel_rfl) rfl
            exact vc hK (by go_simp) (fun w2 h2 => rfl)
          refine pl 6 40 false rfl (by kernel_rfl) (fun _ _ h => h) (fun lq aq wq hk hr K hK => ?_) ?_
          · have E8 : ev aq (.tmp 42) = .string s := hk.dc hr 8 (by kernel_rfl) fun _ _ h => h
            have E9 : ev aq (.tmp 43) = .string s := hk.dc hr 9 (by kernel_rfl) fun _ _ h => h
            exact vc hK (by go_simp) (fun w2 h2 => rfl)
          refine po rfl (fun lq aq wq hk hr K hK => ?_) ?_
          · have E6 : ev aq (.tmp 40) = .bool false := hk.dc hr 6 (by kernel_rfl) fun _ _ h => h
            have E10 : ev aq (.tmp 44) = .bool false := hk.dc hr 10 (by kernel_rfl) fun _ _ h => h
            exact vc hK (by go_simp) (fun w2 h2 => rfl)
          exact AllOps.nil
        intro V x8 hG hV hap
        have r11 : (V 11) = .bool false := hV 11 (by decide)
        clear hV hap
        simp only [List.take_succ_cons, List.take_nil, List.drop_succ_cons, List.drop_nil, putAll, Act.put, List.setIfInBounds_toArray, List.set_cons_zero, List.set_cons_succ]
        have hb := (show Below _ _ _ from hG)
        replace DR := Lib.hid (DR.out.below hb)
        replace Dn := Lib.hid (Dn.out.below hb)
        replace SNn := Lib.hid (SNn.out.below hb)
        replace Da := Lib.hid (Da.out.below hb)
        replace SNa := Lib.hid (SNa.out.below hb)
        replace SDa := Lib.hid (SDa.out.below hb)
        replace Qd := Lib.hid (Qd.out.below hb)
        replace HB := Lib.hid (HB.out.trans (Below.mono hb HB.out.size))
        clear hb hG
        rw [r11]
        clear r11
        go_upto_region 9 with fail
        refine wp_region_calm 1 [] ([fun vq wq => RV wq vq ((mkRat z (dn 1)))]) (by kernel_rfl) (by decide) ?_ ?_ ?_
        · intro j hj; cases hj
        · refine po rfl (fun lq aq wq hk hr K hK => ?_) ?_
          · have B11 : ev aq (.tmp 11) = .pointer (some ⟨ba, 0, none⟩) := hk.base 11 (by kernel_rfl) rfl
            have hb : Below _ _ _ := hk.ext
            exact vc hK (op_load3 11 _ B11 (Da.out.below hb)) (fun w2 h2 => RV.grow ⟨_, _, _, _, _, _, _, rfl, (SNa.out.below hb), (SDa.out.below hb), hda⟩ h2)
          exact AllOps.nil
        intro V x9 hG hV hap
        have r0 : RV x9 (V 0) ((mkRat z (dn 1))) := hV 0 (by decide)
        clear hV hap
        simp only [List.take_succ_cons, List.take_zero, List.drop_succ_cons, List.drop_zero, putAll, Act.put, List.setIfInBounds_toArray, List.set_cons_zero, List.set_cons_succ]
        have hb := (show Below _ _ _ from hG)
        obtain ⟨nR, AR, kR, cR, BR, jR, dR, y9, eR, ey, hQ, HQ, c0, c1, c2⟩ := ret3 r0 (DR.out.below hb) (HB.out.trans (Below.mono hb HB.out.size)) (by omega)
        simp only [eR]
        refine wpList_of_skip rfl (op_store3 2 48 _ rfl rfl (DR.out.below hb)) ?_
        rw [ey]
        clear eR ey hb hG HB DR
        go_wp2_with fail
        refine bodyPost_ret (v := .tuple #[.agg #[.bool nR, .slice AR kR cR, .slice BR jR dR], .bool true]) (by simp [results, Tryz.results42, go_sem, c0, c1, c2]) rfl ⟨_, rfl, ⟨_, rfl, (RV.to hQ hq9.out)⟩, HQ⟩
      · skip
        obtain ⟨sa, hsa⟩ : ∃ sa, ByteArray.mk (qtext (mkRat z (dn 1))).toArray = sa := ⟨_, rfl⟩
        have hsne : ¬ sa.toList = s.toList := by
          intro e9
          refine htq ?_
          rw [← eS.out, ← hsa, ByteArray.toList_mk, ByteArray.toList_mk] at e9
          exact e9
        replace hsa := Lib.hid hsa
        obtain ⟨hq9, ht9⟩ := (show ReadsQ l 0 false from reads_no1 hz9.out hno (fun h => htq)).one hQ
        subst ht9
        replace hq9 := Lib.hid hq9
        refine wp_region_calm 12 [] ([fun vq _ => vq = .bool true,
            fun vq _ => vq = .bool false,
            fun vq _ => vq = .bool false,
            fun vq _ => vq = .bool true,
            fun vq _ => vq = .bool false,
            fun vq _ => vq = .bool false,
            fun vq _ => vq = .bool false,
            fun vq wq => RV wq vq ((mkRat z (dn 1))),
            fun vq _ => vq = .string sa,
            fun vq _ => vq = .string s,
            fun vq _ => vq = .bool true,
            fun vq _ => vq = .bool true]) (by kernel_rfl) (by decide) ?_ ?_ ?_
        · intro j hj; cases hj
        · refine po rfl (fun lq aq wq hk hr K hK => ?_) ?_
          · have B8 : ev aq (.tmp 8) = .bool true := hk.base 8 (by kernel_rfl) rfl
            exact vc hK (by go_simp) (fun w2 h2 => rfl)
          refine po rfl (fun lq aq wq hk hr K hK => ?_) ?_
          · have E0 : ev aq (.tmp 34) = .bool true := hk.dc hr 0 (by kernel_rfl) fun _ _ h => h
            exact vc hK (by go_simp) (fun w2 h2 => rfl)
          refine po rfl (fun lq aq wq hk hr K hK => ?_) ?_
          · have E1 : ev aq (.tmp 35) = .bool false := hk.dc hr 1 (by kernel_rfl) fun _ _ h => h
            exact vc hK (by go_simp) (fun w2 h2 => rfl)
          refine pl 2 36 false rfl (by kernel_rfl) (fun _ _ h => h) (fun lq aq wq hk hr K hK => ?_) ?_
          · have B10 : ev aq (.tmp 10) = .bool true := hk.base 10 (by kernel_rfl) rfl
            exact vc hK (by go_simp) (fun w2 h2 => rfl)
          refine pl 2 36 false rfl (by kernel_rfl) (fun _ _ h => h) (fun lq aq wq hk hr K hK => ?_) ?_
          · have E3 : ev aq (.tmp 37) = .bool true := hk.dc hr 3 (by kernel_rfl) fun _ _ h => h
            exact vc hK (by go_simp) (fun w2 h2 => rfl)
          refine po rfl (fun lq aq wq hk hr K hK => ?_) ?_
          · have E2 : ev aq (.tmp 36) = .bool false := hk.dc hr 2 (by kernel_rfl) fun _ _ h => h
            have E4 : ev aq (.tmp 38) = .bool false := hk.dc hr 4 (by kernel_rfl) fun _ _ h => h
            exact vc hK (by go_simp) (fun w2 h2 => rfl)
          refine po rfl (fun lq aq wq hk hr K hK => ?_) ?_
          · have E5 : ev aq (.tmp 39) = .bool false := hk.dc hr 5 (by kernel_rfl) fun _ _ h => h
            exact vc hK (by go_simp) (fun w2 h2 => rfl)
          refine pl 6 40 false rfl (by kernel_rfl) (fun _ _ h => h) (fun lq aq wq hk hr K hK => ?_) ?_
          · have B11 : ev aq (.tmp 11) = .pointer (some ⟨ba, 0, none⟩) := hk.base 11 (by kernel_rfl) rfl
            have hb : Below _ _ _ := hk.ext
            exact vc hK (op_load3 11 _ B11 (Da.out.below hb)) (fun w2 h2 => RV.grow ⟨_, _, _, _, _, _, _, rfl, (SNa.out.below hb), (SDa.out.below hb), hda⟩ h2)
          refine pl 6 40 false rfl (by kernel_rfl) (fun _ _ h => h) (fun lq aq wq hk hr K hK => ?_) ?_
          · obtain ⟨v7, E7, r7⟩ := hk.dp hr 7 41 (by kernel_rfl)
            have r7 : RV wq v7 ((mkRat z (dn 1))) := r7
            exact yc hK (by go_simp) (qtext_v wq (r7).qv hsa.out) (fun u w1 hu w2 h2 => hu)
          refine pl 6 40 false rfl (by kernel_rfl) (fun _ _ h => h) (fun lq aq wq hk hr K hK => ?_) ?_
          · have B0 : ev aq (.tmp 0) = .string s := hk.base 0 (by kernel_rfl) rfl
            exact vc hK (by go_simp) (fun w2 h2 => rfl)
          refine pl 6 40 false rfl (by kernel_rfl) (fun _ _ h => h) (fun lq aq wq hk hr K hK => ?_) ?_
          · have E8 : ev aq (.tmp 42) = .string sa := hk.dc hr 8 (by kernel_rfl) fun _ _ h => h
            have E9 : ev aq (.tmp 43) = .string s := hk.dc hr 9 (by kernel_rfl) fun _ _ h => h
            exact vc hK (by first | (go_simp; done) | (go_simp; exact hsne)) (fun w2 h2 => rfl)
          refine po rfl (fun lq aq wq hk hr K hK => ?_) ?_
          · have E6 : ev aq (.tmp 40) = .bool false := hk.dc hr 6 (by kernel_rfl) fun _ _ h => h
            have E10 : ev aq (.tmp 44) = .bool true := hk.dc hr 10 (by kernel_rfl) fun _ _ h => h
            exact vc hK (by go_simp) (fun w2 h2 => rfl)
          exact AllOps.nil
        intro V x8 hG hV hap
        have r11 : (V 11) = .bool true := hV 11 (by decide)
        clear hV hap
        simp only [List.take_succ_cons, List.take_nil, List.drop_succ_cons, List.drop_nil, putAll, Act.put, List.setIfInBounds_toArray, List.set_cons_zero, List.set_cons_succ]
        have hb := (show Below _ _ _ from hG)
        replace DR := Lib.hid (DR.out.below hb)
        replace Dn := Lib.hid (Dn.out.below hb)
        replace SNn := Lib.hid (SNn.out.below hb)
        replace Da := Lib.hid (Da.out.below hb)
        replace SNa := Lib.hid (SNa.out.below hb)
        replace SDa := Lib.hid (SDa.out.below hb)
        replace Qd := Lib.hid (Qd.out.below hb)
        replace HB := Lib.hid (HB.out.trans (Below.mono hb HB.out.size))
        clear hb hG
        rw [r11]
        clear r11
        go_upto_region 8 with fail
        refine wp_region_calm 2 [] ([fun vq wq => QV wq vq ((0 : Rat)),
            fun vq wq => RV wq vq ((0 : Rat))]) (by kernel_rfl) (by decide) ?_ ?_ ?_
        · intro j hj; cases hj
        · refine po rfl (fun lq aq wq hk hr K hK => ?_) ?_
          · exact vc hK (by go_simp) (fun w2 h2 => (QV.zero _).grow h2)
          refine po rfl (fun lq aq wq hk hr K hK => ?_) ?_
          · obtain ⟨v0, E0, r0⟩ := hk.dp hr 0 46 (by kernel_rfl)
            have r0 : QV wq v0 ((0 : Rat)) := r0
            exact yc hK (by go_simp) (made_v wq r0) (fun u w1 hu w2 h2 => (hu).grow h2)
          exact AllOps.nil
        intro V x9 hG hV hap
        have r1 : RV x9 (V 1) ((0 : Rat)) := hV 1 (by decide)
        clear hV hap
        simp only [List.take_succ_cons, List.take_zero, List.drop_succ_cons, List.drop_zero, putAll, Act.put, List.setIfInBounds_toArray, List.set_cons_zero, List.set_cons_succ]
        have hb := (show Below _ _ _ from hG)
        obtain ⟨nR, AR, kR, cR, BR, jR, dR, y9, eR, ey, hQ, HQ, c0, c1, c2⟩ := ret3 r1 (DR.out.below hb) (HB.out.trans (Below.mono hb HB.out.size)) (by omega)
        simp only [eR]
        refine wpList_of_skip rfl (op_store3 2 47 _ rfl rfl (DR.out.below hb)) ?_
        rw [ey]
        clear eR ey hb hG HB DR
        go_wp2_with fail
        refine bodyPost_ret (v := .tuple #[.agg #[.bool nR, .slice AR kR cR, .slice BR jR dR], .bool false]) (by simp [results, Tryz.results42, go_sem, c0, c1, c2]) rfl ⟨_, rfl, ⟨_, rfl, (RV.to hQ hq9.out)⟩, HQ⟩
  · skip
    obtain ⟨z, t1, hz9⟩ := readsZ_any (l := hd) (by rw [hel] at hl; simp at hl; omega)
    have hkz := hz9.sz
    have hhl9 : (hd).length ≤ 900000 := by rw [hel] at hl; simp at hl; omega
    obtain ⟨sh, esh⟩ : ∃ sh, ByteArray.mk (hd).toArray = sh := ⟨_, rfl⟩
    obtain ⟨st, est⟩ : ∃ st, ByteArray.mk (tl : List UInt8).toArray = st := ⟨_, rfl⟩
    have hes : Hid (ByteArray.mk (hd).toArray = sh) ∧ Hid (ByteArray.mk (tl : List UInt8).toArray = st) := ⟨Lib.hid esh, Lib.hid est⟩
    clear esh est
    obtain ⟨a, t2, ha9⟩ := readsN_any (l := tl) (by rw [hel] at hl; simp at hl; omega)
    have hka := Nat.le_trans ha9.sz (show 100 ≤ 1000 by decide)
    have htl9 : tl.length ≤ 900000 := by rw [hel] at hl; simp at hl; omega
    replace ha9 := Lib.hid ha9
    replace hz9 := Lib.hid hz9
    replace hel := Lib.hid hel
    refine wp_region_calm 6 [] ([fun vq _ => vq = .string s,
        fun vq wq => vq = .tuple #[.string sh, .string st, .bool true],
        fun vq wq => vq = .tuple #[.string sh, .string st, .bool true],
        fun vq _ => vq = .string sh,
        fun vq _ => vq = .string st,
        fun vq _ => vq = .bool true]) (by kernel_rfl) (by decide) ?_ ?_ ?_
    · intro j hj; cases hj
    · refine po rfl (fun lq aq wq hk hr K hK => ?_) ?_
      · have B0 : ev aq (.tmp 0) = .string s := hk.base 0 (by kernel_rfl) rfl
        exact vc hK (by go_simp) (fun w2 h2 => rfl)
      refine po rfl (fun lq aq wq hk hr K hK => ?_) ?_
      · have E0 : ev aq (.tmp 13) = .string s := hk.dc hr 0 (by kernel_rfl) fun _ _ h => h
        exact yc hK (by go_simp) (scut_v wq (hlen9.out.below (HB.out.trans (Below.mono hk.ext HB.out.size))) hl9 (by rw [hel.out]; exact cut_yes hno) eS.out hes.1.out hes.2.out) (fun u w1 hu w2 h2 => hu)
      refine po rfl (fun lq aq wq hk hr K hK => ?_) ?_
      · obtain ⟨v1, E1, r1⟩ := hk.dp hr 1 14 (by kernel_rfl)
        have r1 : v1 = .tuple #[.string sh, .string st, .bool true] := r1
        exact vc hK (by go_simp) (fun w2 h2 => r1)
      refine po rfl (fun lq aq wq hk hr K hK => ?_) ?_
      · obtain ⟨v2, E2, r2⟩ := hk.dp hr 2 12 (by kernel_rfl)
        have r2 : v2 = .tuple #[.string sh, .string st, .bool true] := r2
        obtain ⟨rfl⟩ := r2
        exact vc hK (by go_simp) (fun w2 h2 => rfl)
      refine po rfl (fun lq aq wq hk hr K hK => ?_) ?_
      · obtain ⟨v2, E2, r2⟩ := hk.dp hr 2 12 (by kernel_rfl)
        have r2 : v2 = .tuple #[.string sh, .string st, .bool true] := r2
        obtain ⟨rfl⟩ := r2
        exact vc hK (by go_simp) (fun w2 h2 => rfl)
      refine po rfl (fun lq aq wq hk hr K hK => ?_) ?_
      · obtain ⟨v2, E2, r2⟩ := hk.dp hr 2 12 (by kernel_rfl)
        have r2 : v2 = .tuple #[.string sh, .string st, .bool true] := r2
        obtain ⟨rfl⟩ := r2
        exact vc hK (by go_simp) (fun w2 h2 => rfl)
      exact AllOps.nil
    intro V x1 hG hV hap
    have r3 : (V 3) = .string sh := hV 3 (by decide)
    have r4 : (V 4) = .string st := hV 4 (by decide)
    have r5 : (V 5) = .bool true := hV 5 (by decide)
    clear hV hap
    simp only [List.take_succ_cons, List.take_zero, List.drop_succ_cons, List.drop_zero, putAll, Act.put, List.setIfInBounds_toArray, List.set_cons_zero, List.set_cons_succ]
    have hb := (show Below _ _ _ from hG)
    replace DR := Lib.hid (DR.out.below hb)
    replace HB := Lib.hid (HB.out.trans (Below.mono hb HB.out.size))
    clear hb hG
    rw [r3, r4, r5]
    clear r3 r4 r5
    go_upto_region 2 with fail
    have lwR := DR.out.lt
    refine wp_region_calm 6 [5] ([fun vq _ => vq = .string sh,
        fun vq wq => ∃ u0, vq = .tuple #[u0, .bool t1] ∧ ZV wq u0 z,
        fun vq wq => ∃ u0, vq = .tuple #[u0, .bool t1] ∧ ZV wq u0 z,
        fun vq wq => ZV wq vq z,
        fun vq _ => vq = .bool t1,
        fun vq wq => ∃ bq, vq = .pointer (some ⟨bq, 0, none⟩) ∧ Box2 wq bq 24 (.bool false) (.slice none 0 0) ∧ (x1).heap.size ≤ bq]) (by kernel_rfl) (by decide) ?_ ?_ ?_
    · intro j hj v w h
      simp only [List.mem_cons, List.not_mem_nil, or_false] at hj
      subst hj
      all_goals (obtain ⟨b, rfl, hB, _⟩ := h; exact hB.lt)
    · refine po rfl (fun lq aq wq hk hr K hK => ?_) ?_
      · have B4 : ev aq (.tmp 4) = .string sh := hk.base 4 (by kernel_rfl) rfl
        exact vc hK (by go_simp) (fun w2 h2 => rfl)
      refine po rfl (fun lq aq wq hk hr K hK => ?_) ?_
      · have E0 : ev aq (.tmp 19) = .string sh := hk.dc hr 0 (by kernel_rfl) fun _ _ h => h
        exact yc hK (by go_simp) (bparse_any_v wq hz9.out hhl9 hes.1.out) (fun u w1 hu w2 h2 => (let ⟨u0, e0, h0⟩ := hu; ⟨u0, e0, (h0).grow h2⟩))
      refine po rfl (fun lq aq wq hk hr K hK => ?_) ?_
      · obtain ⟨v1, E1, r1⟩ := hk.dp hr 1 20 (by kernel_rfl)
        have r1 : ∃ u0, v1 = .tuple #[u0, .bool t1] ∧ ZV wq u0 z := r1
        exact vc hK (by go_simp) (fun w2 h2 => (let ⟨u0, e0, h0⟩ := r1; ⟨u0, e0, (h0).grow h2⟩))
      refine po rfl (fun lq aq wq hk hr K hK => ?_) ?_
      · obtain ⟨v2, E2, r2⟩ := hk.dp hr 2 18 (by kernel_rfl)
        have r2 : ∃ u0, v2 = .tuple #[u0, .bool t1] ∧ ZV wq u0 z := r2
        obtain ⟨u0, rfl, h0⟩ := r2
        exact vc hK (by go_simp) (fun w2 h2 => (h0).grow h2)
      refine po rfl (fun lq aq wq hk hr K hK => ?_) ?_
      · obtain ⟨v2, E2, r2⟩ := hk.dp hr 2 18 (by kernel_rfl)
        have r2 : ∃ u0, v2 = .tuple #[u0, .bool t1] ∧ ZV wq u0 z := r2
        obtain ⟨u0, rfl, h0⟩ := r2
        exact vc hK (by go_simp) (fun w2 h2 => rfl)
      refine po rfl (fun lq aq wq hk hr K hK => ?_) ?_
      · exact wp_of_value (by go_simp) (hK.out _ _ ((Grows.refl _).alloc _) (fun w2 h2 => ⟨_, rfl, (Box2.new wq 24 _ _).below h2, hk.ext.size⟩) (fun _ => Nat.le_refl _))
      exact AllOps.nil
    intro V x2 hG hV hap
    have r3 : ZV x2 (V 3) z := hV 3 (by decide)
    have r4 : (V 4) = .bool t1 := hV 4 (by decide)
    have r5 : ∃ bq, (V 5) = .pointer (some ⟨bq, 0, none⟩) ∧ Box2 x2 bq 24 (.bool false) (.slice none 0 0) ∧ (x1).heap.size ≤ bq := hV 5 (by decide)
    clear hV
    simp only [List.take_succ_cons, List.take_zero, List.drop_succ_cons, List.drop_zero, putAll, Act.put, List.setIfInBounds_toArray, List.set_cons_zero, List.set_cons_succ]
    have hb := (show Below _ _ _ from hG)
    obtain ⟨bn, en, Dn, gn⟩ := r5
    obtain ⟨nn, An, kn, cn, en9, sn⟩ := r3
    simp only [en, en9, r4]
    clear en en9 hap hG r4
    refine wpList_of_skip rfl (op_store 7 21 _ rfl rfl Dn) ?_
    have hB := put2_below (u := .bool nn) (v := .slice An kn cn) hb gn
    replace sn := sn.put Dn (.bool nn) (.slice An kn cn)
    replace Dn := put2_own (u := .bool nn) (v := .slice An kn cn) Dn
    clear hb
    generalize put2 x2 bn (.bool nn) (.slice An kn cn) = y3 at *
    replace DR := Lib.hid (DR.out.below hB)
    replace HB := Lib.hid (HB.out.trans (Below.mono hB HB.out.size))
    replace lwR := Nat.lt_of_lt_of_le lwR gn
    replace Dn := Lib.hid Dn
    have SNn := Lib.hid sn
    clear hB gn sn
    go_upto_region 3 with fail
    refine wp_region_calm 1 [] ([fun vq wq => LV wq vq ((limbs 1)) 1]) (by kernel_rfl) (by decide) ?_ ?_ ?_
    · intro j hj; cases hj
    · refine po rfl (fun lq aq wq hk hr K hK => ?_) ?_
      · exact yc hK (by go_simp) (one_v wq) (fun u w1 hu w2 h2 => (hu).grow h2)
      exact AllOps.nil
    intro V x4 hG hV hap
    have r0 : LV x4 (V 0) ((limbs 1)) 1 := hV 0 (by decide)
    clear hV hap
    simp only [List.take_succ_cons, List.take_zero, List.drop_succ_cons, List.drop_zero, putAll, Act.put, List.setIfInBounds_toArray, List.set_cons_zero, List.set_cons_succ]
    have hb := (show Below _ _ _ from hG)
    replace DR := Lib.hid (DR.out.below hb)
    replace Dn := Lib.hid (Dn.out.below hb)
    replace SNn := Lib.hid (SNn.out.below hb)
    replace HB := Lib.hid (HB.out.trans (Below.mono hb HB.out.size))
    clear hb hG
    obtain ⟨Ad, cd, ed, qd⟩ := r0
    simp only [ed]
    rw [ed] at qd
    have Qd := Lib.hid qd
    clear ed qd
    go_upto_region 4 with fail
    refine wp_region_calm 1 [] ([fun vq _ => vq = .bool true]) (by kernel_rfl) (by decide) ?_ ?_ ?_
    · intro j hj; cases hj
    · refine po rfl (fun lq aq wq hk hr K hK => ?_) ?_
      · have B6 : ev aq (.tmp 6) = .bool true := hk.base 6 (by kernel_rfl) rfl
        exact vc hK (by go_simp) (fun w2 h2 => rfl)
      exact AllOps.nil
    intro V x5 hG hV hap
    have r0 : (V 0) = .bool true := hV 0 (by decide)
    clear hV hap
    simp only [List.take_succ_cons, List.take_nil, List.drop_succ_cons, List.drop_nil, putAll, Act.put, List.setIfInBounds_toArray, List.set_cons_zero, List.set_cons_succ]
    have hb := (show Below _ _ _ from hG)
    replace DR := Lib.hid (DR.out.below hb)
    replace Dn := Lib.hid (Dn.out.below hb)
    replace SNn := Lib.hid (SNn.out.below hb)
    replace Qd := Lib.hid (Qd.out.below hb)
    replace HB := Lib.hid (HB.out.trans (Below.mono hb HB.out.size))
    clear hb hG
    rw [r0]
    clear r0
    clear Qd
    go_upto_region 5 with fail
    refine wp_region_calm 5 [] ([fun vq _ => vq = .string st,
        fun vq wq => ∃ u0, vq = .tuple #[u0, .bool t2] ∧ LV wq u0 ((limbs a)) a,
        fun vq wq => ∃ u0, vq = .tuple #[u0, .bool t2] ∧ LV wq u0 ((limbs a)) a,
        fun vq wq => LV wq vq ((limbs a)) a,
        fun vq _ => vq = .bool t2]) (by kernel_rfl) (by decide) ?_ ?_ ?_
    · intro j hj; cases hj
    · refine po rfl (fun lq aq wq hk hr K hK => ?_) ?_
      · have B5 : ev aq (.tmp 5) = .string st := hk.base 5 (by kernel_rfl) rfl
        exact vc hK (by go_simp) (fun w2 h2 => rfl)
      refine po rfl (fun lq aq wq hk hr K hK => ?_) ?_
      · have E0 : ev aq (.tmp 26) = .string st := hk.dc hr 0 (by kernel_rfl) fun _ _ h => h
        exact yc hK (by go_simp) (nparse_any_v wq ha9.out htl9 hes.2.out) (fun u w1 hu w2 h2 => (let ⟨u0, e0, h0⟩ := hu; ⟨u0, e0, (h0).grow h2⟩))
      refine po rfl (fun lq aq wq hk hr K hK => ?_) ?_
      · obtain ⟨v1, E1, r1⟩ := hk.dp hr 1 27 (by kernel_rfl)
        have r1 : ∃ u0, v1 = .tuple #[u0, .bool t2] ∧ LV wq u0 ((limbs a)) a := r1
        exact vc hK (by go_simp) (fun w2 h2 => (let ⟨u0, e0, h0⟩ := r1; ⟨u0, e0, (h0).grow h2⟩))
      refine po rfl (fun lq aq wq hk hr K hK => ?_) ?_
      · obtain ⟨v2, E2, r2⟩ := hk.dp hr 2 25 (by kernel_rfl)
        have r2 : ∃ u0, v2 = .tuple #[u0, .bool t2] ∧ LV wq u0 ((limbs a)) a := r2
        obtain ⟨u0, rfl, h0⟩ := r2
        exact vc hK (by go_simp) (fun w2 h2 => (h0).grow h2)
      refine po rfl (fun lq aq wq hk hr K hK => ?_) ?_
      · obtain ⟨v2, E2, r2⟩ := hk.dp hr 2 25 (by kernel_rfl)
        have r2 : ∃ u0, v2 = .tuple #[u0, .bool t2] ∧ LV wq u0 ((limbs a)) a := r2
        obtain ⟨u0, rfl, h0⟩ := r2
        exact vc hK (by go_simp) (fun w2 h2 => rfl)
      exact AllOps.nil
    intro V x6 hG hV hap
    have r3 : LV x6 (V 3) ((limbs a)) a := hV 3 (by decide)
    have r4 : (V 4) = .bool t2 := hV 4 (by decide)
    clear hV hap
    simp only [List.take_succ_cons, List.take_zero, List.drop_succ_cons, List.drop_zero, putAll, Act.put, List.setIfInBounds_toArray, List.set_cons_zero, List.set_cons_succ]
    have hb := (show Below _ _ _ from hG)
    replace DR := Lib.hid (DR.out.below hb)
    replace Dn := Lib.hid (Dn.out.below hb)
    replace SNn := Lib.hid (SNn.out.below hb)
    replace HB := Lib.hid (HB.out.trans (Below.mono hb HB.out.size))
    clear hb hG
    rw [r4]
    clear r4
    obtain ⟨Ae, ce, ee, qe⟩ := r3
    simp only [ee]
    rw [ee] at qe
    have Qe := Lib.hid qe
    clear ee qe
    go_upto_region 6 with fail
    have lwR := DR.out.lt
    have lwn := Dn.out.lt
    refine wp_region_calm 5 [4] ([fun vq wq => ZV wq vq z,
        fun vq _ => vq = .slice Ae (limbs a).length ce,
        fun vq wq => QV wq vq ((mkRat z (dn a))),
        fun vq wq => RV wq vq ((mkRat z (dn a))),
        fun vq wq => ∃ bq, vq = .pointer (some ⟨bq, 0, none⟩) ∧ BoxN wq bq 26 #[.bool false, .slice none 0 0, .slice none 0 0] ∧ (x6).heap.size ≤ bq]) (by kernel_rfl) (by decide) ?_ ?_ ?_
    · intro j hj v w h
      simp only [List.mem_cons, List.not_mem_nil, or_false] at hj
      subst hj
      all_goals (obtain ⟨b, rfl, hB, _⟩ := h; exact hB.lt)
    · refine po rfl (fun lq aq wq hk hr K hK => ?_) ?_
      · have B7 : ev aq (.tmp 7) = .pointer (some ⟨bn, 0, none⟩) := hk.base 7 (by kernel_rfl) rfl
        have hb : Below _ _ _ := hk.ext
        exact vc hK (op_load 7 _ B7 (Dn.out.below hb)) (fun w2 h2 => ⟨_, _, _, _, rfl, (SNn.out.below hb).below h2⟩)
      refine po rfl (fun lq aq wq hk hr K hK => ?_) ?_
      · have B9 : ev aq (.tmp 9) = .slice Ae (limbs a).length ce := hk.base 9 (by kernel_rfl) rfl
        exact vc hK (by go_simp) (fun w2 h2 => rfl)
      refine po rfl (fun lq aq wq hk hr K hK => ?_) ?_
      · obtain ⟨v0, E0, r0⟩ := hk.dp hr 0 30 (by kernel_rfl)
        have r0 : ZV wq v0 z := r0
        have E1 : ev aq (.tmp 31) = .slice Ae (limbs a).length ce := hk.dc hr 1 (by kernel_rfl) fun _ _ h => h
        obtain ⟨n0, A0, k0, c0, rfl, s0⟩ := (r0).wv
        have hsl : ∃ B j e, .slice Ae (limbs a).length ce = Value.slice B j e := ⟨_, _, _, rfl⟩
        have hnd := Qe.out.below hk.ext
        exact vc hK (op_rat 30 31 E0 E1 hsl) (fun w2 h2 => QV.grow ⟨_, _, _, _, _, _, _, rfl, _, _, _, s0, hnd, hka, rfl⟩ h2)
      refine po rfl (fun lq aq wq hk hr K hK => ?_) ?_
      · obtain ⟨v2, E2, r2⟩ := hk.dp hr 2 32 (by kernel_rfl)
        have r2 : QV wq v2 ((mkRat z (dn a))) := r2
        exact yc hK (by go_simp) (made_v wq r2) (fun u w1 hu w2 h2 => (hu).grow h2)
      refine po rfl (fun lq aq wq hk hr K hK => ?_) ?_
      · exact wp_of_value (by go_simp) (hK.out _ _ ((Grows.refl _).alloc _) (fun w2 h2 => ⟨_, rfl, (BoxN.new wq 26 _).below h2, hk.ext.size⟩) (fun _ => Nat.le_refl _))
      exact AllOps.nil
    intro V x7 hG hV hap
    have r3 : RV x7 (V 3) ((mkRat z (dn a))) := hV 3 (by decide)
    have r4 : ∃ bq, (V 4) = .pointer (some ⟨bq, 0, none⟩) ∧ BoxN x7 bq 26 #[.bool false, .slice none 0 0, .slice none 0 0] ∧ (x6).heap.size ≤ bq := hV 4 (by decide)
    clear hV
    simp only [List.take_succ_cons, List.take_zero, List.drop_succ_cons, List.drop_zero, putAll, Act.put, List.setIfInBounds_toArray, List.set_cons_zero, List.set_cons_succ]
    have hb := (show Below _ _ _ from hG)
    obtain ⟨ba, ea, Da, ga⟩ := r4
    obtain ⟨na, Aa, ka, ca, Ba, ja, da, ea9, sa, ta, hda⟩ := r3
    simp only [ea, ea9]
    clear ea ea9 hap hG
    replace Da : Box3 _ ba 26 (.bool false) (.slice none 0 0) (.slice none 0 0) := Da
    refine wpList_of_skip rfl (op_store3 11 33 _ rfl rfl Da) ?_
    have hB := put3_below (x' := .bool na) (y' := .slice Aa ka ca) (z' := .slice Ba ja da) hb ga
    replace sa := sa.put3 Da (.bool na) (.slice Aa ka ca) (.slice Ba ja da)
    replace ta := ta.put3 Da (.bool na) (.slice Aa ka ca) (.slice Ba ja da)
    replace Da := put3_own (x' := .bool na) (y' := .slice Aa ka ca) (z' := .slice Ba ja da) Da
    clear hb
    generalize put3 x7 ba (.bool na) (.slice Aa ka ca) (.slice Ba ja da) = y8 at *
    replace DR := Lib.hid (DR.out.below hB)
    replace Dn := Lib.hid (Dn.out.below hB)
    replace SNn := Lib.hid (SNn.out.below hB)
    replace Qe := Lib.hid (Qe.out.below hB)
    replace HB := Lib.hid (HB.out.trans (Below.mono hB HB.out.size))
    replace lwR := Nat.lt_of_lt_of_le lwR ga
    replace lwn := Nat.lt_of_lt_of_le lwn ga
    replace Da := Lib.hid Da
    have SNa := Lib.hid sa
    have SDa := Lib.hid ta
    clear hB ga sa ta
    go_upto_region 7 with fail
    rcases t1 with _ | _
    · skip
      obtain ⟨hq9, ht9⟩ := (show ReadsQ l 0 false from by rw [hel.out]; exact reads_no2 hz9.out ha9.out hno (fun h => absurd h (by decide))).one hQ
      subst ht9
      replace hq9 := Lib.hid hq9
      refine wp_region_calm 12 [] ([fun vq _ => vq = .bool false,
          fun vq _ => vq = .bool true,
          fun vq _ => vq = .bool true,
          fun vq _ => vq = undef,
          fun vq _ => vq = undef,
          fun vq _ => vq = .bool true,
          fun vq _ => vq = .bool true,
          fun vq _ => vq = undef,
          fun vq _ => vq = undef,
          fun vq _ => vq = undef,
          fun vq _ => vq = undef,
          fun vq _ => vq = .bool true]) (by kernel_rfl) (by decide) ?_ ?_ ?_
      · intro j hj; cases hj
      · refine po rfl (fun lq aq wq hk hr K hK => ?_) ?_
        · have B8 : ev aq (.tmp 8) = .bool false := hk.base 8 (by kernel_rfl) rfl
          exact vc hK (by go_simp) (fun w2 h2 => rfl)
        refine po rfl (fun lq aq wq hk hr K hK => ?_) ?_
        · have E0 : ev aq (.tmp 34) = .bool false := hk.dc hr 0 (by kernel_rfl) fun _ _ h => h
          exact vc hK (by go_simp) (fun w2 h2 => rfl)
        refine po rfl (fun lq aq wq hk hr K hK => ?_) ?_
        · have E1 : ev aq (.tmp 35) = .bool true := hk.dc hr 1 (by kernel_rfl) fun _ _ h => h
          exact vc hK (by go_simp) (fun w2 h2 => rfl)
        refine pb 2 36 false true rfl (by kernel_rfl) (fun _ _ h => h) (by decide) (fun _ => rfl) rfl ?_
        refine pb 2 36 false true rfl (by kernel_rfl) (fun _ _ h => h) (by decide) (fun _ => rfl) rfl ?_
        refine po rfl (fun lq aq wq hk hr K hK => ?_) ?_
        · have E2 : ev aq (.tmp 36) = .bool true := hk.dc hr 2 (by kernel_rfl) fun _ _ h => h
          exact vc hK (by go_simp) (fun w2 h2 => rfl)
        refine po rfl (fun lq aq wq hk hr K hK => ?_) ?_
        · have E5 : ev aq (.tmp 39) = .bool true := hk.dc hr 5 (by kernel_rfl) fun _ _ h => h
          exact vc hK (by go_simp) (fun w2 h2 => rfl)
        refine pb 6 40 false true rfl (by kernel_rfl) (fun _ _ h => h) (by decide) (fun _ => rfl) rfl ?_
        refine pb 6 40 false true rfl (by kernel_rfl) (fun _ _ h => h) (by decide) (fun _ => rfl) rfl ?_
        refine pb 6 40 false true rfl (by kernel_rfl) (fun _ _ h => h) (by decide) (fun _ => rfl) rfl ?_
        refine pb 6 40 false true rfl (by kernel_rfl) (fun _ _ h => h) (by decide) (fun _ => rfl) rfl ?_
        refine po rfl (fun lq aq wq hk hr K hK => ?_) ?_
        · have E6 : ev aq (.tmp 40) = .bool true := hk.dc hr 6 (by kernel_rfl) fun _ _ h => h
          exact vc hK (by go_simp) (fun w2 h2 => rfl)
        exact AllOps.nil
      intro V x9 hG hV hap
      have r11 : (V 11) = .bool true := hV 11 (by decide)
      clear hV hap
      simp only [List.take_succ_cons, List.take_nil, List.drop_succ_cons, List.drop_nil, putAll, Act.put, List.setIfInBounds_toArray, List.set_cons_zero, List.set_cons_succ]
      have hb := (show Below _ _ _ from hG)
      replace DR := Lib.hid (DR.out.below hb)
      replace Dn := Lib.hid (Dn.out.below hb)
      replace SNn := Lib.hid (SNn.out.below hb)
      replace Da := Lib.hid (Da.out.below hb)
      replace SNa := Lib.hid (SNa.out.below hb)
      replace SDa := Lib.hid (SDa.out.below hb)
      replace Qe := Lib.hid (Qe.out.below hb)
      replace HB := Lib.hid (HB.out.trans (Below.mono hb HB.out.size))
      clear hb hG
      rw [r11]
      clear r11
      go_upto_region 8 with fail
      refine wp_region_calm 2 [] ([fun vq wq => QV wq vq ((0 : Rat)),
          fun vq wq => RV wq vq ((0 : Rat))]) (by kernel_rfl) (by decide) ?_ ?_ ?_
      · intro j hj; cases hj
      · refine po rfl (fun lq aq wq hk hr K hK => ?_) ?_
        · exact vc hK (by go_simp) (fun w2 h2 => (QV.zero _).grow h2)
        refine po rfl (fun lq aq wq hk hr K hK => ?_) ?_
        · obtain ⟨v0, E0, r0⟩ := hk.dp hr 0 46 (by kernel_rfl)
          have r0 : QV wq v0 ((0 : Rat)) := r0
          exact yc hK (by go_simp) (made_v wq r0) (fun u w1 hu w2 h2 => (hu).grow h2)
        exact AllOps.nil
      intro V x10 hG hV hap
      have r1 : RV x10 (V 1) ((0 : Rat)) := hV 1 (by decide)
      clear hV hap
      simp only [List.take_succ_cons, List.take_zero, List.drop_succ_cons, List.drop_zero, putAll, Act.put, List.setIfInBounds_toArray, List.set_cons_zero, List.set_cons_succ]
      have hb := (show Below _ _ _ from hG)
      obtain ⟨nR, AR, kR, cR, BR, jR, dR, y9, eR, ey, hQ, HQ, c0, c1, c2⟩ := ret3 r1 (DR.out.below hb) (HB.out.trans (Below.mono hb HB.out.size)) (by omega)
      simp only [eR]
      refine wpList_of_skip rfl (op_store3 2 47 _ rfl rfl (DR.out.below hb)) ?_
      rw [ey]
      clear eR ey hb hG HB DR
      go_wp2_with fail
      refine bodyPost_ret (v := .tuple #[.agg #[.bool nR, .slice AR kR cR, .slice BR jR dR], .bool false]) (by simp [results, Tryz.results42, go_sem, c0, c1, c2]) rfl ⟨_, rfl, ⟨_, rfl, (RV.to hQ hq9.out)⟩, HQ⟩
    · skip
      rcases t2 with _ | _
      · skip
        obtain ⟨hq9, ht9⟩ := (show ReadsQ l 0 false from by rw [hel.out]; exact reads_no2 hz9.out ha9.out hno (fun _ h => absurd h (by decide))).one hQ
        subst ht9
        replace hq9 := Lib.hid hq9
        refine wp_region_calm 12 [] ([fun vq _ => vq = .bool true,
            fun vq _ => vq = .bool false,
            fun vq _ => vq = .bool false,
            fun vq _ => vq = .bool false,
            fun vq _ => vq = .bool true,
            fun vq _ => vq = .bool true,
            fun vq _ => vq = .bool true,
            fun vq _ => vq = undef,
            fun vq _ => vq = undef,
            fun vq _ => vq = undef,
            fun vq _ => vq = undef,
            fun vq _ => vq = .bool true]) (by kernel_rfl) (by decide) ?_ ?_ ?_
        · intro j hj; cases hj
        · refine po rfl (fun lq aq wq hk hr K hK => ?_) ?_
          · have B8 : ev aq (.tmp 8) = .bool true := hk.base 8 (by kernel_rfl) rfl
            exact vc hK (by go_simp) (fun w2 h2 => rfl)
          refine po rfl (fun lq aq wq hk hr K hK => ?_) ?_
          · have E0 : ev aq (.tmp 34) = .bool true := hk.dc hr 0 (by kernel_rfl) fun _ _ h => h
            exact vc hK (by go_simp) (fun w2 h2 => rfl)
          refine po rfl (fun lq aq wq hk hr K hK => ?_) ?_
          · have E1 : ev aq (.tmp 35) = .bool false := hk.dc hr 1 (by kernel_rfl) fun _ _ h => h
            exact vc hK (by go_simp) (fun w2 h2 => rfl)
          refine pl 2 36 false rfl (by kernel_rfl) (fun _ _ h => h) (fun lq aq wq hk hr K hK => ?_) ?_
          · have B10 : ev aq (.tmp 10) = .bool false := hk.base 10 (by kernel_rfl) rfl
            exact vc hK (by go_simp) (fun w2 h2 => rfl)
          refine pl 2 36 false rfl (by kernel_rfl) (fun _ _ h => h) (fun lq aq wq hk hr K hK => ?_) ?_
          · have E3 : ev aq (.tmp 37) = .bool false := hk.dc hr 3 (by kernel_rfl) fun _ _ h => h
            exact vc hK (by go_simp) (fun w2 h2 => rfl)
          refine po rfl (fun lq aq wq hk hr K hK => ?_) ?_
          · have E2 : ev aq (.tmp 36) = .bool false := hk.dc hr 2 (by kernel_rfl) fun _ _ h => h
            have E4 : ev aq (.tmp 38) = .bool true := hk.dc hr 4 (by kernel_rfl) fun _ _ h => h
            exact vc hK (by go_simp) (fun w2 h2 => rfl)
          refine po rfl (fun lq aq wq hk hr K hK => ?_) ?_
          · have E5 : ev aq (.tmp 39) = .bool true := hk.dc hr 5 (by kernel_rfl) fun _ _ h => h
            exact vc hK (by go_simp) (fun w2 h2 => rfl)
          refine pb 6 40 false true rfl (by kernel_rfl) (fun _ _ h => h) (by decide) (fun _ => rfl) rfl ?_
          refine pb 6 40 false true rfl (by kernel_rfl) (fun _ _ h => h) (by decide) (fun _ => rfl) rfl ?_
          refine pb 6 40 false true rfl (by kernel_rfl) (fun _ _ h => h) (by decide) (fun _ => rfl) rfl ?_
          refine pb 6 40 false true rfl (by kernel_rfl) (fun _ _ h => h) (by decide) (fun _ => rfl) rfl ?_
          refine po rfl (fun lq aq wq hk hr K hK => ?_) ?_
          · have E6 : ev aq (.tmp 40) = .bool true := hk.dc hr 6 (by kernel_rfl) fun _ _ h => h
            exact vc hK (by go_simp) (fun w2 h2 => rfl)
          exact AllOps.nil
        intro V x9 hG hV hap
        have r11 : (V 11) = .bool true := hV 11 (by decide)
        clear hV hap
        simp only [List.take_succ_cons, List.take_nil, List.drop_succ_cons, List.drop_nil, putAll, Act.put, List.setIfInBounds_toArray, List.set_cons_zero, List.set_cons_succ]
        have hb := (show Below _ _ _ from hG)
        replace DR := Lib.hid (DR.out.below hb)
        replace Dn := Lib.hid (Dn.out.below hb)
        replace SNn := Lib.hid (SNn.out.below hb)
        replace Da := Lib.hid (Da.out.below hb)
        replace SNa := Lib.hid (SNa.out.below hb)
        replace SDa := Lib.hid (SDa.out.below hb)
        replace Qe := Lib.hid (Qe.out.below hb)
        replace HB := Lib.hid (HB.out.trans (Below.mono hb HB.out.size))
        clear hb hG
        rw [r11]
        clear r11
        go_upto_region 8 with fail
        refine wp_region_calm 2 [] ([fun vq wq => QV wq vq ((0 : Rat)),
            fun vq wq => RV wq vq ((0 : Rat))]) (by kernel_rfl) (by decide) ?_ ?_ ?_
        · intro j hj; cases hj
        · refine po rfl (fun lq aq wq hk hr K hK => ?_) ?_
          · exact vc hK (by go_simp) (fun w2 h2 => (QV.zero _).grow h2)
          refine po rfl (fun lq aq wq hk hr K hK => ?_) ?_
          · obtain ⟨v0, E0, r0⟩ := hk.dp hr 0 46 (by kernel_rfl)
            have r0 : QV wq v0 ((0 : Rat)) := r0
            exact yc hK (by go_simp) (made_v wq r0) (fun u w1 hu w2 h2 => (hu).grow h2)
          exact AllOps.nil
        intro V x10 hG hV hap
        have r1 : RV x10 (V 1) ((0 : Rat)) := hV 1 (by decide)
        clear hV hap
        simp only [List.take_succ_cons, List.take_zero, List.drop_succ_cons, List.drop_zero, putAll, Act.put, List.setIfInBounds_toArray, List.set_cons_zero, List.set_cons_succ]
        have hb := (show Below _ _ _ from hG)
        obtain ⟨nR, AR, kR, cR, BR, jR, dR, y9, eR, ey, hQ, HQ, c0, c1, c2⟩ := ret3 r1 (DR.out.below hb) (HB.out.trans (Below.mono hb HB.out.size)) (by omega)
        simp only [eR]
        refine wpList_of_skip rfl (op_store3 2 47 _ rfl rfl (DR.out.below hb)) ?_
        rw [ey]
        clear eR ey hb hG HB DR
        go_wp2_with fail
        refine bodyPost_ret (v := .tuple #[.agg #[.bool nR, .slice AR kR cR, .slice BR jR dR], .bool false]) (by simp [results, Tryz.results42, go_sem, c0, c1, c2]) rfl ⟨_, rfl, ⟨_, rfl, (RV.to hQ hq9.out)⟩, HQ⟩
      · skip
        rcases Decidable.em (qtext (mkRat z (dn a)) = l) with htq | htq
        · skip
          have hsa := Lib.hid (show ByteArray.mk (qtext (mkRat z (dn a))).toArray = s by rw [htq, eS.out])
          obtain ⟨hq9, ht9⟩ := (reads_yes hkz ha9.out.sz htq).one hQ
          subst ht9
          replace hq9 := Lib.hid hq9
          refine wp_region_calm 12 [] ([fun vq _ => vq = .bool true,
              fun vq _ => vq = .bool false,
              fun vq _ => vq = .bool false,
              fun vq _ => vq = .bool true,
              fun vq _ => vq = .bool false,
              fun vq _ => vq = .bool false,
              fun vq _ => vq = .bool false,
              fun vq wq => RV wq vq ((mkRat z (dn a))),
              fun vq _ => vq = .string s,
              fun vq _ => vq = .string s,
              fun vq _ => vq = .bool false,
              fun vq _ => vq = .bool false]) (by kernel_rfl) (by decide) ?_ ?_ ?_
          · intro j hj; cases hj
          · refine po rfl (fun lq aq wq hk hr K hK => ?_) ?_
            · have B8 : ev aq (.tmp 8) = .bool true := hk.base 8 (by kernel_rfl) rfl
              exact vc hK (by go_simp) (fun w2 h2 => rfl)
            refine po rfl (fun lq aq wq hk hr K hK => ?_) ?_
            · have E0 : ev aq (.tmp 34) = .bool true := hk.dc hr 0 (by kernel_rfl) fun _ _ h => h
              exact vc hK (by go_simp) (fun w2 h2 => rfl)
            refine po rfl (fun lq aq wq hk hr K hK => ?_) ?_
            · have E1 : ev aq (.tmp 35) = .bool false := hk.dc hr 1 (by kernel_rfl) fun _ _ h => h
              exact vc hK (by go_simp) (fun w2 h2 => rfl)
            refine pl 2 36 false rfl (by kernel_rfl) (fun _ _ h => h) (fun lq aq wq hk hr K hK => ?_) ?_
            · have B10 : ev aq (.tmp 10) = .bool true := hk.base 10 (by kernel_rfl) rfl
              exact vc hK (by go_simp) (fun w2 h2 => rfl)
            refine pl 2 36 false rfl (by kernel_rfl) (fun _ _ h => h) (fun lq aq wq hk hr K hK => ?_) ?_
            · have E3 : ev aq (.tmp 37) = .bool true := hk.dc hr 3 (by kernel_rfl) fun _ _ h => h
              exact vc hK (by go_simp) (fun w2 h2 => rfl)
            refine po rfl (fun lq aq wq hk hr K hK => ?_) ?_
            · have E2 : ev aq (.tmp 36) = .bool false := hk.dc hr 2 (by kernel_rfl) fun _ _ h => h
              have E4 : ev aq (.tmp 38) = .bool false := hk.dc hr 4 (by kernel_rfl) fun _ _ h => h
              exact vc hK (by go_simp) (fun w2 h2 => rfl)
            refine po rfl (fun lq aq wq hk hr K hK => ?_) ?_
            · have E5 : ev aq (.tmp 39) = .bool false := hk.dc hr 5 (by kernel_rfl) fun _ _ h => h
              exact vc hK (by go_simp) (fun w2 h2 => rfl)
            refine pl 6 40 false rfl (by kernel_rfl) (fun _ _ h => h) (fun lq aq wq hk hr K hK => ?_) ?_
            · have B11 : ev aq (.tmp 11) = .pointer (some ⟨ba, 0, none⟩) := hk.base 11 (by kernel_rfl) rfl
              have hb : Below _ _ _ := hk.ext
              exact vc hK (op_load3 11 _ B11 (Da.out.below hb)) (fun w2 h2 => RV.grow ⟨_, _, _, _, _, _, _, rfl, (SNa.out.below hb), (SDa.out.below hb), hda⟩ h2)
            refine pl 6 40 false rfl (by kernel_rfl) (fun _ _ h => h) (fun lq aq wq hk hr K hK => ?_) ?_
            · obtain ⟨v7, E7, r7⟩ := hk.dp hr 7 41 (by kernel_rfl)
              have r7 : RV wq v7 ((mkRat z (dn a))) := r7
              exact yc hK (by go_simp) (qtext_v wq (r7).qv hsa.out) (fun u w1 hu w2 h2 => hu)
            refine pl 6 40 false rfl (by kernel_rfl) (fun _ _ h => h) (fun lq aq wq hk hr K hK => ?_) ?_
            · have B0 : ev aq (.tmp 0) = .string s := hk.base 0 (by kernel_rfl) rfl
              exact vc hK (by go_simp) (fun w2 h2 => rfl)
            refine pl 6 40 false rfl (by kernel_rfl) (fun _ _ h => h) (fun lq aq wq hk hr K hK => ?_) ?_
            · have E8 : ev aq (.tmp 42) = .string s := hk.dc hr 8 (by kernel_rfl) fun _ _ h => h
              have E9 : ev aq (.tmp 43) = .string s := hk.dc hr 9 (by kernel_rfl) fun _ _ h => h
              exact vc hK (by go_simp) (fun w2 h2 => rfl)
            refine po rfl (fun lq aq wq hk hr K hK => ?_) ?_
            · have E6 : ev aq (.tmp 40) = .bool false := hk.dc hr 6 (by kernel_rfl) fun _ _ h => h
              have E10 : ev aq (.tmp 44) = .bool false := hk.dc hr 10 (by kernel_rfl) fun _ _ h => h
              exact vc hK (by go_simp) (fun w2 h2 => rfl)
            exact AllOps.nil
          intro V x9 hG hV hap
          have r11 : (V 11) = .bool false := hV 11 (by decide)
          clear hV hap
          simp only [List.take_succ_cons, List.take_nil, List.drop_succ_cons, List.drop_nil, putAll, Act.put, List.setIfInBounds_toArray, List.set_cons_zero, List.set_cons_succ]
          have hb := (show Below _ _ _ from hG)
          replace DR := Lib.hid (DR.out.below hb)
          replace Dn := Lib.hid (Dn.out.below hb)
          replace SNn := Lib.hid (SNn.out.below hb)
          replace Da := Lib.hid (Da.out.below hb)
          replace SNa := Lib.hid (SNa.out.below hb)
          replace SDa := Lib.hid (SDa.out.below hb)
          replace Qe := Lib.hid (Qe.out.below hb)
          replace HB := Lib.hid (HB.out.trans (Below.mono hb HB.out.size))
          clear hb hG
          rw [r11]
          clear r11
          go_upto_region 9 with fail
          refine wp_region_calm 1 [] ([fun vq wq => RV wq vq ((mkRat z (dn a)))]) (by kernel_rfl) (by decide) ?_ ?_ ?_
          · intro j hj; cases hj
          · refine po rfl (fun lq aq wq hk hr K hK => ?_) ?_
            · have B11 : ev aq (.tmp 11) = .pointer (some ⟨ba, 0, none⟩) := hk.base 11 (by kernel_rfl) rfl
              have hb : Below _ _ _ := hk.ext
              exact vc hK (op_load3 11 _ B11 (Da.out.below hb)) (fun w2 h2 => RV.grow ⟨_, _, _, _, _, _, _, rfl, (SNa.out.below hb), (SDa.out.below hb), hda⟩ h2)
            exact AllOps.nil
          intro V x10 hG hV hap
          have r0 : RV x10 (V 0) ((mkRat z (dn a))) := hV 0 (by decide)
          clear hV hap
          simp only [List.take_succ_cons, List.take_zero, List.drop_succ_cons, List.drop_zero, putAll, Act.put, List.setIfInBounds_toArray, List.set_cons_zero, List.set_cons_succ]
          have hb := (show Below _ _ _ from hG)
          obtain ⟨nR, AR, kR, cR, BR, jR, dR, y9, eR, ey, hQ, HQ, c0, c1, c2⟩ := ret3 r0 (DR.out.below hb) (HB.out.trans (Below.mono hb HB.out.size)) (by omega)
          simp only [eR]
          refine wpList_of_skip rfl (op_store3 2 48 _ rfl rfl (DR.out.below hb)) ?_
          rw [ey]
          clear eR ey hb hG HB DR
          go_wp2_with fail
          refine bodyPost_ret (v := .tuple #[.agg #[.bool nR, .slice AR kR cR, .slice BR jR dR], .bool true]) (by simp [results, Tryz.results42, go_sem, c0, c1, c2]) rfl ⟨_, rfl, ⟨_, rfl, (RV.to hQ hq9.out)⟩, HQ⟩
        · skip
          obtain ⟨sa, hsa⟩ : ∃ sa, ByteArray.mk (qtext (mkRat z (dn a))).toArray = sa := ⟨_, rfl⟩
          have hsne : ¬ sa.toList = s.toList := by
            intro e9
            refine htq ?_
            rw [← eS.out, ← hsa, ByteArray.toList_mk, ByteArray.toList_mk] at e9
            exact e9
          replace hsa := Lib.hid hsa
          obtain ⟨hq9, ht9⟩ := (show ReadsQ l 0 false from by rw [hel.out]; exact reads_no2 hz9.out ha9.out hno (fun _ _ => hel.out ▸ htq)).one hQ
          subst ht9
          replace hq9 := Lib.hid hq9
          refine wp_region_calm 12 [] ([fun vq _ => vq = .bool true,
              fun vq _ => vq = .bool false,
              fun vq _ => vq = .bool false,
              fun vq _ => vq = .bool true,
              fun vq _ => vq = .bool false,
              fun vq _ => vq = .bool false,
              fun vq _ => vq = .bool false,
              fun vq wq => RV wq vq ((mkRat z (dn a))),
              fun vq _ => vq = .string sa,
              fun vq _ => vq = .string s,
              fun vq _ => vq = .bool true,
              fun vq _ => vq = .bool true]) (by kernel_rfl) (by decide) ?_ ?_ ?_
          · intro j hj; cases hj
          · refine po rfl (fun lq aq wq hk hr K hK => ?_) ?_
            · have B8 : ev aq (.tmp 8) = .bool true := hk.base 8 (by kernel_rfl) rfl
              exact vc hK (by go_simp) (fun w2 h2 => rfl)
            refine po rfl (fun lq aq wq hk hr K hK => ?_) ?_
            · have E0 : ev aq (.tmp 34) = .bool true := hk.dc hr 0 (by kernel_rfl) fun _ _ h => h
              exact vc hK (by go_simp) (fun w2 h2 => rfl)
            refine po rfl (fun lq aq wq hk hr K hK => ?_) ?_
            · have E1 : ev aq (.tmp 35) = .bool false := hk.dc hr 1 (by kernel_rfl) fun _ _ h => h
              exact vc hK (by go_simp) (fun w2 h2 => rfl)
            refine pl 2 36 false rfl (by kernel_rfl) (fun _ _ h => h) (fun lq aq wq hk hr K hK => ?_) ?_
            · have B10 : ev aq (.tmp 10) = .bool true := hk.base 10 (by kernel_rfl) rfl
              exact vc hK (by go_simp) (fun w2 h2 => rfl)
            refine pl 2 36 false rfl (by kernel_rfl) (fun _ _ h => h) (fun lq aq wq hk hr K hK => ?_) ?_
            · have E3 : ev aq (.tmp 37) = .bool true := hk.dc hr 3 (by kernel_rfl) fun _ _ h => h
              exact vc hK (by go_simp) (fun w2 h2 => rfl)
            refine po rfl (fun lq aq wq hk hr K hK => ?_) ?_
            · have E2 : ev aq (.tmp 36) = .bool false := hk.dc hr 2 (by kernel_rfl) fun _ _ h => h
              have E4 : ev aq (.tmp 38) = .bool false := hk.dc hr 4 (by kernel_rfl) fun _ _ h => h
              exact vc hK (by go_simp) (fun w2 h2 => rfl)
            refine po rfl (fun lq aq wq hk hr K hK => ?_) ?_
            · have E5 : ev aq (.tmp 39) = .bool false := hk.dc hr 5 (by kernel_rfl) fun _ _ h => h
              exact vc hK (by go_simp) (fun w2 h2 => rfl)
            refine pl 6 40 false rfl (by kernel_rfl) (fun _ _ h => h) (fun lq aq wq hk hr K hK => ?_) ?_
            · have B11 : ev aq (.tmp 11) = .pointer (some ⟨ba, 0, none⟩) := hk.base 11 (by kernel_rfl) rfl
              have hb : Below _ _ _ := hk.ext
              exact vc hK (op_load3 11 _ B11 (Da.out.below hb)) (fun w2 h2 => RV.grow ⟨_, _, _, _, _, _, _, rfl, (SNa.out.below hb), (SDa.out.below hb), hda⟩ h2)
            refine pl 6 40 false rfl (by kernel_rfl) (fun _ _ h => h) (fun lq aq wq hk hr K hK => ?_) ?_
            · obtain ⟨v7, E7, r7⟩ := hk.dp hr 7 41 (by kernel_rfl)
              have r7 : RV wq v7 ((mkRat z (dn a))) := r7
              exact yc hK (by go_simp) (qtext_v wq (r7).qv hsa.out) (fun u w1 hu w2 h2 => hu)
            refine pl 6 40 false rfl (by kernel_rfl) (fun _ _ h => h) (fun lq aq wq hk hr K hK => ?_) ?_
            · have B0 : ev aq (.tmp 0) = .string s := hk.base 0 (by kernel_rfl) rfl
              exact vc hK (by go_simp) (fun w2 h2 => rfl)
            refine pl 6 40 false rfl (by kernel_rfl) (fun _ _ h => h) (fun lq aq wq hk hr K hK => ?_) ?_
            · have E8 : ev aq (.tmp 42) = .string sa := hk.dc hr 8 (by kernel_rfl) fun _ _ h => h
              have E9 : ev aq (.tmp 43) = .string s := hk.dc hr 9 (by kernel_rfl) fun _ _ h => h
              exact vc hK (by first | (go_simp; done) | (go_simp; exact hsne)) (fun w2 h2 => rfl)
            refine po rfl (fun lq aq wq hk hr K hK => ?_) ?_
            · have E6 : ev aq (.tmp 40) = .bool false := hk.dc hr 6 (by kernel_rfl) fun _ _ h => h
              have E10 : ev aq (.tmp 44) = .bool true := hk.dc hr 10 (by kernel_rfl) fun _ _ h => h
              exact vc hK (by go_simp) (fun w2 h2 => rfl)
            exact AllOps.nil
          intro V x9 hG hV hap
          have r11 : (V 11) = .bool true := hV 11 (by decide)
          clear hV hap
          simp only [List.take_succ_cons, List.take_nil, List.drop_succ_cons, List.drop_nil, putAll, Act.put, List.setIfInBounds_toArray, List.set_cons_zero, List.set_cons_succ]
          have hb := (show Below _ _ _ from hG)
          replace DR := Lib.hid (DR.out.below hb)
          replace Dn := Lib.hid (Dn.out.below hb)
          replace SNn := Lib.hid (SNn.out.below hb)
          replace Da := Lib.hid (Da.out.below hb)
          replace SNa := Lib.hid (SNa.out.below hb)
          replace SDa := Lib.hid (SDa.out.below hb)
          replace Qe := Lib.hid (Qe.out.below hb)
          replace HB := Lib.hid (HB.out.trans (Below.mono hb HB.out.size))
          clear hb hG
          rw [r11]
          clear r11
          go_upto_region 8 with fail
          refine wp_region_calm 2 [] ([fun vq wq => QV wq vq ((0 : Rat)),
              fun vq wq => RV wq vq ((0 : Rat))]) (by kernel_rfl) (by decide) ?_ ?_ ?_
          · intro j hj; cases hj
          · refine po rfl (fun lq aq wq hk hr K hK => ?_) ?_
            · exact vc hK (by go_simp) (fun w2 h2 => (QV.zero _).grow h2)
            refine po rfl (fun lq aq wq hk hr K hK => ?_) ?_
            · obtain ⟨v0, E0, r0⟩ := hk.dp hr 0 46 (by kernel_rfl)
              have r0 : QV wq v0 ((0 : Rat)) := r0
              exact yc hK (by go_simp) (made_v wq r0) (fun u w1 hu w2 h2 => (hu).grow h2)
            exact AllOps.nil
          intro V x10 hG hV hap
          have r1 : RV x10 (V 1) ((0 : Rat)) := hV 1 (by decide)
          clear hV hap
          simp only [List.take_succ_cons, List.take_zero, List.drop_succ_cons, List.drop_zero, putAll, Act.put, List.setIfInBounds_toArray, List.set_cons_zero, List.set_cons_succ]
          have hb := (show Below _ _ _ from hG)
          obtain ⟨nR, AR, kR, cR, BR, jR, dR, y9, eR, ey, hQ, HQ, c0, c1, c2⟩ := ret3 r1 (DR.out.below hb) (HB.out.trans (Below.mono hb HB.out.size)) (by omega)
          simp only [eR]
          refine wpList_of_skip rfl (op_store3 2 47 _ rfl rfl (DR.out.below hb)) ?_
          rw [ey]
          clear eR ey hb hG HB DR
          go_wp2_with fail
          refine bodyPost_ret (v := .tuple #[.agg #[.bool nR, .slice AR kR cR, .slice BR jR dR], .bool false]) (by simp [results, Tryz.results42, go_sem, c0, c1, c2]) rfl ⟨_, rfl, ⟨_, rfl, (RV.to hQ hq9.out)⟩, HQ⟩
end Go.Proofs.YtbippecchpaleaaGreatDoor
