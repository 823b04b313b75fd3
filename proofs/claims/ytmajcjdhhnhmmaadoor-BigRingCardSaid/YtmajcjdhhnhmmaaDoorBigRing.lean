import Derived.Test.YtmajcjdhhnhmmaaDoorGVal
import Derived.Test.YtmajcjdhhnhmmaaDoorGKept
import Derived.Test.YtmajcjdhhnhmmaaDoorBigWorks
import Derived.Test.YtmajcjdhhnhmmaaDoorBigAll
import Derived.Test.YtmajcjdhhnhmmaaDoorBigRingL
/- litmuslaw02.BigRing returns true. -/
namespace Go.Proofs.YtmajcjdhhnhmmaaDoor
open Go.RowKit Go.Num Go.Kp
attribute [local go_sem] Oper.semAt_some u64_mask ev_const ev_func ev_global
/-- Two cells that lie there. -/
def Box2S (w : World) (b o : Nat) (x y : Value) : Prop := w.cell? ⟨b, o, none⟩ = some x ∧ w.cell? ⟨b, o + 1, none⟩ = some y ∧ b < w.heap.size
theorem Box2S.below {w w' : World} {b o : Nat} {x y : Value} (h : Box2S w b o x y) (hb : Below w.heap.size w w') : Box2S w' b o x y := ⟨(hb.cell h.2.2).trans h.1, (hb.cell h.2.2).trans h.2.1, Nat.lt_of_lt_of_le h.2.2 hb.size⟩
set_option maxHeartbeats 16000000 in
set_option maxRecDepth 100000 in
theorem bigRing_any (w : World) (n0 : Bool) (m0 : Value) (l0 : List Nat) (n1 : Bool) (m1 : Value) (l1 : List Nat) (n2 : Bool) (m2 : Value) (l2 : List Nat) (A : Option Addr) (d : Nat) (R : List (Bool × Value × List Nat)) (h0 : Arg encU w m0 l0) (hl0 : Lim l0) (hn0 : l0.length ≤ 9223372036854775807) (h1 : Arg encU w m1 l1) (hl1 : Lim l1) (hn1 : l1.length ≤ 9223372036854775807) (h2 : Arg encU w m2 l2) (hl2 : Lim l2) (hn2 : l2.length ≤ 9223372036854775807) (hR : CellsI w A R) (hRl : R.length ≤ 9223372036854775807) :
    Calls Tryd.prog 5 #[.agg #[.bool n0, m0, .bool n1, m1, .bool n2, m2], .slice A R.length d] w fun e w' => e = .returned (.bool true) ∧ Below w.heap.size w w' := by
  go_enter Tryd.func5, Tryd.ntmps5
  have HR := Lib.hid hR
  have hlim := Lib.hid (CellsI.lim hR)
  obtain ⟨rl, hrl⟩ : ∃ n, R.length = n := ⟨_, rfl⟩
  rw [hrl] at hRl ⊢
  replace hrl := Lib.hid hrl
  clear hR
  obtain ⟨a, ha⟩ : ∃ z, sg n0 (val (l0.take 10)) = z := ⟨_, rfl⟩
  have hka : szz a ≤ 10 := ha ▸ few_szz n0 10 hl0
  obtain ⟨b, hb⟩ : ∃ z, sg n1 (val (l1.take 10)) = z := ⟨_, rfl⟩
  have hkb : szz b ≤ 10 := hb ▸ few_szz n1 10 hl1
  obtain ⟨c, hc⟩ : ∃ z, sg n2 (val (l2.take 10)) = z := ⟨_, rfl⟩
  have hkc : szz c ≤ 10 := hc ▸ few_szz n2 10 hl2
  have HB0 : Hid (Below w.heap.size w (w.alloc (.cells #[.bool n0, m0, .bool n1, m1, .bool n2, m2] 44))) := Lib.hid ((Below.refl _ w).alloc (Nat.le_refl _) _)
  have X0 := Lib.hid (BoxN.new w 44 #[.bool n0, m0, .bool n1, m1, .bool n2, m2])
  go_wp2_with fail
  refine (works_any _).mono ?_
  rintro e x0 ⟨rfl, q0⟩
  have HB := Lib.hid (HB0.out.trans (Below.mono q0 HB0.out.size))
  have X := Lib.hid (BoxN.below X0.out q0)
  replace h0 := h0.below HB.out
  replace h1 := h1.below HB.out
  replace h2 := h2.below HB.out
  clear HB0 X0 q0
  replace HR := Lib.hid (HR.out.below HB.out)
  go_upto_region 3 with fail
  refine wp_region_going 12 [9, 10, 11] ([fun vq _ => vq = .pointer (some ⟨w.heap.size, 0, none⟩),
      fun vq _ => vq = .agg #[.bool n0, m0],
      fun vq wq => WV x0 vq a,
      fun vq _ => vq = .pointer (some ⟨w.heap.size, 2, none⟩),
      fun vq _ => vq = .agg #[.bool n1, m1],
      fun vq wq => WV x0 vq b,
      fun vq _ => vq = .pointer (some ⟨w.heap.size, 4, none⟩),
      fun vq _ => vq = .agg #[.bool n2, m2],
      fun vq wq => WV x0 vq c,
      fun vq wq => ∃ bq, vq = .pointer (some ⟨bq, 0, none⟩) ∧ Box2 wq bq 24 (.bool false) (.slice none 0 0) ∧ (x0).heap.size ≤ bq,
      fun vq wq => ∃ bq, vq = .pointer (some ⟨bq, 0, none⟩) ∧ Box2 wq bq 24 (.bool false) (.slice none 0 0) ∧ (x0).heap.size ≤ bq,
      fun vq wq => ∃ bq, vq = .pointer (some ⟨bq, 0, none⟩) ∧ Box2 wq bq 24 (.bool false) (.slice none 0 0) ∧ (x0).heap.size ≤ bq]) (by kernel_rfl) (by kernel_rfl) (by decide) (by kernel_rfl) (by kernel_rfl) ?hF ?steps ?fin
  case hF =>
    intro j hj v w h
    simp only [List.mem_cons, List.not_mem_nil, or_false] at hj
    rcases hj with rfl | rfl | rfl
    all_goals (obtain ⟨b, rfl, hB, _⟩ := h; exact hB.lt)
  case steps =>
    refine AllOps.cons (Does.plain rfl fun lq aq wq hk hr K hK => ?_) ?_
    · have B2 : ev aq (.tmp 2) = .pointer (some ⟨w.heap.size, 0, none⟩) := hk.base 2 (by kernel_rfl) rfl
      exact wp_of_value (by go_simp) (hK.out _ _ (Grows.refl _) (fun w2 h2 => rfl) (fun h => absurd h (by decide)))
    refine AllOps.cons (Does.plain rfl fun lq aq wq hk hr K hK => ?_) ?_
    · obtain ⟨v0, E0, -, r0⟩ := hk.dep hr 0 13 (by kernel_rfl) (by kernel_rfl)
      replace E0 : ev aq (.tmp 13) = .pointer (some ⟨w.heap.size, 0, none⟩) := E0.trans (r0 wq (Grows.refl wq))
      have hb := grows_of hk.ext
      have hb := grows_of hk.ext
      have c0 := (BoxN.below X.out hb).cell 0 rfl
      have c1 := (BoxN.below X.out hb).cell 1 rfl
      exact wp_of_value (by go_simp) (hK.out _ _ (Grows.refl _) (fun w2 h2 => rfl) (fun h => absurd h (by decide)))
    refine AllOps.cons (Does.plain rfl fun lq aq wq hk hr K hK => ?_) ?_
    · obtain ⟨v1, E1, -, r1⟩ := hk.dep hr 1 14 (by kernel_rfl) (by kernel_rfl)
      replace E1 : ev aq (.tmp 14) = .agg #[.bool n0, m0] := E1.trans (r1 wq (Grows.refl wq))
      refine wp_of_call (f := 13) (vs := #[.agg #[.bool n0, m0], .int .i64 10]) (by go_simp) (few_v x0 wq 10 (h0) hl0 hn0 (by decide) ha) ?_
      rintro e w1 ⟨u, rfl, hu, hb⟩
      exact ⟨u, rfl, hK.out _ _ hb (fun w2 h2 => hu) (fun h => absurd h (by decide))⟩
    refine AllOps.cons (Does.plain rfl fun lq aq wq hk hr K hK => ?_) ?_
    · have B2 : ev aq (.tmp 2) = .pointer (some ⟨w.heap.size, 0, none⟩) := hk.base 2 (by kernel_rfl) rfl
      exact wp_of_value (by go_simp) (hK.out _ _ (Grows.refl _) (fun w2 h2 => rfl) (fun h => absurd h (by decide)))
    refine AllOps.cons (Does.plain rfl fun lq aq wq hk hr K hK => ?_) ?_
    · obtain ⟨v3, E3, -, r3⟩ := hk.dep hr 3 16 (by kernel_rfl) (by kernel_rfl)
      replace E3 : ev aq (.tmp 16) = .pointer (some ⟨w.heap.size, 2, none⟩) := E3.trans (r3 wq (Grows.refl wq))
      have hb := grows_of hk.ext
      have hb := grows_of hk.ext
      have c0 := (BoxN.below X.out hb).cell 2 rfl
      have c1 := (BoxN.below X.out hb).cell 3 rfl
      exact wp_of_value (by go_simp) (hK.out _ _ (Grows.refl _) (fun w2 h2 => rfl) (fun h => absurd h (by decide)))
    refine AllOps.cons (Does.plain rfl fun lq aq wq hk hr K hK => ?_) ?_
    · obtain ⟨v4, E4, -, r4⟩ := hk.dep hr 4 17 (by kernel_rfl) (by kernel_rfl)
      replace E4 : ev aq (.tmp 17) = .agg #[.bool n1, m1] := E4.trans (r4 wq (Grows.refl wq))
      refine wp_of_call (f := 13) (vs := #[.agg #[.bool n1, m1], .int .i64 10]) (by go_simp) (few_v x0 wq 10 (h1) hl1 hn1 (by decide) hb) ?_
      rintro e w1 ⟨u, rfl, hu, hb⟩
      exact ⟨u, rfl, hK.out _ _ hb (fun w2 h2 => hu) (fun h => absurd h (by decide))⟩
    refine AllOps.cons (Does.plain rfl fun lq aq wq hk hr K hK => ?_) ?_
    · have B2 : ev aq (.tmp 2) = .pointer (some ⟨w.heap.size, 0, none⟩) := hk.base 2 (by kernel_rfl) rfl
      exact wp_of_value (by go_simp) (hK.out _ _ (Grows.refl _) (fun w2 h2 => rfl) (fun h => absurd h (by decide)))
    refine AllOps.cons (Does.plain rfl fun lq aq wq hk hr K hK => ?_) ?_
    · obtain ⟨v6, E6, -, r6⟩ := hk.dep hr 6 19 (by kernel_rfl) (by kernel_rfl)
      replace E6 : ev aq (.tmp 19) = .pointer (some ⟨w.heap.size, 4, none⟩) := E6.trans (r6 wq (Grows.refl wq))
      have hb := grows_of hk.ext
      have hb := grows_of hk.ext
      have c0 := (BoxN.below X.out hb).cell 4 rfl
      have c1 := (BoxN.below X.out hb).cell 5 rfl
      exact wp_of_value (by go_simp) (hK.out _ _ (Grows.refl _) (fun w2 h2 => rfl) (fun h => absurd h (by decide)))
    refine AllOps.cons (Does.plain rfl fun lq aq wq hk hr K hK => ?_) ?_
    · obtain ⟨v7, E7, -, r7⟩ := hk.dep hr 7 20 (by kernel_rfl) (by kernel_rfl)
      replace E7 : ev aq (.tmp 20) = .agg #[.bool n2, m2] := E7.trans (r7 wq (Grows.refl wq))
      refine wp_of_call (f := 13) (vs := #[.agg #[.bool n2, m2], .int .i64 10]) (by go_simp) (few_v x0 wq 10 (h2) hl2 hn2 (by decide) hc) ?_
      rintro e w1 ⟨u, rfl, hu, hb⟩
      exact ⟨u, rfl, hK.out _ _ hb (fun w2 h2 => hu) (fun h => absurd h (by decide))⟩
    refine AllOps.cons (Does.plain rfl fun lq aq wq hk hr K hK => ?_) ?_
    · exact wp_of_value (by go_simp) (hK.out _ _ ((Grows.refl _).alloc _) (fun w2 h2 => ⟨_, rfl, (Box2.new wq 24 _ _).below h2, (grows_of hk.ext).size⟩) (fun _ => Nat.le_refl _))
    refine AllOps.cons (Does.plain rfl fun lq aq wq hk hr K hK => ?_) ?_
    · exact wp_of_value (by go_simp) (hK.out _ _ ((Grows.refl _).alloc _) (fun w2 h2 => ⟨_, rfl, (Box2.new wq 24 _ _).below h2, (grows_of hk.ext).size⟩) (fun _ => Nat.le_refl _))
    refine AllOps.cons (Does.plain rfl fun lq aq wq hk hr K hK => ?_) ?_
    · exact wp_of_value (by go_simp) (hK.out _ _ ((Grows.refl _).alloc _) (fun w2 h2 => ⟨_, rfl, (Box2.new wq 24 _ _).below h2, (grows_of hk.ext).size⟩) (fun _ => Nat.le_refl _))
    exact AllOps.nil
  case fin =>
    intro V x1 hG hV hap
    have r2 : WV x0 (V 2) a := hV 2 (by decide)
    have r5 : WV x0 (V 5) b := hV 5 (by decide)
    have r8 : WV x0 (V 8) c := hV 8 (by decide)
    have r9 : ∃ bq, (V 9) = .pointer (some ⟨bq, 0, none⟩) ∧ Box2 x1 bq 24 (.bool false) (.slice none 0 0) ∧ (x0).heap.size ≤ bq := hV 9 (by decide)
    have r10 : ∃ bq, (V 10) = .pointer (some ⟨bq, 0, none⟩) ∧ Box2 x1 bq 24 (.bool false) (.slice none 0 0) ∧ (x0).heap.size ≤ bq := hV 10 (by decide)
    have r11 : ∃ bq, (V 11) = .pointer (some ⟨bq, 0, none⟩) ∧ Box2 x1 bq 24 (.bool false) (.slice none 0 0) ∧ (x0).heap.size ≤ bq := hV 11 (by decide)
    clear hV
    simp only [List.take_succ_cons, List.take_zero, List.drop_succ_cons, List.drop_zero, putAll, Act.put, List.setIfInBounds_toArray, List.set_cons_zero, List.set_cons_succ]
    have hb := grows_of hG
    obtain ⟨ba, ea, Da, ga⟩ := r9
    obtain ⟨na, Aa, ka, ca, ea', sa⟩ := r2
    obtain ⟨bb, eb, Db, gb⟩ := r10
    obtain ⟨nb, Ab, kb, cb, eb', sb⟩ := r5
    obtain ⟨bc, ec, Dc, gc⟩ := r11
    obtain ⟨nc, Ac, kc, cc, ec', sc⟩ := r8
    have nab : ba ≠ bb := by
      have h := hap 9 10 (by decide) (by decide) (by decide) (by decide) (by decide) rfl rfl
      rw [ea, eb] at h
      exact h
    have nac : ba ≠ bc := by
      have h := hap 9 11 (by decide) (by decide) (by decide) (by decide) (by decide) rfl rfl
      rw [ea, ec] at h
      exact h
    have nbc : bb ≠ bc := by
      have h := hap 10 11 (by decide) (by decide) (by decide) (by decide) (by decide) rfl rfl
      rw [eb, ec] at h
      exact h
    simp only [ea, ea', eb, eb', ec, ec']
    clear hap ea ea' eb eb' ec ec'
    refine wpList_of_skip rfl (op_store 5 15 _ rfl rfl Da) ?_
    refine wpList_of_skip rfl (op_store 6 18 _ rfl rfl (put2_far Db (Ne.symm nab))) ?_
    refine wpList_of_skip rfl (op_store 7 21 _ rfl rfl (put2_far (put2_far Dc (Ne.symm nac)) (Ne.symm nbc))) ?_
    obtain ⟨hB, Pa, Pb, Pc⟩ := put2_three (na := na) (nb := nb) (nc := nc) (ma := .slice Aa ka ca) (mb := .slice Ab kb cb) (mc := .slice Ac kc cc) hb Da Db Dc ga gb gc nab nac nbc
    generalize put2 (put2 (put2 x1 ba (.bool na) (.slice Aa ka ca)) bb (.bool nb) (.slice Ab kb cb)) bc (.bool nc) (.slice Ac kc cc) = y1 at *
    replace HB := Lib.hid (HB.out.trans (Below.mono hB HB.out.size))
    replace HR := Lib.hid (HR.out.below hB)
    have Sa := Lib.hid (sa.below hB)
    replace Da := Lib.hid Pa
    have Sb := Lib.hid (sb.below hB)
    replace Db := Lib.hid Pb
    have Sc := Lib.hid (sc.below hB)
    replace Dc := Lib.hid Pc
    clear hb hG hB h0 h1 h2 hl0 hl1 hl2 hn0 hn1 hn2 X sa sb sc Pa Pb Pc ga gb gc nab nac nbc
    go_upto_region 4 with fail
    refine wp_region_going 79 [] ([fun vq wq => WV wq vq a,
        fun vq wq => WV wq vq b,
        fun vq wq => RowV wq vq [a, b],
        fun vq wq => ZV wq vq ((a + b)),
        fun vq wq => WV wq vq b,
        fun vq wq => WV wq vq a,
        fun vq wq => RowV wq vq [b, a],
        fun vq wq => ZV wq vq ((b + a)),
        fun vq _ => vq = .bool true,
        fun vq _ => vq = .bool false,
        fun vq _ => vq = .bool false,
        fun vq wq => WV wq vq a,
        fun vq wq => WV wq vq b,
        fun vq wq => RowV wq vq [a, b],
        fun vq wq => ZV wq vq ((a * b)),
        fun vq wq => WV wq vq b,
        fun vq wq => WV wq vq a,
        fun vq wq => RowV wq vq [b, a],
        fun vq wq => ZV wq vq ((b * a)),
        fun vq _ => vq = .bool true,
        fun vq _ => vq = .bool false,
        fun vq _ => vq = .bool false,
        fun vq _ => vq = .bool false,
        fun vq wq => WV wq vq a,
        fun vq wq => WV wq vq b,
        fun vq wq => RowV wq vq [a, b],
        fun vq wq => ZV wq vq ((a + b)),
        fun vq wq => WV wq vq c,
        fun vq wq => RowV wq vq [(a + b), c],
        fun vq wq => ZV wq vq (((a + b) + c)),
        fun vq wq => WV wq vq a,
        fun vq wq => WV wq vq b,
        fun vq wq => WV wq vq c,
        fun vq wq => RowV wq vq [b, c],
        fun vq wq => ZV wq vq ((b + c)),
        fun vq wq => RowV wq vq [a, (b + c)],
        fun vq wq => ZV wq vq ((a + (b + c))),
        fun vq _ => vq = .bool true,
        fun vq _ => vq = .bool false,
        fun vq _ => vq = .bool false,
        fun vq _ => vq = .bool false,
        fun vq wq => WV wq vq a,
        fun vq wq => WV wq vq b,
        fun vq wq => RowV wq vq [a, b],
        fun vq wq => ZV wq vq ((a * b)),
        fun vq wq => WV wq vq c,
        fun vq wq => RowV wq vq [(a * b), c],
        fun vq wq => ZV wq vq (((a * b) * c)),
        fun vq wq => WV wq vq a,
        fun vq wq => WV wq vq b,
        fun vq wq => WV wq vq c,
        fun vq wq => RowV wq vq [b, c],
        fun vq wq => ZV wq vq ((b * c)),
        fun vq wq => RowV wq vq [a, (b * c)],
        fun vq wq => ZV wq vq ((a * (b * c))),
        fun vq _ => vq = .bool true,
        fun vq _ => vq = .bool false,
        fun vq _ => vq = .bool false,
        fun vq _ => vq = .bool false,
        fun vq wq => WV wq vq a,
        fun vq wq => WV wq vq b,
        fun vq wq => WV wq vq c,
        fun vq wq => RowV wq vq [b, c],
        fun vq wq => ZV wq vq ((b + c)),
        fun vq wq => RowV wq vq [a, (b + c)],
        fun vq wq => ZV wq vq ((a * (b + c))),
        fun vq wq => WV wq vq a,
        fun vq wq => WV wq vq b,
        fun vq wq => RowV wq vq [a, b],
        fun vq wq => ZV wq vq ((a * b)),
        fun vq wq => WV wq vq a,
        fun vq wq => WV wq vq c,
        fun vq wq => RowV wq vq [a, c],
        fun vq wq => ZV wq vq ((a * c)),
        fun vq wq => RowV wq vq [(a * b), (a * c)],
        fun vq wq => ZV wq vq (((a * b) + (a * c))),
        fun vq _ => vq = .bool true,
        fun vq _ => vq = .bool false,
        fun vq _ => vq = .bool false]) (by kernel_rfl) (by kernel_rfl) (by decide) (by kernel_rfl) (by kernel_rfl) ?hF ?steps ?fin
    case hF =>
      intro j hj; cases hj
    case steps =>
      refine AllOps.cons (Does.plain rfl fun lq aq wq hk hr K hK => ?_) ?_
      · have B5 : ev aq (.tmp 5) = .pointer (some ⟨ba, 0, none⟩) := hk.base 5 (by kernel_rfl) rfl
        have hb := grows_of hk.ext
        exact wp_of_value (op_load 5 _ B5 (Box2.below Da.out hb)) (hK.out _ _ (Grows.refl _) (fun w2 h2 => ⟨_, _, _, _, rfl, (Sa.out.below hb).below h2⟩) (fun h => absurd h (by decide)))
      refine AllOps.cons (Does.plain rfl fun lq aq wq hk hr K hK => ?_) ?_
      · have B6 : ev aq (.tmp 6) = .pointer (some ⟨bb, 0, none⟩) := hk.base 6 (by kernel_rfl) rfl
        have hb := grows_of hk.ext
        exact wp_of_value (op_load 6 _ B6 (Box2.below Db.out hb)) (hK.out _ _ (Grows.refl _) (fun w2 h2 => ⟨_, _, _, _, rfl, (Sb.out.below hb).below h2⟩) (fun h => absurd h (by decide)))
      refine AllOps.cons (Does.plain rfl fun lq aq wq hk hr K hK => ?_) ?_
      · obtain ⟨v0, E0, -, r0⟩ := hk.dep hr 0 22 (by kernel_rfl) (by kernel_rfl)
        have r0 : WV wq v0 a := r0 wq (Grows.refl wq)
        obtain ⟨n0, A0, k0, c0, rfl, s0⟩ := r0
        obtain ⟨v1, E1, -, r1⟩ := hk.dep hr 1 23 (by kernel_rfl) (by kernel_rfl)
        have r1 : WV wq v1 b := r1 wq (Grows.refl wq)
        obtain ⟨n1, A1, k1, c1, rfl, s1⟩ := r1
        exact wp_of_value (op_row2 22 23 E0 E1) (hK.out _ _ ((Grows.refl _).alloc _) (fun w2 h2 => (RowV.two s0 s1).grow h2) (fun h => absurd h (by decide)))
      refine AllOps.cons (Does.plain rfl fun lq aq wq hk hr K hK => ?_) ?_
      · obtain ⟨v2, E2, -, r2⟩ := hk.dep hr 2 24 (by kernel_rfl) (by kernel_rfl)
        have r2 : RowV wq v2 [a, b] := r2 wq (Grows.refl wq)
        refine wp_of_call (f := 27) (vs := #[v2]) (by go_simp) (add2_v wq r2 (Nat.le_trans hka (by decide)) (Nat.le_trans (szz_add hka hkb) (by decide))) ?_
        rintro e w1 ⟨u, rfl, hu, hb⟩
        exact ⟨u, rfl, hK.out _ _ hb (fun w2 h2 => (hu).grow h2) (fun h => absurd h (by decide))⟩
      refine AllOps.cons (Does.plain rfl fun lq aq wq hk hr K hK => ?_) ?_
      · have B6 : ev aq (.tmp 6) = .pointer (some ⟨bb, 0, none⟩) := hk.base 6 (by kernel_rfl) rfl
        have hb := grows_of hk.ext
        exact wp_of_value (op_load 6 _ B6 (Box2.below Db.out hb)) (hK.out _ _ (Grows.refl _) (fun w2 h2 => ⟨_, _, _, _, rfl, (Sb.out.below hb).below h2⟩) (fun h => absurd h (by decide)))
      refine AllOps.cons (Does.plain rfl fun lq aq wq hk hr K hK => ?_) ?_
      · have B5 : ev aq (.tmp 5) = .pointer (some ⟨ba, 0, none⟩) := hk.base 5 (by kernel_rfl) rfl
        have hb := grows_of hk.ext
        exact wp_of_value (op_load 5 _ B5 (Box2.below Da.out hb)) (hK.out _ _ (Grows.refl _) (fun w2 h2 => ⟨_, _, _, _, rfl, (Sa.out.below hb).below h2⟩) (fun h => absurd h (by decide)))
      refine AllOps.cons (Does.plain rfl fun lq aq wq hk hr K hK => ?_) ?_
      · obtain ⟨v4, E4, -, r4⟩ := hk.dep hr 4 26 (by kernel_rfl) (by kernel_rfl)
        have r4 : WV wq v4 b := r4 wq (Grows.refl wq)
        obtain ⟨n4, A4, k4, c4, rfl, s4⟩ := r4
        obtain ⟨v5, E5, -, r5⟩ := hk.dep hr 5 27 (by kernel_rfl) (by kernel_rfl)
        have r5 : WV wq v5 a := r5 wq (Grows.refl wq)
        obtain ⟨n5, A5, k5, c5, rfl, s5⟩ := r5
        exact wp_of_value (op_row2 26 27 E4 E5) (hK.out _ _ ((Grows.refl _).alloc _) (fun w2 h2 => (RowV.two s4 s5).grow h2) (fun h => absurd h (by decide)))
      refine AllOps.cons (Does.plain rfl fun lq aq wq hk hr K hK => ?_) ?_
      · obtain ⟨v6, E6, -, r6⟩ := hk.dep hr 6 28 (by kernel_rfl) (by kernel_rfl)
        have r6 : RowV wq v6 [b, a] := r6 wq (Grows.refl wq)
        refine wp_of_call (f := 27) (vs := #[v6]) (by go_simp) (add2_v wq r6 (Nat.le_trans hkb (by decide)) (Nat.le_trans (szz_add hkb hka) (by decide))) ?_
        rintro e w1 ⟨u, rfl, hu, hb⟩
        exact ⟨u, rfl, hK.out _ _ hb (fun w2 h2 => (hu).grow h2) (fun h => absurd h (by decide))⟩
      refine AllOps.cons (Does.plain rfl fun lq aq wq hk hr K hK => ?_) ?_
      · obtain ⟨v3, E3, -, r3⟩ := hk.dep hr 3 25 (by kernel_rfl) (by kernel_rfl)
        have r3 : ZV wq v3 ((a + b)) := r3 wq (Grows.refl wq)
        obtain ⟨v7, E7, -, r7⟩ := hk.dep hr 7 29 (by kernel_rfl) (by kernel_rfl)
        have r7 : ZV wq v7 ((b + a)) := r7 wq (Grows.refl wq)
        refine wp_of_call (f := 26) (vs := #[v3, v7]) (by go_simp) (same_v wq r3 r7 (t := true) (decide_eq_true (Int.add_comm a b))) ?_
        rintro e w1 ⟨u, rfl, hu, hb⟩
        exact ⟨u, rfl, hK.out _ _ hb (fun w2 h2 => hu) (fun h => absurd h (by decide))⟩
      refine AllOps.cons (Does.plain rfl fun lq aq wq hk hr K hK => ?_) ?_
      · obtain ⟨v8, E8, -, r8⟩ := hk.dep hr 8 30 (by kernel_rfl) (by kernel_rfl)
        replace E8 : ev aq (.tmp 30) = .bool true := E8.trans (r8 wq (Grows.refl wq))
        exact wp_of_value (by go_simp) (hK.out _ _ (Grows.refl _) (fun w2 h2 => rfl) (fun h => absurd h (by decide)))
      refine AllOps.cons (Does.plain rfl fun lq aq wq hk hr K hK => ?_) ?_
      · obtain ⟨v9, E9, -, r9⟩ := hk.dep hr 9 31 (by kernel_rfl) (by kernel_rfl)
        replace E9 : ev aq (.tmp 31) = .bool false := E9.trans (r9 wq (Grows.refl wq))
        exact wp_of_value (by go_simp) (hK.out _ _ (Grows.refl _) (fun w2 h2 => rfl) (fun h => absurd h (by decide)))
      refine AllOps.cons (Does.lets (g := 10) (d := 32) (t := false) rfl (by kernel_rfl) (by kernel_rfl) (fun vq wq h => h wq (Grows.refl wq)) fun lq aq wq hk hr K hK => ?_) ?_
      · have B5 : ev aq (.tmp 5) = .pointer (some ⟨ba, 0, none⟩) := hk.base 5 (by kernel_rfl) rfl
        have hb := grows_of hk.ext
        exact wp_of_value (op_load 5 _ B5 (Box2.below Da.out hb)) (hK.out _ _ (Grows.refl _) (fun w2 h2 => ⟨_, _, _, _, rfl, (Sa.out.below hb).below h2⟩) (fun h => absurd h (by decide)))
      refine AllOps.cons (Does.lets (g := 10) (d := 32) (t := false) rfl (by kernel_rfl) (by kernel_rfl) (fun vq wq h => h wq (Grows.refl wq)) fun lq aq wq hk hr K hK => ?_) ?_
      · have B6 : ev aq (.tmp 6) = .pointer (some ⟨bb, 0, none⟩) := hk.base 6 (by kernel_rfl) rfl
        have hb := grows_of hk.ext
        exact wp_of_value (op_load 6 _ B6 (Box2.below Db.out hb)) (hK.out _ _ (Grows.refl _) (fun w2 h2 => ⟨_, _, _, _, rfl, (Sb.out.below hb).below h2⟩) (fun h => absurd h (by decide)))
      refine AllOps.cons (Does.lets (g := 10) (d := 32) (t := false) rfl (by kernel_rfl) (by kernel_rfl) (fun vq wq h => h wq (Grows.refl wq)) fun lq aq wq hk hr K hK => ?_) ?_
      · obtain ⟨v11, E11, -, r11⟩ := hk.dep hr 11 33 (by kernel_rfl) (by kernel_rfl)
        have r11 : WV wq v11 a := r11 wq (Grows.refl wq)
        obtain ⟨n11, A11, k11, c11, rfl, s11⟩ := r11
        obtain ⟨v12, E12, -, r12⟩ := hk.dep hr 12 34 (by kernel_rfl) (by kernel_rfl)
        have r12 : WV wq v12 b := r12 wq (Grows.refl wq)
        obtain ⟨n12, A12, k12, c12, rfl, s12⟩ := r12
        exact wp_of_value (op_row2 33 34 E11 E12) (hK.out _ _ ((Grows.refl _).alloc _) (fun w2 h2 => (RowV.two s11 s12).grow h2) (fun h => absurd h (by decide)))
      refine AllOps.cons (Does.lets (g := 10) (d := 32) (t := false) rfl (by kernel_rfl) (by kernel_rfl) (fun vq wq h => h wq (Grows.refl wq)) fun lq aq wq hk hr K hK => ?_) ?_
      · obtain ⟨v13, E13, -, r13⟩ := hk.dep hr 13 35 (by kernel_rfl) (by kernel_rfl)
        have r13 : RowV wq v13 [a, b] := r13 wq (Grows.refl wq)
        refine wp_of_call (f := 28) (vs := #[v13]) (by go_simp) (mul2_v wq r13 (Nat.le_trans hka (by decide)) (Nat.le_trans (szz_mul hka hkb) (by decide))) ?_
        rintro e w1 ⟨u, rfl, hu, hb⟩
        exact ⟨u, rfl, hK.out _ _ hb (fun w2 h2 => (hu).grow h2) (fun h => absurd h (by decide))⟩
      refine AllOps.cons (Does.lets (g := 10) (d := 32) (t := false) rfl (by kernel_rfl) (by kernel_rfl) (fun vq wq h => h wq (Grows.refl wq)) fun lq aq wq hk hr K hK => ?_) ?_
      · have B6 : ev aq (.tmp 6) = .pointer (some ⟨bb, 0, none⟩) := hk.base 6 (by kernel_rfl) rfl
        have hb := grows_of hk.ext
        exact wp_of_value (op_load 6 _ B6 (Box2.below Db.out hb)) (hK.out _ _ (Grows.refl _) (fun w2 h2 => ⟨_, _, _, _, rfl, (Sb.out.below hb).below h2⟩) (fun h => absurd h (by decide)))
      refine AllOps.cons (Does.lets (g := 10) (d := 32) (t := false) rfl (by kernel_rfl) (by kernel_rfl) (fun vq wq h => h wq (Grows.refl wq)) fun lq aq wq hk hr K hK => ?_) ?_
      · have B5 : ev aq (.tmp 5) = .pointer (some ⟨ba, 0, none⟩) := hk.base 5 (by kernel_rfl) rfl
        have hb := grows_of hk.ext
        exact wp_of_value (op_load 5 _ B5 (Box2.below Da.out hb)) (hK.out _ _ (Grows.refl _) (fun w2 h2 => ⟨_, _, _, _, rfl, (Sa.out.below hb).below h2⟩) (fun h => absurd h (by decide)))
      refine AllOps.cons (Does.lets (g := 10) (d := 32) (t := false) rfl (by kernel_rfl) (by kernel_rfl) (fun vq wq h => h wq (Grows.refl wq)) fun lq aq wq hk hr K hK => ?_) ?_
      · obtain ⟨v15, E15, -, r15⟩ := hk.dep hr 15 37 (by kernel_rfl) (by kernel_rfl)
        have r15 : WV wq v15 b := r15 wq (Grows.refl wq)
        obtain ⟨n15, A15, k15, c15, rfl, s15⟩ := r15
        obtain ⟨v16, E16, -, r16⟩ := hk.dep hr 16 38 (by kernel_rfl) (by kernel_rfl)
        have r16 : WV wq v16 a := r16 wq (Grows.refl wq)
        obtain ⟨n16, A16, k16, c16, rfl, s16⟩ := r16
        exact wp_of_value (op_row2 37 38 E15 E16) (hK.out _ _ ((Grows.refl _).alloc _) (fun w2 h2 => (RowV.two s15 s16).grow h2) (fun h => absurd h (by decide)))
      refine AllOps.cons (Does.lets (g := 10) (d := 32) (t := false) rfl (by kernel_rfl) (by kernel_rfl) (fun vq wq h => h wq (Grows.refl wq)) fun lq aq wq hk hr K hK => ?_) ?_
      · obtain ⟨v17, E17, -, r17⟩ := hk.dep hr 17 39 (by kernel_rfl) (by kernel_rfl)
        have r17 : RowV wq v17 [b, a] := r17 wq (Grows.refl wq)
        refine wp_of_call (f := 28) (vs := #[v17]) (by go_simp) (mul2_v wq r17 (Nat.le_trans hkb (by decide)) (Nat.le_trans (szz_mul hkb hka) (by decide))) ?_
        rintro e w1 ⟨u, rfl, hu, hb⟩
        exact ⟨u, rfl, hK.out _ _ hb (fun w2 h2 => (hu).grow h2) (fun h => absurd h (by decide))⟩
      refine AllOps.cons (Does.lets (g := 10) (d := 32) (t := false) rfl (by kernel_rfl) (by kernel_rfl) (fun vq wq h => h wq (Grows.refl wq)) fun lq aq wq hk hr K hK => ?_) ?_
      · obtain ⟨v14, E14, -, r14⟩ := hk.dep hr 14 36 (by kernel_rfl) (by kernel_rfl)
        have r14 : ZV wq v14 ((a * b)) := r14 wq (Grows.refl wq)
        obtain ⟨v18, E18, -, r18⟩ := hk.dep hr 18 40 (by kernel_rfl) (by kernel_rfl)
        have r18 : ZV wq v18 ((b * a)) := r18 wq (Grows.refl wq)
        refine wp_of_call (f := 26) (vs := #[v14, v18]) (by go_simp) (same_v wq r14 r18 (t := true) (decide_eq_true (Int.mul_comm a b))) ?_
        rintro e w1 ⟨u, rfl, hu, hb⟩
        exact ⟨u, rfl, hK.out _ _ hb (fun w2 h2 => hu) (fun h => absurd h (by decide))⟩
      refine AllOps.cons (Does.lets (g := 10) (d := 32) (t := false) rfl (by kernel_rfl) (by kernel_rfl) (fun vq wq h => h wq (Grows.refl wq)) fun lq aq wq hk hr K hK => ?_) ?_
      · obtain ⟨v19, E19, -, r19⟩ := hk.dep hr 19 41 (by kernel_rfl) (by kernel_rfl)
        replace E19 : ev aq (.tmp 41) = .bool true := E19.trans (r19 wq (Grows.refl wq))
        exact wp_of_value (by go_simp) (hK.out _ _ (Grows.refl _) (fun w2 h2 => rfl) (fun h => absurd h (by decide)))
      refine AllOps.cons (Does.plain rfl fun lq aq wq hk hr K hK => ?_) ?_
      · obtain ⟨v10, E10, -, r10⟩ := hk.dep hr 10 32 (by kernel_rfl) (by kernel_rfl)
        replace E10 : ev aq (.tmp 32) = .bool false := E10.trans (r10 wq (Grows.refl wq))
        obtain ⟨v20, E20, -, r20⟩ := hk.dep hr 20 42 (by kernel_rfl) (by kernel_rfl)
        replace E20 : ev aq (.tmp 42) = .bool false := E20.trans (r20 wq (Grows.refl wq))
        exact wp_of_value (by go_simp) (hK.out _ _ (Grows.refl _) (fun w2 h2 => rfl) (fun h => absurd h (by decide)))
      refine AllOps.cons (Does.plain rfl fun lq aq wq hk hr K hK => ?_) ?_
      · obtain ⟨v21, E21, -, r21⟩ := hk.dep hr 21 43 (by kernel_rfl) (by kernel_rfl)
        replace E21 : ev aq (.tmp 43) = .bool false := E21.trans (r21 wq (Grows.refl wq))
        exact wp_of_value (by go_simp) (hK.out _ _ (Grows.refl _) (fun w2 h2 => rfl) (fun h => absurd h (by decide)))
      refine AllOps.cons (Does.lets (g := 22) (d := 44) (t := false) rfl (by kernel_rfl) (by kernel_rfl) (fun vq wq h => h wq (Grows.refl wq)) fun lq aq wq hk hr K hK => ?_) ?_
      · have B5 : ev aq (.tmp 5) = .pointer (some ⟨ba, 0, none⟩) := hk.base 5 (by kernel_rfl) rfl
        have hb := grows_of hk.ext
        exact wp_of_value (op_load 5 _ B5 (Box2.below Da.out hb)) (hK.out _ _ (Grows.refl _) (fun w2 h2 => ⟨_, _, _, _, rfl, (Sa.out.below hb).below h2⟩) (fun h => absurd h (by decide)))
      refine AllOps.cons (Does.lets (g := 22) (d := 44) (t := false) rfl (by kernel_rfl) (by kernel_rfl) (fun vq wq h => h wq (Grows.refl wq)) fun lq aq wq hk hr K hK => ?_) ?_
      · have B6 : ev aq (.tmp 6) = .pointer (some ⟨bb, 0, none⟩) := hk.base 6 (by kernel_rfl) rfl
        have hb := grows_of hk.ext
        exact wp_of_value (op_load 6 _ B6 (Box2.below Db.out hb)) (hK.out _ _ (Grows.refl _) (fun w2 h2 => ⟨_, _, _, _, rfl, (Sb.out.below hb).below h2⟩) (fun h => absurd h (by decide)))
      refine AllOps.cons (Does.lets (g := 22) (d := 44) (t := false) rfl (by kernel_rfl) (by kernel_rfl) (fun vq wq h => h wq (Grows.refl wq)) fun lq aq wq hk hr K hK => ?_) ?_
      · obtain ⟨v23, E23, -, r23⟩ := hk.dep hr 23 45 (by kernel_rfl) (by kernel_rfl)
        have r23 : WV wq v23 a := r23 wq (Grows.refl wq)
        obtain ⟨n23, A23, k23, c23, rfl, s23⟩ := r23
        obtain ⟨v24, E24, -, r24⟩ := hk.dep hr 24 46 (by kernel_rfl) (by kernel_rfl)
        have r24 : WV wq v24 b := r24 wq (Grows.refl wq)
        obtain ⟨n24, A24, k24, c24, rfl, s24⟩ := r24
        exact wp_of_value (op_row2 45 46 E23 E24) (hK.out _ _ ((Grows.refl _).alloc _) (fun w2 h2 => (RowV.two s23 s24).grow h2) (fun h => absurd h (by decide)))
      refine AllOps.cons (Does.lets (g := 22) (d := 44) (t := false) rfl (by kernel_rfl) (by kernel_rfl) (fun vq wq h => h wq (Grows.refl wq)) fun lq aq wq hk hr K hK => ?_) ?_
      · obtain ⟨v25, E25, -, r25⟩ := hk.dep hr 25 47 (by kernel_rfl) (by kernel_rfl)
        have r25 : RowV wq v25 [a, b] := r25 wq (Grows.refl wq)
        refine wp_of_call (f := 27) (vs := #[v25]) (by go_simp) (add2_v wq r25 (Nat.le_trans hka (by decide)) (Nat.le_trans (szz_add hka hkb) (by decide))) ?_
        rintro e w1 ⟨u, rfl, hu, hb⟩
        exact ⟨u, rfl, hK.out _ _ hb (fun w2 h2 => (hu).grow h2) (fun h => absurd h (by decide))⟩
      refine AllOps.cons (Does.lets (g := 22) (d := 44) (t := false) rfl (by kernel_rfl) (by kernel_rfl) (fun vq wq h => h wq (Grows.refl wq)) fun lq aq wq hk hr K hK => ?_) ?_
      · have B7 : ev aq (.tmp 7) = .pointer (some ⟨bc, 0, none⟩) := hk.base 7 (by kernel_rfl) rfl
        have hb := grows_of hk.ext
        exact wp_of_value (op_load 7 _ B7 (Box2.below Dc.out hb)) (hK.out _ _ (Grows.refl _) (fun w2 h2 => ⟨_, _, _, _, rfl, (Sc.out.below hb).below h2⟩) (fun h => absurd h (by decide)))
      refine AllOps.cons (Does.lets (g := 22) (d := 44) (t := false) rfl (by kernel_rfl) (by kernel_rfl) (fun vq wq h => h wq (Grows.refl wq)) fun lq aq wq hk hr K hK => ?_) ?_
      · obtain ⟨v26, E26, -, r26⟩ := hk.dep hr 26 48 (by kernel_rfl) (by kernel_rfl)
        have r26 : ZV wq v26 ((a + b)) := r26 wq (Grows.refl wq)
        obtain ⟨n26, A26, k26, c26, rfl, s26⟩ := r26
        obtain ⟨v27, E27, -, r27⟩ := hk.dep hr 27 49 (by kernel_rfl) (by kernel_rfl)
        have r27 : WV wq v27 c := r27 wq (Grows.refl wq)
        obtain ⟨n27, A27, k27, c27, rfl, s27⟩ := r27
        exact wp_of_value (op_row2 48 49 E26 E27) (hK.out _ _ ((Grows.refl _).alloc _) (fun w2 h2 => (RowV.two s26.whole s27).grow h2) (fun h => absurd h (by decide)))
      refine AllOps.cons (Does.lets (g := 22) (d := 44) (t := false) rfl (by kernel_rfl) (by kernel_rfl) (fun vq wq h => h wq (Grows.refl wq)) fun lq aq wq hk hr K hK => ?_) ?_
      · obtain ⟨v28, E28, -, r28⟩ := hk.dep hr 28 50 (by kernel_rfl) (by kernel_rfl)
        have r28 : RowV wq v28 [(a + b), c] := r28 wq (Grows.refl wq)
        refine wp_of_call (f := 27) (vs := #[v28]) (by go_simp) (add2_v wq r28 (Nat.le_trans (szz_add hka hkb) (by decide)) (Nat.le_trans (szz_add (szz_add hka hkb) hkc) (by decide))) ?_
        rintro e w1 ⟨u, rfl, hu, hb⟩
        exact ⟨u, rfl, hK.out _ _ hb (fun w2 h2 => (hu).grow h2) (fun h => absurd h (by decide))⟩
      refine AllOps.cons (Does.lets (g := 22) (d := 44) (t := false) rfl (by kernel_rfl) (by kernel_rfl) (fun vq wq h => h wq (Grows.refl wq)) fun lq aq wq hk hr K hK => ?_) ?_
      · have B5 : ev aq (.tmp 5) = .pointer (some ⟨ba, 0, none⟩) := hk.base 5 (by kernel_rfl) rfl
        have hb := grows_of hk.ext
        exact wp_of_value (op_load 5 _ B5 (Box2.below Da.out hb)) (hK.out _ _ (Grows.refl _) (fun w2 h2 => ⟨_, _, _, _, rfl, (Sa.out.below hb).below h2⟩) (fun h => absurd h (by decide)))
      refine AllOps.cons (Does.lets (g := 22) (d := 44) (t := false) rfl (by kernel_rfl) (by kernel_rfl) (fun vq wq h => h wq (Grows.refl wq)) fun lq aq wq hk hr K hK => ?_) ?_
      · have B6 : ev aq (.tmp 6) = .pointer (some ⟨bb, 0, none⟩) := hk.base 6 (by kernel_rfl) rfl
        have hb := grows_of hk.ext
        exact wp_of_value (op_load 6 _ B6 (Box2.below Db.out hb)) (hK.out _ _ (Grows.refl _) (fun w2 h2 => ⟨_, _, _, _, rfl, (Sb.out.below hb).below h2⟩) (fun h => absurd h (by decide)))
      refine AllOps.cons (Does.lets (g := 22) (d := 44) (t := false) rfl (by kernel_rfl) (by kernel_rfl) (fun vq wq h => h wq (Grows.refl wq)) fun lq aq wq hk hr K hK => ?_) ?_
      · have B7 : ev aq (.tmp 7) = .pointer (some ⟨bc, 0, none⟩) := hk.base 7 (by kernel_rfl) rfl
        have hb := grows_of hk.ext
        exact wp_of_value (op_load 7 _ B7 (Box2.below Dc.out hb)) (hK.out _ _ (Grows.refl _) (fun w2 h2 => ⟨_, _, _, _, rfl, (Sc.out.below hb).below h2⟩) (fun h => absurd h (by decide)))
      refine AllOps.cons (Does.lets (g := 22) (d := 44) (t := false) rfl (by kernel_rfl) (by kernel_rfl) (fun vq wq h => h wq (Grows.refl wq)) fun lq aq wq hk hr K hK => ?_) ?_
      · obtain ⟨v31, E31, -, r31⟩ := hk.dep hr 31 53 (by kernel_rfl) (by kernel_rfl)
        have r31 : WV wq v31 b := r31 wq (Grows.refl wq)
        obtain ⟨n31, A31, k31, c31, rfl, s31⟩ := r31
        obtain ⟨v32, E32, -, r32⟩ := hk.dep hr 32 54 (by kernel_rfl) (by kernel_rfl)
        have r32 : WV wq v32 c := r32 wq (Grows.refl wq)
        obtain ⟨n32, A32, k32, c32, rfl, s32⟩ := r32
        exact wp_of_value (op_row2 53 54 E31 E32) (hK.out _ _ ((Grows.refl _).alloc _) (fun w2 h2 => (RowV.two s31 s32).grow h2) (fun h => absurd h (by decide)))
      refine AllOps.cons (Does.lets (g := 22) (d := 44) (t := false) rfl (by kernel_rfl) (by kernel_rfl) (fun vq wq h => h wq (Grows.refl wq)) fun lq aq wq hk hr K hK => ?_) ?_
      · obtain ⟨v33, E33, -, r33⟩ := hk.dep hr 33 55 (by kernel_rfl) (by kernel_rfl)
        have r33 : RowV wq v33 [b, c] := r33 wq (Grows.refl wq)
        refine wp_of_call (f := 27) (vs := #[v33]) (by go_simp) (add2_v wq r33 (Nat.le_trans hkb (by decide)) (Nat.le_trans (szz_add hkb hkc) (by decide))) ?_
        rintro e w1 ⟨u, rfl, hu, hb⟩
        exact ⟨u, rfl, hK.out _ _ hb (fun w2 h2 => (hu).grow h2) (fun h => absurd h (by decide))⟩
      refine AllOps.cons (Does.lets (g := 22) (d := 44) (t := false) rfl (by kernel_rfl) (by kernel_rfl) (fun vq wq h => h wq (Grows.refl wq)) fun lq aq wq hk hr K hK => ?_) ?_
      · obtain ⟨v30, E30, -, r30⟩ := hk.dep hr 30 52 (by kernel_rfl) (by kernel_rfl)
        have r30 : WV wq v30 a := r30 wq (Grows.refl wq)
        obtain ⟨n30, A30, k30, c30, rfl, s30⟩ := r30
        obtain ⟨v34, E34, -, r34⟩ := hk.dep hr 34 56 (by kernel_rfl) (by kernel_rfl)
        have r34 : ZV wq v34 ((b + c)) := r34 wq (Grows.refl wq)
        obtain ⟨n34, A34, k34, c34, rfl, s34⟩ := r34
        exact wp_of_value (op_row2 52 56 E30 E34) (hK.out _ _ ((Grows.refl _).alloc _) (fun w2 h2 => (RowV.two s30 s34.whole).grow h2) (fun h => absurd h (by decide)))
      refine AllOps.cons (Does.lets (g := 22) (d := 44) (t := false) rfl (by kernel_rfl) (by kernel_rfl) (fun vq wq h => h wq (Grows.refl wq)) fun lq aq wq hk hr K hK => ?_) ?_
      · obtain ⟨v35, E35, -, r35⟩ := hk.dep hr 35 57 (by kernel_rfl) (by kernel_rfl)
        have r35 : RowV wq v35 [a, (b + c)] := r35 wq (Grows.refl wq)
        refine wp_of_call (f := 27) (vs := #[v35]) (by go_simp) (add2_v wq r35 (Nat.le_trans hka (by decide)) (Nat.le_trans (szz_add hka (szz_add hkb hkc)) (by decide))) ?_
        rintro e w1 ⟨u, rfl, hu, hb⟩
        exact ⟨u, rfl, hK.out _ _ hb (fun w2 h2 => (hu).grow h2) (fun h => absurd h (by decide))⟩
      refine AllOps.cons (Does.lets (g := 22) (d := 44) (t := false) rfl (by kernel_rfl) (by kernel_rfl) (fun vq wq h => h wq (Grows.refl wq)) fun lq aq wq hk hr K hK => ?_) ?_
      · obtain ⟨v29, E29, -, r29⟩ := hk.dep hr 29 51 (by kernel_rfl) (by kernel_rfl)
        have r29 : ZV wq v29 (((a + b) + c)) := r29 wq (Grows.refl wq)
        obtain ⟨v36, E36, -, r36⟩ := hk.dep hr 36 58 (by kernel_rfl) (by kernel_rfl)
        have r36 : ZV wq v36 ((a + (b + c))) := r36 wq (Grows.refl wq)
        refine wp_of_call (f := 26) (vs := #[v29, v36]) (by go_simp) (same_v wq r29 r36 (t := true) (decide_eq_true (Int.add_assoc a b c))) ?_
        rintro e w1 ⟨u, rfl, hu, hb⟩
        exact ⟨u, rfl, hK.out _ _ hb (fun w2 h2 => hu) (fun h => absurd h (by decide))⟩
      refine AllOps.cons (Does.lets (g := 22) (d := 44) (t := false) rfl (by kernel_rfl) (by kernel_rfl) (fun vq wq h => h wq (Grows.refl wq)) fun lq aq wq hk hr K hK => ?_) ?_
      · obtain ⟨v37, E37, -, r37⟩ := hk.dep hr 37 59 (by kernel_rfl) (by kernel_rfl)
        replace E37 : ev aq (.tmp 59) = .bool true := E37.trans (r37 wq (Grows.refl wq))
        exact wp_of_value (by go_simp) (hK.out _ _ (Grows.refl _) (fun w2 h2 => rfl) (fun h => absurd h (by decide)))
      refine AllOps.cons (Does.plain rfl fun lq aq wq hk hr K hK => ?_) ?_
      · obtain ⟨v22, E22, -, r22⟩ := hk.dep hr 22 44 (by kernel_rfl) (by kernel_rfl)
        replace E22 : ev aq (.tmp 44) = .bool false := E22.trans (r22 wq (Grows.refl wq))
        obtain ⟨v38, E38, -, r38⟩ := hk.dep hr 38 60 (by kernel_rfl) (by kernel_rfl)
        replace E38 : ev aq (.tmp 60) = .bool false := E38.trans (r38 wq (Grows.refl wq))
        exact wp_of_value (by go_simp) (hK.out _ _ (Grows.refl _) (fun w2 h2 => rfl) (fun h => absurd h (by decide)))
      refine AllOps.cons (Does.plain rfl fun lq aq wq hk hr K hK => ?_) ?_
      · obtain ⟨v39, E39, -, r39⟩ := hk.dep hr 39 61 (by kernel_rfl) (by kernel_rfl)
        replace E39 : ev aq (.tmp 61) = .bool false := E39.trans (r39 wq (Grows.refl wq))
        exact wp_of_value (by go_simp) (hK.out _ _ (Grows.refl _) (fun w2 h2 => rfl) (fun h => absurd h (by decide)))
      refine AllOps.cons (Does.lets (g := 40) (d := 62) (t := false) rfl (by kernel_rfl) (by kernel_rfl) (fun vq wq h => h wq (Grows.refl wq)) fun lq aq wq hk hr K hK => ?_) ?_
      · have B5 : ev aq (.tmp 5) = .pointer (some ⟨ba, 0, none⟩) := hk.base 5 (by kernel_rfl) rfl
        have hb := grows_of hk.ext
        exact wp_of_value (op_load 5 _ B5 (Box2.below Da.out hb)) (hK.out _ _ (Grows.refl _) (fun w2 h2 => ⟨_, _, _, _, rfl, (Sa.out.below hb).below h2⟩) (fun h => absurd h (by decide)))
      refine AllOps.cons (Does.lets (g := 40) (d := 62) (t := false) rfl (by kernel_rfl) (by kernel_rfl) (fun vq wq h => h wq (Grows.refl wq)) fun lq aq wq hk hr K hK => ?_) ?_
      · have B6 : ev aq (.tmp 6) = .pointer (some ⟨bb, 0, none⟩) := hk.base 6 (by kernel_rfl) rfl
        have hb := grows_of hk.ext
        exact wp_of_value (op_load 6 _ B6 (Box2.below Db.out hb)) (hK.out _ _ (Grows.refl _) (fun w2 h2 => ⟨_, _, _, _, rfl, (Sb.out.below hb).below h2⟩) (fun h => absurd h (by decide)))
      refine AllOps.cons (Does.lets (g := 40) (d := 62) (t := false) rfl (by kernel_rfl) (by kernel_rfl) (fun vq wq h => h wq (Grows.refl wq)) fun lq aq wq hk hr K hK => ?_) ?_
      · obtain ⟨v41, E41, -, r41⟩ := hk.dep hr 41 63 (by kernel_rfl) (by kernel_rfl)
        have r41 : WV wq v41 a := r41 wq (Grows.refl wq)
        obtain ⟨n41, A41, k41, c41, rfl, s41⟩ := r41
        obtain ⟨v42, E42, -, r42⟩ := hk.dep hr 42 64 (by kernel_rfl) (by kernel_rfl)
        have r42 : WV wq v42 b := r42 wq (Grows.refl wq)
        obtain ⟨n42, A42, k42, c42, rfl, s42⟩ := r42
        exact wp_of_value (op_row2 63 64 E41 E42) (hK.out _ _ ((Grows.refl _).alloc _) (fun w2 h2 => (RowV.two s41 s42).grow h2) (fun h => absurd h (by decide)))
      refine AllOps.cons (Does.lets (g := 40) (d := 62) (t := false) rfl (by kernel_rfl) (by kernel_rfl) (fun vq wq h => h wq (Grows.refl wq)) fun lq aq wq hk hr K hK => ?_) ?_
      · obtain ⟨v43, E43, -, r43⟩ := hk.dep hr 43 65 (by kernel_rfl) (by kernel_rfl)
        have r43 : RowV wq v43 [a, b] := r43 wq (Grows.refl wq)
        refine wp_of_call (f := 28) (vs := #[v43]) (by go_simp) (mul2_v wq r43 (Nat.le_trans hka (by decide)) (Nat.le_trans (szz_mul hka hkb) (by decide))) ?_
        rintro e w1 ⟨u, rfl, hu, hb⟩
        exact ⟨u, rfl, hK.out _ _ hb (fun w2 h2 => (hu).grow h2) (fun h => absurd h (by decide))⟩
      refine AllOps.cons (Does.lets (g := 40) (d := 62) (t := false) rfl (by kernel_rfl) (by kernel_rfl) (fun vq wq h => h wq (Grows.refl wq)) fun lq aq wq hk hr K hK => ?_) ?_
      · have B7 : ev aq (.tmp 7) = .pointer (some ⟨bc, 0, none⟩) := hk.base 7 (by kernel_rfl) rfl
        have hb := grows_of hk.ext
        exact wp_of_value (op_load 7 _ B7 (Box2.below Dc.out hb)) (hK.out _ _ (Grows.refl _) (fun w2 h2 => ⟨_, _, _, _, rfl, (Sc.out.below hb).below h2⟩) (fun h => absurd h (by decide)))
      refine AllOps.cons (Does.lets (g := 40) (d := 62) (t := false) rfl (by kernel_rfl) (by kernel_rfl) (fun vq wq h => h wq (Grows.refl wq)) fun lq aq wq hk hr K hK => ?_) ?_
      · obtain ⟨v44, E44, -, r44⟩ := hk.dep hr 44 66 (by kernel_rfl) (by kernel_rfl)
        have r44 : ZV wq v44 ((a * b)) := r44 wq (Grows.refl wq)
        obtain ⟨n44, A44, k44, c44, rfl, s44⟩ := r44
        obtain ⟨v45, E45, -, r45⟩ := hk.dep hr 45 67 (by kernel_rfl) (by kernel_rfl)
        have r45 : WV wq v45 c := r45 wq (Grows.refl wq)
        obtain ⟨n45, A45, k45, c45, rfl, s45⟩ := r45
        exact wp_of_value (op_row2 66 67 E44 E45) (hK.out _ _ ((Grows.refl _).alloc _) (fun w2 h2 => (RowV.two s44.whole s45).grow h2) (fun h => absurd h (by decide)))
      refine AllOps.cons (Does.lets (g := 40) (d := 62) (t := false) rfl (by kernel_rfl) (by kernel_rfl) (fun vq wq h => h wq (Grows.refl wq)) fun lq aq wq hk hr K hK => ?_) ?_
      · obtain ⟨v46, E46, -, r46⟩ := hk.dep hr 46 68 (by kernel_rfl) (by kernel_rfl)
        have r46 : RowV wq v46 [(a * b), c] := r46 wq (Grows.refl wq)
        refine wp_of_call (f := 28) (vs := #[v46]) (by go_simp) (mul2_v wq r46 (Nat.le_trans (szz_mul hka hkb) (by decide)) (Nat.le_trans (szz_mul (szz_mul hka hkb) hkc) (by decide))) ?_
        rintro e w1 ⟨u, rfl, hu, hb⟩
        exact ⟨u, rfl, hK.out _ _ hb (fun w2 h2 => (hu).grow h2) (fun h => absurd h (by decide))⟩
      refine AllOps.cons (Does.lets (g := 40) (d := 62) (t := false) rfl (by kernel_rfl) (by kernel_rfl) (fun vq wq h => h wq (Grows.refl wq)) fun lq aq wq hk hr K hK => ?_) ?_
      · have B5 : ev aq (.tmp 5) = .pointer (some ⟨ba, 0, none⟩) := hk.base 5 (by kernel_rfl) rfl
        have hb := grows_of hk.ext
        exact wp_of_value (op_load 5 _ B5 (Box2.below Da.out hb)) (hK.out _ _ (Grows.refl _) (fun w2 h2 => ⟨_, _, _, _, rfl, (Sa.out.below hb).below h2⟩) (fun h => absurd h (by decide)))
      refine AllOps.cons (Does.lets (g := 40) (d := 62) (t := false) rfl (by kernel_rfl) (by kernel_rfl) (fun vq wq h => h wq (Grows.refl wq)) fun lq aq wq hk hr K hK => ?_) ?_
      · have B6 : ev aq (.tmp 6) = .pointer (some ⟨bb, 0, none⟩) := hk.base 6 (by kernel_rfl) rfl
        have hb := grows_of hk.ext
        exact wp_of_value (op_load 6 _ B6 (Box2.below Db.out hb)) (hK.out _ _ (Grows.refl _) (fun w2 h2 => ⟨_, _, _, _, rfl, (Sb.out.below hb).below h2⟩) (fun h => absurd h (by decide)))
      refine AllOps.cons (Does.lets (g := 40) (d := 62) (t := false) rfl (by kernel_rfl) (by kernel_rfl) (fun vq wq h => h wq (Grows.refl wq)) fun lq aq wq hk hr K hK => ?_) ?_
      · have B7 : ev aq (.tmp 7) = .pointer (some ⟨bc, 0, none⟩) := hk.base 7 (by kernel_rfl) rfl
        have hb := grows_of hk.ext
        exact wp_of_value (op_load 7 _ B7 (Box2.below Dc.out hb)) (hK.out _ _ (Grows.refl _) (fun w2 h2 => ⟨_, _, _, _, rfl, (Sc.out.below hb).below h2⟩) (fun h => absurd h (by decide)))
      refine AllOps.cons (Does.lets (g := 40) (d := 62) (t := false) rfl (by kernel_rfl) (by kernel_rfl) (fun vq wq h => h wq (Grows.refl wq)) fun lq aq wq hk hr K hK => ?_) ?_
      · obtain ⟨v49, E49, -, r49⟩ := hk.dep hr 49 71 (by kernel_rfl) (by kernel_rfl)
        have r49 : WV wq v49 b := r49 wq (Grows.refl wq)
        obtain ⟨n49, A49, k49, c49, rfl, s49⟩ := r49
        obtain ⟨v50, E50, -, r50⟩ := hk.dep hr 50 72 (by kernel_rfl) (by kernel_rfl)
        have r50 : WV wq v50 c := r50 wq (Grows.refl wq)
        obtain ⟨n50, A50, k50, c50, rfl, s50⟩ := r50
        exact wp_of_value (op_row2 71 72 E49 E50) (hK.out _ _ ((Grows.refl _).alloc _) (fun w2 h2 => (RowV.two s49 s50).grow h2) (fun h => absurd h (by decide)))
      refine AllOps.cons (Does.lets (g := 40) (d := 62) (t := false) rfl (by kernel_rfl) (by kernel_rfl) (fun vq wq h => h wq (Grows.refl wq)) fun lq aq wq hk hr K hK => ?_) ?_
      · obtain ⟨v51, E51, -, r51⟩ := hk.dep hr 51 73 (by kernel_rfl) (by kernel_rfl)
        have r51 : RowV wq v51 [b, c] := r51 wq (Grows.refl wq)
        refine wp_of_call (f := 28) (vs := #[v51]) (by go_simp) (mul2_v wq r51 (Nat.le_trans hkb (by decide)) (Nat.le_trans (szz_mul hkb hkc) (by decide))) ?_
        rintro e w1 ⟨u, rfl, hu, hb⟩
        exact ⟨u, rfl, hK.out _ _ hb (fun w2 h2 => (hu).grow h2) (fun h => absurd h (by decide))⟩
      refine AllOps.cons (Does.lets (g := 40) (d := 62) (t := false) rfl (by kernel_rfl) (by kernel_rfl) (fun vq wq h => h wq (Grows.refl wq)) fun lq aq wq hk hr K hK => ?_) ?_
      · obtain ⟨v48, E48, -, r48⟩ := hk.dep hr 48 70 (by kernel_rfl) (by kernel_rfl)
        have r48 : WV wq v48 a := r48 wq (Grows.refl wq)
        obtain ⟨n48, A48, k48, c48, rfl, s48⟩ := r48
        obtain ⟨v52, E52, -, r52⟩ := hk.dep hr 52 74 (by kernel_rfl) (by kernel_rfl)
        have r52 : ZV wq v52 ((b * c)) := r52 wq (Grows.refl wq)
        obtain ⟨n52, A52, k52, c52, rfl, s52⟩ := r52
        exact wp_of_value (op_row2 70 74 E48 E52) (hK.out _ _ ((Grows.refl _).alloc _) (fun w2 h2 => (RowV.two s48 s52.whole).grow h2) (fun h => absurd h (by decide)))
      refine AllOps.cons (Does.lets (g := 40) (d := 62) (t := false) rfl (by kernel_rfl) (by kernel_rfl) (fun vq wq h => h wq (Grows.refl wq)) fun lq aq wq hk hr K hK => ?_) ?_
      · obtain ⟨v53, E53, -, r53⟩ := hk.dep hr 53 75 (by kernel_rfl) (by kernel_rfl)
        have r53 : RowV wq v53 [a, (b * c)] := r53 wq (Grows.refl wq)
        refine wp_of_call (f := 28) (vs := #[v53]) (by go_simp) (mul2_v wq r53 (Nat.le_trans hka (by decide)) (Nat.le_trans (szz_mul hka (szz_mul hkb hkc)) (by decide))) ?_
        rintro e w1 ⟨u, rfl, hu, hb⟩
        exact ⟨u, rfl, hK.out _ _ hb (fun w2 h2 => (hu).grow h2) (fun h => absurd h (by decide))⟩
      refine AllOps.cons (Does.lets (g := 40) (d := 62) (t := false) rfl (by kernel_rfl) (by kernel_rfl) (fun vq wq h => h wq (Grows.refl wq)) fun lq aq wq hk hr K hK => ?_) ?_
      · obtain ⟨v47, E47, -, r47⟩ := hk.dep hr 47 69 (by kernel_rfl) (by kernel_rfl)
        have r47 : ZV wq v47 (((a * b) * c)) := r47 wq (Grows.refl wq)
        obtain ⟨v54, E54, -, r54⟩ := hk.dep hr 54 76 (by kernel_rfl) (by kernel_rfl)
        have r54 : ZV wq v54 ((a * (b * c))) := r54 wq (Grows.refl wq)
        refine wp_of_call (f := 26) (vs := #[v47, v54]) (by go_simp) (same_v wq r47 r54 (t := true) (decide_eq_true (Int.mul_assoc a b c))) ?_
        rintro e w1 ⟨u, rfl, hu, hb⟩
        exact ⟨u, rfl, hK.out _ _ hb (fun w2 h2 => hu) (fun h => absurd h (by decide))⟩
      refine AllOps.cons (Does.lets (g := 40) (d := 62) (t := false) rfl (by kernel_rfl) (by kernel_rfl) (fun vq wq h => h wq (Grows.refl wq)) fun lq aq wq hk hr K hK => ?_) ?_
      · obtain ⟨v55, E55, -, r55⟩ := hk.dep hr 55 77 (by kernel_rfl) (by kernel_rfl)
        replace E55 : ev aq (.tmp 77) = .bool true := E55.trans (r55 wq (Grows.refl wq))
        exact wp_of_value (by go_simp) (hK.out _ _ (Grows.refl _) (fun w2 h2 => rfl) (fun h => absurd h (by decide)))
      refine AllOps.cons (Does.plain rfl fun lq aq wq hk hr K hK => ?_) ?_
      · obtain ⟨v40, E40, -, r40⟩ := hk.dep hr 40 62 (by kernel_rfl) (by kernel_rfl)
        replace E40 : ev aq (.tmp 62) = .bool false := E40.trans (r40 wq (Grows.refl wq))
        obtain ⟨v56, E56, -, r56⟩ := hk.dep hr 56 78 (by kernel_rfl) (by kernel_rfl)
        replace E56 : ev aq (.tmp 78) = .bool false := E56.trans (r56 wq (Grows.refl wq))
        exact wp_of_value (by go_simp) (hK.out _ _ (Grows.refl _) (fun w2 h2 => rfl) (fun h => absurd h (by decide)))
      refine AllOps.cons (Does.plain rfl fun lq aq wq hk hr K hK => ?_) ?_
      · obtain ⟨v57, E57, -, r57⟩ := hk.dep hr 57 79 (by kernel_rfl) (by kernel_rfl)
        replace E57 : ev aq (.tmp 79) = .bool false := E57.trans (r57 wq (Grows.refl wq))
        exact wp_of_value (by go_simp) (hK.out _ _ (Grows.refl _) (fun w2 h2 => rfl) (fun h => absurd h (by decide)))
      refine AllOps.cons (Does.lets (g := 58) (d := 80) (t := false) rfl (by kernel_rfl) (by kernel_rfl) (fun vq wq h => h wq (Grows.refl wq)) fun lq aq wq hk hr K hK => ?_) ?_
      · have B5 : ev aq (.tmp 5) = .pointer (some ⟨ba, 0, none⟩) := hk.base 5 (by kernel_rfl) rfl
        have hb := grows_of hk.ext
        exact wp_of_value (op_load 5 _ B5 (Box2.below Da.out hb)) (hK.out _ _ (Grows.refl _) (fun w2 h2 => ⟨_, _, _, _, rfl, (Sa.out.below hb).below h2⟩) (fun h => absurd h (by decide)))
      refine AllOps.cons (Does.lets (g := 58) (d := 80) (t := false) rfl (by kernel_rfl) (by kernel_rfl) (fun vq wq h => h wq (Grows.refl wq)) fun lq aq wq hk hr K hK => ?_) ?_
      · have B6 : ev aq (.tmp 6) = .pointer (some ⟨bb, 0, none⟩) := hk.base 6 (by kernel_rfl) rfl
        have hb := grows_of hk.ext
        exact wp_of_value (op_load 6 _ B6 (Box2.below Db.out hb)) (hK.out _ _ (Grows.refl _) (fun w2 h2 => ⟨_, _, _, _, rfl, (Sb.out.below hb).below h2⟩) (fun h => absurd h (by decide)))
      refine AllOps.cons (Does.lets (g := 58) (d := 80) (t := false) rfl (by kernel_rfl) (by kernel_rfl) (fun vq wq h => h wq (Grows.refl wq)) fun lq aq wq hk hr K hK => ?_) ?_
      · have B7 : ev aq (.tmp 7) = .pointer (some ⟨bc, 0, none⟩) := hk.base 7 (by kernel_rfl) rfl
        have hb := grows_of hk.ext
        exact wp_of_value (op_load 7 _ B7 (Box2.below Dc.out hb)) (hK.out _ _ (Grows.refl _) (fun w2 h2 => ⟨_, _, _, _, rfl, (Sc.out.below hb).below h2⟩) (fun h => absurd h (by decide)))
      refine AllOps.cons (Does.lets (g := 58) (d := 80) (t := false) rfl (by kernel_rfl) (by kernel_rfl) (fun vq wq h => h wq (Grows.refl wq)) fun lq aq wq hk hr K hK => ?_) ?_
      · obtain ⟨v60, E60, -, r60⟩ := hk.dep hr 60 82 (by kernel_rfl) (by kernel_rfl)
        have r60 : WV wq v60 b := r60 wq (Grows.refl wq)
        obtain ⟨n60, A60, k60, c60, rfl, s60⟩ := r60
        obtain ⟨v61, E61, -, r61⟩ := hk.dep hr 61 83 (by kernel_rfl) (by kernel_rfl)
        have r61 : WV wq v61 c := r61 wq (Grows.refl wq)
        obtain ⟨n61, A61, k61, c61, rfl, s61⟩ := r61
        exact wp_of_value (op_row2 82 83 E60 E61) (hK.out _ _ ((Grows.refl _).alloc _) (fun w2 h2 => (RowV.two s60 s61).grow h2) (fun h => absurd h (by decide)))
      refine AllOps.cons (Does.lets (g := 58) (d := 80) (t := false) rfl (by kernel_rfl) (by kernel_rfl) (fun vq wq h => h wq (Grows.refl wq)) fun lq aq wq hk hr K hK => ?_) ?_
      · obtain ⟨v62, E62, -, r62⟩ := hk.dep hr 62 84 (by kernel_rfl) (by kernel_rfl)
        have r62 : RowV wq v62 [b, c] := r62 wq (Grows.refl wq)
        refine wp_of_call (f := 27) (vs := #[v62]) (by go_simp) (add2_v wq r62 (Nat.le_trans hkb (by decide)) (Nat.le_trans (szz_add hkb hkc) (by decide))) ?_
        rintro e w1 ⟨u, rfl, hu, hb⟩
        exact ⟨u, rfl, hK.out _ _ hb (fun w2 h2 => (hu).grow h2) (fun h => absurd h (by decide))⟩
      refine AllOps.cons (Does.lets (g := 58) (d := 80) (t := false) rfl (by kernel_rfl) (by kernel_rfl) (fun vq wq h => h wq (Grows.refl wq)) fun lq aq wq hk hr K hK => ?_) ?_
      · obtain ⟨v59, E59, -, r59⟩ := hk.dep hr 59 81 (by kernel_rfl) (by kernel_rfl)
        have r59 : WV wq v59 a := r59 wq (Grows.refl wq)
        obtain ⟨n59, A59, k59, c59, rfl, s59⟩ := r59
        obtain ⟨v63, E63, -, r63⟩ := hk.dep hr 63 85 (by kernel_rfl) (by kernel_rfl)
        have r63 : ZV wq v63 ((b + c)) := r63 wq (Grows.refl wq)
        obtain ⟨n63, A63, k63, c63, rfl, s63⟩ := r63
        exact wp_of_value (op_row2 81 85 E59 E63) (hK.out _ _ ((Grows.refl _).alloc _) (fun w2 h2 => (RowV.two s59 s63.whole).grow h2) (fun h => absurd h (by decide)))
      refine AllOps.cons (Does.lets (g := 58) (d := 80) (t := false) rfl (by kernel_rfl) (by kernel_rfl) (fun vq wq h => h wq (Grows.refl wq)) fun lq aq wq hk hr K hK => ?_) ?_
      · obtain ⟨v64, E64, -, r64⟩ := hk.dep hr 64 86 (by kernel_rfl) (by kernel_rfl)
        have r64 : RowV wq v64 [a, (b + c)] := r64 wq (Grows.refl wq)
        refine wp_of_call (f := 28) (vs := #[v64]) (by go_simp) (mul2_v wq r64 (Nat.le_trans hka (by decide)) (Nat.le_trans (szz_mul hka (szz_add hkb hkc)) (by decide))) ?_
        rintro e w1 ⟨u, rfl, hu, hb⟩
        exact ⟨u, rfl, hK.out _ _ hb (fun w2 h2 => (hu).grow h2) (fun h => absurd h (by decide))⟩
      refine AllOps.cons (Does.lets (g := 58) (d := 80) (t := false) rfl (by kernel_rfl) (by kernel_rfl) (fun vq wq h => h wq (Grows.refl wq)) fun lq aq wq hk hr K hK => ?_) ?_
      · have B5 : ev aq (.tmp 5) = .pointer (some ⟨ba, 0, none⟩) := hk.base 5 (by kernel_rfl) rfl
        have hb := grows_of hk.ext
        exact wp_of_value (op_load 5 _ B5 (Box2.below Da.out hb)) (hK.out _ _ (Grows.refl _) (fun w2 h2 => ⟨_, _, _, _, rfl, (Sa.out.below hb).below h2⟩) (fun h => absurd h (by decide)))
      refine AllOps.cons (Does.lets (g := 58) (d := 80) (t := false) rfl (by kernel_rfl) (by kernel_rfl) (fun vq wq h => h wq (Grows.refl wq)) fun lq aq wq hk hr K hK => ?_) ?_
      · have B6 : ev aq (.tmp 6) = .pointer (some ⟨bb, 0, none⟩) := hk.base 6 (by kernel_rfl) rfl
        have hb := grows_of hk.ext
        exact wp_of_value (op_load 6 _ B6 (Box2.below Db.out hb)) (hK.out _ _ (Grows.refl _) (fun w2 h2 => ⟨_, _, _, _, rfl, (Sb.out.below hb).below h2⟩) (fun h => absurd h (by decide)))
      refine AllOps.cons (Does.lets (g := 58) (d := 80) (t := false) rfl (by kernel_rfl) (by kernel_rfl) (fun vq wq h => h wq (Grows.refl wq)) fun lq aq wq hk hr K hK => ?_) ?_
      · obtain ⟨v66, E66, -, r66⟩ := hk.dep hr 66 88 (by kernel_rfl) (by kernel_rfl)
        have r66 : WV wq v66 a := r66 wq (Grows.refl wq)
        obtain ⟨n66, A66, k66, c66, rfl, s66⟩ := r66
        obtain ⟨v67, E67, -, r67⟩ := hk.dep hr 67 89 (by kernel_rfl) (by kernel_rfl)
        have r67 : WV wq v67 b := r67 wq (Grows.refl wq)
        obtain ⟨n67, A67, k67, c67, rfl, s67⟩ := r67
        exact wp_of_value (op_row2 88 89 E66 E67) (hK.out _ _ ((Grows.refl _).alloc _) (fun w2 h2 => (RowV.two s66 s67).grow h2) (fun h => absurd h (by decide)))
      refine AllOps.cons (Does.lets (g := 58) (d := 80) (t := false) rfl (by kernel_rfl) (by kernel_rfl) (fun vq wq h => h wq (Grows.refl wq)) fun lq aq wq hk hr K hK => ?_) ?_
      · obtain ⟨v68, E68, -, r68⟩ := hk.dep hr 68 90 (by kernel_rfl) (by kernel_rfl)
        have r68 : RowV wq v68 [a, b] := r68 wq (Grows.refl wq)
        refine wp_of_call (f := 28) (vs := #[v68]) (by go_simp) (mul2_v wq r68 (Nat.le_trans hka (by decide)) (Nat.le_trans (szz_mul hka hkb) (by decide))) ?_
        rintro e w1 ⟨u, rfl, hu, hb⟩
        exact ⟨u, rfl, hK.out _ _ hb (fun w2 h2 => (hu).grow h2) (fun h => absurd h (by decide))⟩
      refine AllOps.cons (Does.lets (g := 58) (d := 80) (t := false) rfl (by kernel_rfl) (by kernel_rfl) (fun vq wq h => h wq (Grows.refl wq)) fun lq aq wq hk hr K hK => ?_) ?_
      · have B5 : ev aq (.tmp 5) = .pointer (some ⟨ba, 0, none⟩) := hk.base 5 (by kernel_rfl) rfl
        have hb := grows_of hk.ext
        exact wp_of_value (op_load 5 _ B5 (Box2.below Da.out hb)) (hK.out _ _ (Grows.refl _) (fun w2 h2 => ⟨_, _, _, _, rfl, (Sa.out.below hb).below h2⟩) (fun h => absurd h (by decide)))
      refine AllOps.cons (Does.lets (g := 58) (d := 80) (t := false) rfl (by kernel_rfl) (by kernel_rfl) (fun vq wq h => h wq (Grows.refl wq)) fun lq aq wq hk hr K hK => ?_) ?_
      · have B7 : ev aq (.tmp 7) = .pointer (some ⟨bc, 0, none⟩) := hk.base 7 (by kernel_rfl) rfl
        have hb := grows_of hk.ext
        exact wp_of_value (op_load 7 _ B7 (Box2.below Dc.out hb)) (hK.out _ _ (Grows.refl _) (fun w2 h2 => ⟨_, _, _, _, rfl, (Sc.out.below hb).below h2⟩) (fun h => absurd h (by decide)))
      refine AllOps.cons (Does.lets (g := 58) (d := 80) (t := false) rfl (by kernel_rfl) (by kernel_rfl) (fun vq wq h => h wq (Grows.refl wq)) fun lq aq wq hk hr K hK => ?_) ?_
      · obtain ⟨v70, E70, -, r70⟩ := hk.dep hr 70 92 (by kernel_rfl) (by kernel_rfl)
        have r70 : WV wq v70 a := r70 wq (Grows.refl wq)
        obtain ⟨n70, A70, k70, c70, rfl, s70⟩ := r70
        obtain ⟨v71, E71, -, r71⟩ := hk.dep hr 71 93 (by kernel_rfl) (by kernel_rfl)
        have r71 : WV wq v71 c := r71 wq (Grows.refl wq)
        obtain ⟨n71, A71, k71, c71, rfl, s71⟩ := r71
        exact wp_of_value (op_row2 92 93 E70 E71) (hK.out _ _ ((Grows.refl _).alloc _) (fun w2 h2 => (RowV.two s70 s71).grow h2) (fun h => absurd h (by decide)))
      refine AllOps.cons (Does.lets (g := 58) (d := 80) (t := false) rfl (by kernel_rfl) (by kernel_rfl) (fun vq wq h => h wq (Grows.refl wq)) fun lq aq wq hk hr K hK => ?_) ?_
      · obtain ⟨v72, E72, -, r72⟩ := hk.dep hr 72 94 (by kernel_rfl) (by kernel_rfl)
        have r72 : RowV wq v72 [a, c] := r72 wq (Grows.refl wq)
        refine wp_of_call (f := 28) (vs := #[v72]) (by go_simp) (mul2_v wq r72 (Nat.le_trans hka (by decide)) (Nat.le_trans (szz_mul hka hkc) (by decide))) ?_
        rintro e w1 ⟨u, rfl, hu, hb⟩
        exact ⟨u, rfl, hK.out _ _ hb (fun w2 h2 => (hu).grow h2) (fun h => absurd h (by decide))⟩
      refine AllOps.cons (Does.lets (g := 58) (d := 80) (t := false) rfl (by kernel_rfl) (by kernel_rfl) (fun vq wq h => h wq (Grows.refl wq)) fun lq aq wq hk hr K hK => ?_) ?_
      · obtain ⟨v69, E69, -, r69⟩ := hk.dep hr 69 91 (by kernel_rfl) (by kernel_rfl)
        have r69 : ZV wq v69 ((a * b)) := r69 wq (Grows.refl wq)
        obtain ⟨n69, A69, k69, c69, rfl, s69⟩ := r69
        obtain ⟨v73, E73, -, r73⟩ := hk.dep hr 73 95 (by kernel_rfl) (by kernel_rfl)
        have r73 : ZV wq v73 ((a * c)) := r73 wq (Grows.refl wq)
        obtain ⟨n73, A73, k73, c73, rfl, s73⟩ := r73
        exact wp_of_value (op_row2 91 95 E69 E73) (hK.out _ _ ((Grows.refl _).alloc _) (fun w2 h2 => (RowV.two s69.whole s73.whole).grow h2) (fun h => absurd h (by decide)))
      refine AllOps.cons (Does.lets (g := 58) (d := 80) (t := false) rfl (by kernel_rfl) (by kernel_rfl) (fun vq wq h => h wq (Grows.refl wq)) fun lq aq wq hk hr K hK => ?_) ?_
      · obtain ⟨v74, E74, -, r74⟩ := hk.dep hr 74 96 (by kernel_rfl) (by kernel_rfl)
        have r74 : RowV wq v74 [(a * b), (a * c)] := r74 wq (Grows.refl wq)
        refine wp_of_call (f := 27) (vs := #[v74]) (by go_simp) (add2_v wq r74 (Nat.le_trans (szz_mul hka hkb) (by decide)) (Nat.le_trans (szz_add (szz_mul hka hkb) (szz_mul hka hkc)) (by decide))) ?_
        rintro e w1 ⟨u, rfl, hu, hb⟩
        exact ⟨u, rfl, hK.out _ _ hb (fun w2 h2 => (hu).grow h2) (fun h => absurd h (by decide))⟩
      refine AllOps.cons (Does.lets (g := 58) (d := 80) (t := false) rfl (by kernel_rfl) (by kernel_rfl) (fun vq wq h => h wq (Grows.refl wq)) fun lq aq wq hk hr K hK => ?_) ?_
      · obtain ⟨v65, E65, -, r65⟩ := hk.dep hr 65 87 (by kernel_rfl) (by kernel_rfl)
        have r65 : ZV wq v65 ((a * (b + c))) := r65 wq (Grows.refl wq)
        obtain ⟨v75, E75, -, r75⟩ := hk.dep hr 75 97 (by kernel_rfl) (by kernel_rfl)
        have r75 : ZV wq v75 (((a * b) + (a * c))) := r75 wq (Grows.refl wq)
        refine wp_of_call (f := 26) (vs := #[v65, v75]) (by go_simp) (same_v wq r65 r75 (t := true) (ring_mul a b c)) ?_
        rintro e w1 ⟨u, rfl, hu, hb⟩
        exact ⟨u, rfl, hK.out _ _ hb (fun w2 h2 => hu) (fun h => absurd h (by decide))⟩
      refine AllOps.cons (Does.lets (g := 58) (d := 80) (t := false) rfl (by kernel_rfl) (by kernel_rfl) (fun vq wq h => h wq (Grows.refl wq)) fun lq aq wq hk hr K hK => ?_) ?_
      · obtain ⟨v76, E76, -, r76⟩ := hk.dep hr 76 98 (by kernel_rfl) (by kernel_rfl)
        replace E76 : ev aq (.tmp 98) = .bool true := E76.trans (r76 wq (Grows.refl wq))
        exact wp_of_value (by go_simp) (hK.out _ _ (Grows.refl _) (fun w2 h2 => rfl) (fun h => absurd h (by decide)))
      refine AllOps.cons (Does.plain rfl fun lq aq wq hk hr K hK => ?_) ?_
      · obtain ⟨v58, E58, -, r58⟩ := hk.dep hr 58 80 (by kernel_rfl) (by kernel_rfl)
        replace E58 : ev aq (.tmp 80) = .bool false := E58.trans (r58 wq (Grows.refl wq))
        obtain ⟨v77, E77, -, r77⟩ := hk.dep hr 77 99 (by kernel_rfl) (by kernel_rfl)
        replace E77 : ev aq (.tmp 99) = .bool false := E77.trans (r77 wq (Grows.refl wq))
        exact wp_of_value (by go_simp) (hK.out _ _ (Grows.refl _) (fun w2 h2 => rfl) (fun h => absurd h (by decide)))
      exact AllOps.nil
    case fin =>
      intro V x2 hG hV hap
      have r56 : (V 56) = .bool false := hV 56 (by decide)
      have r78 : (V 78) = .bool false := hV 78 (by decide)
      clear hV hap
      simp only [List.append_eq, List.cons_append, List.nil_append, List.take_succ_cons, List.take_nil, List.drop_succ_cons, List.drop_nil, putAll, Act.put, List.setIfInBounds_toArray, List.set_cons_zero, List.set_cons_succ]
      have hb := grows_of hG
      replace Da := Lib.hid (Box2.below Da.out hb)
      replace Sa := Lib.hid (Sa.out.below hb)
      replace Db := Lib.hid (Box2.below Db.out hb)
      replace Sb := Lib.hid (Sb.out.below hb)
      replace Dc := Lib.hid (Box2.below Dc.out hb)
      replace Sc := Lib.hid (Sc.out.below hb)
      replace HR := Lib.hid (HR.out.below hb)
      replace HB := Lib.hid (HB.out.trans (Below.mono hb HB.out.size))
      clear hb hG
      rw [r78]
      clear r78
      go_upto_region 6 with fail
      refine wp_region_going 50 [] ([fun vq wq => WV wq vq a,
          fun vq wq => WV wq vq b,
          fun vq wq => RowV wq vq [a, b],
          fun vq wq => ZV wq vq ((a + b)),
          fun vq wq => WV wq vq b,
          fun vq wq => ZV wq vq (((a + b) - b)),
          fun vq wq => WV wq vq a,
          fun vq wq => RowV wq vq [a],
          fun vq wq => ZV wq vq a,
          fun vq _ => vq = .bool true,
          fun vq _ => vq = .bool false,
          fun vq _ => vq = .bool false,
          fun vq wq => WV wq vq a,
          fun vq wq => WV wq vq a,
          fun vq wq => ZV wq vq ((-a)),
          fun vq wq => RowV wq vq [a, (-a)],
          fun vq wq => ZV wq vq ((a + (-a))),
          fun vq wq => ZV wq vq 0,
          fun vq _ => vq = .bool true,
          fun vq _ => vq = .bool false,
          fun vq _ => vq = .bool false,
          fun vq _ => vq = .bool false,
          fun vq wq => WV wq vq a,
          fun vq wq => ZV wq vq ((-a)),
          fun vq wq => ZV wq vq ((-(-a))),
          fun vq wq => WV wq vq a,
          fun vq wq => RowV wq vq [a],
          fun vq wq => ZV wq vq a,
          fun vq _ => vq = .bool true,
          fun vq _ => vq = .bool false,
          fun vq _ => vq = .bool false,
          fun vq _ => vq = .bool false,
          fun vq wq => WV wq vq a,
          fun vq wq => ZV wq vq ((-1)),
          fun vq wq => RowV wq vq [a, (-1)],
          fun vq wq => ZV wq vq ((a * (-1))),
          fun vq wq => WV wq vq a,
          fun vq wq => ZV wq vq ((-a)),
          fun vq _ => vq = .bool true,
          fun vq _ => vq = .bool false,
          fun vq _ => vq = .bool false,
          fun vq _ => vq = .bool false,
          fun vq wq => WV wq vq a,
          fun vq wq => ZV wq vq 0,
          fun vq wq => RowV wq vq [a, 0],
          fun vq wq => ZV wq vq ((a * 0)),
          fun vq wq => ZV wq vq 0,
          fun vq _ => vq = .bool true,
          fun vq _ => vq = .bool false,
          fun vq _ => vq = .bool false]) (by kernel_rfl) (by kernel_rfl) (by decide) (by kernel_rfl) (by kernel_rfl) ?hF ?steps ?fin
      case hF =>
        intro j hj; cases hj
      case steps =>
        refine AllOps.cons (Does.plain rfl fun lq aq wq hk hr K hK => ?_) ?_
        · have B5 : ev aq (.tmp 5) = .pointer (some ⟨ba, 0, none⟩) := hk.base 5 (by kernel_rfl) rfl
          have hb := grows_of hk.ext
          exact wp_of_value (op_load 5 _ B5 (Box2.below Da.out hb)) (hK.out _ _ (Grows.refl _) (fun w2 h2 => ⟨_, _, _, _, rfl, (Sa.out.below hb).below h2⟩) (fun h => absurd h (by decide)))
        refine AllOps.cons (Does.plain rfl fun lq aq wq hk hr K hK => ?_) ?_
        · have B6 : ev aq (.tmp 6) = .pointer (some ⟨bb, 0, none⟩) := hk.base 6 (by kernel_rfl) rfl
          have hb := grows_of hk.ext
          exact wp_of_value (op_load 6 _ B6 (Box2.below Db.out hb)) (hK.out _ _ (Grows.refl _) (fun w2 h2 => ⟨_, _, _, _, rfl, (Sb.out.below hb).below h2⟩) (fun h => absurd h (by decide)))
        refine AllOps.cons (Does.plain rfl fun lq aq wq hk hr K hK => ?_) ?_
        · obtain ⟨v0, E0, -, r0⟩ := hk.dep hr 0 101 (by kernel_rfl) (by kernel_rfl)
          have r0 : WV wq v0 a := r0 wq (Grows.refl wq)
          obtain ⟨n0, A0, k0, c0, rfl, s0⟩ := r0
          obtain ⟨v1, E1, -, r1⟩ := hk.dep hr 1 102 (by kernel_rfl) (by kernel_rfl)
          have r1 : WV wq v1 b := r1 wq (Grows.refl wq)
          obtain ⟨n1, A1, k1, c1, rfl, s1⟩ := r1
          exact wp_of_value (op_row2 101 102 E0 E1) (hK.out _ _ ((Grows.refl _).alloc _) (fun w2 h2 => (RowV.two s0 s1).grow h2) (fun h => absurd h (by decide)))
        refine AllOps.cons (Does.plain rfl fun lq aq wq hk hr K hK => ?_) ?_
        · obtain ⟨v2, E2, -, r2⟩ := hk.dep hr 2 103 (by kernel_rfl) (by kernel_rfl)
          have r2 : RowV wq v2 [a, b] := r2 wq (Grows.refl wq)
          refine wp_of_call (f := 27) (vs := #[v2]) (by go_simp) (add2_v wq r2 (Nat.le_trans hka (by decide)) (Nat.le_trans (szz_add hka hkb) (by decide))) ?_
          rintro e w1 ⟨u, rfl, hu, hb⟩
          exact ⟨u, rfl, hK.out _ _ hb (fun w2 h2 => (hu).grow h2) (fun h => absurd h (by decide))⟩
        refine AllOps.cons (Does.plain rfl fun lq aq wq hk hr K hK => ?_) ?_
        · have B6 : ev aq (.tmp 6) = .pointer (some ⟨bb, 0, none⟩) := hk.base 6 (by kernel_rfl) rfl
          have hb := grows_of hk.ext
          exact wp_of_value (op_load 6 _ B6 (Box2.below Db.out hb)) (hK.out _ _ (Grows.refl _) (fun w2 h2 => ⟨_, _, _, _, rfl, (Sb.out.below hb).below h2⟩) (fun h => absurd h (by decide)))
        refine AllOps.cons (Does.plain rfl fun lq aq wq hk hr K hK => ?_) ?_
        · obtain ⟨v3, E3, -, r3⟩ := hk.dep hr 3 104 (by kernel_rfl) (by kernel_rfl)
          have r3 : ZV wq v3 ((a + b)) := r3 wq (Grows.refl wq)
          obtain ⟨v4, E4, -, r4⟩ := hk.dep hr 4 105 (by kernel_rfl) (by kernel_rfl)
          have r4 : WV wq v4 b := r4 wq (Grows.refl wq)
          refine wp_of_call (f := 29) (vs := #[v3, v4]) (by go_simp) (sub_v wq (r3).wv r4 (Nat.le_trans (szz_sub (szz_add hka hkb) hkb) (by decide))) ?_
          rintro e w1 ⟨u, rfl, hu, hb⟩
          exact ⟨u, rfl, hK.out _ _ hb (fun w2 h2 => (hu).grow h2) (fun h => absurd h (by decide))⟩
        refine AllOps.cons (Does.plain rfl fun lq aq wq hk hr K hK => ?_) ?_
        · have B5 : ev aq (.tmp 5) = .pointer (some ⟨ba, 0, none⟩) := hk.base 5 (by kernel_rfl) rfl
          have hb := grows_of hk.ext
          exact wp_of_value (op_load 5 _ B5 (Box2.below Da.out hb)) (hK.out _ _ (Grows.refl _) (fun w2 h2 => ⟨_, _, _, _, rfl, (Sa.out.below hb).below h2⟩) (fun h => absurd h (by decide)))
        refine AllOps.cons (Does.plain rfl fun lq aq wq hk hr K hK => ?_) ?_
        · obtain ⟨v6, E6, -, r6⟩ := hk.dep hr 6 107 (by kernel_rfl) (by kernel_rfl)
          have r6 : WV wq v6 a := r6 wq (Grows.refl wq)
          obtain ⟨n6, A6, k6, c6, rfl, s6⟩ := r6
          exact wp_of_value (op_row1 107 E6) (hK.out _ _ ((Grows.refl _).alloc _) (fun w2 h2 => (RowV.one s6).grow h2) (fun h => absurd h (by decide)))
        refine AllOps.cons (Does.plain rfl fun lq aq wq hk hr K hK => ?_) ?_
        · obtain ⟨v7, E7, -, r7⟩ := hk.dep hr 7 108 (by kernel_rfl) (by kernel_rfl)
          have r7 : RowV wq v7 [a] := r7 wq (Grows.refl wq)
          refine wp_of_call (f := 27) (vs := #[v7]) (by go_simp) (add1_v wq r7 (Nat.le_trans hka (by decide))) ?_
          rintro e w1 ⟨u, rfl, hu, hb⟩
          exact ⟨u, rfl, hK.out _ _ hb (fun w2 h2 => (hu).grow h2) (fun h => absurd h (by decide))⟩
        refine AllOps.cons (Does.plain rfl fun lq aq wq hk hr K hK => ?_) ?_
        · obtain ⟨v5, E5, -, r5⟩ := hk.dep hr 5 106 (by kernel_rfl) (by kernel_rfl)
          have r5 : ZV wq v5 (((a + b) - b)) := r5 wq (Grows.refl wq)
          obtain ⟨v8, E8, -, r8⟩ := hk.dep hr 8 109 (by kernel_rfl) (by kernel_rfl)
          have r8 : ZV wq v8 a := r8 wq (Grows.refl wq)
          refine wp_of_call (f := 26) (vs := #[v5, v8]) (by go_simp) (same_v wq r5 r8 (t := true) (decide_eq_true (show a + b - b = a by omega))) ?_
          rintro e w1 ⟨u, rfl, hu, hb⟩
          exact ⟨u, rfl, hK.out _ _ hb (fun w2 h2 => hu) (fun h => absurd h (by decide))⟩
        refine AllOps.cons (Does.plain rfl fun lq aq wq hk hr K hK => ?_) ?_
        · obtain ⟨v9, E9, -, r9⟩ := hk.dep hr 9 110 (by kernel_rfl) (by kernel_rfl)
          replace E9 : ev aq (.tmp 110) = .bool true := E9.trans (r9 wq (Grows.refl wq))
          exact wp_of_value (by go_simp) (hK.out _ _ (Grows.refl _) (fun w2 h2 => rfl) (fun h => absurd h (by decide)))
        refine AllOps.cons (Does.plain rfl fun lq aq wq hk hr K hK => ?_) ?_
        · obtain ⟨v10, E10, -, r10⟩ := hk.dep hr 10 111 (by kernel_rfl) (by kernel_rfl)
          replace E10 : ev aq (.tmp 111) = .bool false := E10.trans (r10 wq (Grows.refl wq))
          exact wp_of_value (by go_simp) (hK.out _ _ (Grows.refl _) (fun w2 h2 => rfl) (fun h => absurd h (by decide)))
        refine AllOps.cons (Does.lets (g := 11) (d := 112) (t := false) rfl (by kernel_rfl) (by kernel_rfl) (fun vq wq h => h wq (Grows.refl wq)) fun lq aq wq hk hr K hK => ?_) ?_
        · have B5 : ev aq (.tmp 5) = .pointer (some ⟨ba, 0, none⟩) := hk.base 5 (by kernel_rfl) rfl
          have hb := grows_of hk.ext
          exact wp_of_value (op_load 5 _ B5 (Box2.below Da.out hb)) (hK.out _ _ (Grows.refl _) (fun w2 h2 => ⟨_, _, _, _, rfl, (Sa.out.below hb).below h2⟩) (fun h => absurd h (by decide)))
        refine AllOps.cons (Does.lets (g := 11) (d := 112) (t := false) rfl (by kernel_rfl) (by kernel_rfl) (fun vq wq h => h wq (Grows.refl wq)) fun lq aq wq hk hr K hK => ?_) ?_
        · have B5 : ev aq (.tmp 5) = .pointer (some ⟨ba, 0, none⟩) := hk.base 5 (by kernel_rfl) rfl
          have hb := grows_of hk.ext
          exact wp_of_value (op_load 5 _ B5 (Box2.below Da.out hb)) (hK.out _ _ (Grows.refl _) (fun w2 h2 => ⟨_, _, _, _, rfl, (Sa.out.below hb).below h2⟩) (fun h => absurd h (by decide)))
        refine AllOps.cons (Does.lets (g := 11) (d := 112) (t := false) rfl (by kernel_rfl) (by kernel_rfl) (fun vq wq h => h wq (Grows.refl wq)) fun lq aq wq hk hr K hK => ?_) ?_
        · obtain ⟨v13, E13, -, r13⟩ := hk.dep hr 13 114 (by kernel_rfl) (by kernel_rfl)
          have r13 : WV wq v13 a := r13 wq (Grows.refl wq)
          refine wp_of_call (f := 30) (vs := #[v13]) (by go_simp) (neg_v wq r13 (Nat.le_trans (szz_neg hka) (by decide))) ?_
          rintro e w1 ⟨u, rfl, hu, hb⟩
          exact ⟨u, rfl, hK.out _ _ hb (fun w2 h2 => (hu).grow h2) (fun h => absurd h (by decide))⟩
        refine AllOps.cons (Does.lets (g := 11) (d := 112) (t := false) rfl (by kernel_rfl) (by kernel_rfl) (fun vq wq h => h wq (Grows.refl wq)) fun lq aq wq hk hr K hK => ?_) ?_
        · obtain ⟨v12, E12, -, r12⟩ := hk.dep hr 12 113 (by kernel_rfl) (by kernel_rfl)
          have r12 : WV wq v12 a := r12 wq (Grows.refl wq)
          obtain ⟨n12, A12, k12, c12, rfl, s12⟩ := r12
          obtain ⟨v14, E14, -, r14⟩ := hk.dep hr 14 115 (by kernel_rfl) (by kernel_rfl)
          have r14 : ZV wq v14 ((-a)) := r14 wq (Grows.refl wq)
          obtain ⟨n14, A14, k14, c14, rfl, s14⟩ := r14
          exact wp_of_value (op_row2 113 115 E12 E14) (hK.out _ _ ((Grows.refl _).alloc _) (fun w2 h2 => (RowV.two s12 s14.whole).grow h2) (fun h => absurd h (by decide)))
        refine AllOps.cons (Does.lets (g := 11) (d := 112) (t := false) rfl (by kernel_rfl) (by kernel_rfl) (fun vq wq h => h wq (Grows.refl wq)) fun lq aq wq hk hr K hK => ?_) ?_
        · obtain ⟨v15, E15, -, r15⟩ := hk.dep hr 15 116 (by kernel_rfl) (by kernel_rfl)
          have r15 : RowV wq v15 [a, (-a)] := r15 wq (Grows.refl wq)
          refine wp_of_call (f := 27) (vs := #[v15]) (by go_simp) (add2_v wq r15 (Nat.le_trans hka (by decide)) (Nat.le_trans (szz_add hka (szz_neg hka)) (by decide))) ?_
          rintro e w1 ⟨u, rfl, hu, hb⟩
          exact ⟨u, rfl, hK.out _ _ hb (fun w2 h2 => (hu).grow h2) (fun h => absurd h (by decide))⟩
        refine AllOps.cons (Does.lets (g := 11) (d := 112) (t := false) rfl (by kernel_rfl) (by kernel_rfl) (fun vq wq h => h wq (Grows.refl wq)) fun lq aq wq hk hr K hK => ?_) ?_
        · exact wp_of_value (by go_simp) (hK.out _ _ (Grows.refl _) (fun w2 h2 => (ZV.zero _ 0).grow h2) (fun h => absurd h (by decide)))
        refine AllOps.cons (Does.lets (g := 11) (d := 112) (t := false) rfl (by kernel_rfl) (by kernel_rfl) (fun vq wq h => h wq (Grows.refl wq)) fun lq aq wq hk hr K hK => ?_) ?_
        · obtain ⟨v16, E16, -, r16⟩ := hk.dep hr 16 117 (by kernel_rfl) (by kernel_rfl)
          have r16 : ZV wq v16 ((a + (-a))) := r16 wq (Grows.refl wq)
          obtain ⟨v17, E17, -, r17⟩ := hk.dep hr 17 118 (by kernel_rfl) (by kernel_rfl)
          have r17 : ZV wq v17 0 := r17 wq (Grows.refl wq)
          refine wp_of_call (f := 26) (vs := #[v16, v17]) (by go_simp) (same_v wq r16 r17 (t := true) (decide_eq_true (show a + -a = 0 by omega))) ?_
          rintro e w1 ⟨u, rfl, hu, hb⟩
          exact ⟨u, rfl, hK.out _ _ hb (fun w2 h2 => hu) (fun h => absurd h (by decide))⟩
        refine AllOps.cons (Does.lets (g := 11) (d := 112) (t := false) rfl (by kernel_rfl) (by kernel_rfl) (fun vq wq h => h wq (Grows.refl wq)) fun lq aq wq hk hr K hK => ?_) ?_
        · obtain ⟨v18, E18, -, r18⟩ := hk.dep hr 18 119 (by kernel_rfl) (by kernel_rfl)
          replace E18 : ev aq (.tmp 119) = .bool true := E18.trans (r18 wq (Grows.refl wq))
          exact wp_of_value (by go_simp) (hK.out _ _ (Grows.refl _) (fun w2 h2 => rfl) (fun h => absurd h (by decide)))
        refine AllOps.cons (Does.plain rfl fun lq aq wq hk hr K hK => ?_) ?_
        · obtain ⟨v11, E11, -, r11⟩ := hk.dep hr 11 112 (by kernel_rfl) (by kernel_rfl)
          replace E11 : ev aq (.tmp 112) = .bool false := E11.trans (r11 wq (Grows.refl wq))
          obtain ⟨v19, E19, -, r19⟩ := hk.dep hr 19 120 (by kernel_rfl) (by kernel_rfl)
          replace E19 : ev aq (.tmp 120) = .bool false := E19.trans (r19 wq (Grows.refl wq))
          exact wp_of_value (by go_simp) (hK.out _ _ (Grows.refl _) (fun w2 h2 => rfl) (fun h => absurd h (by decide)))
        refine AllOps.cons (Does.plain rfl fun lq aq wq hk hr K hK => ?_) ?_
        · obtain ⟨v20, E20, -, r20⟩ := hk.dep hr 20 121 (by kernel_rfl) (by kernel_rfl)
          replace E20 : ev aq (.tmp 121) = .bool false := E20.trans (r20 wq (Grows.refl wq))
          exact wp_of_value (by go_simp) (hK.out _ _ (Grows.refl _) (fun w2 h2 => rfl) (fun h => absurd h (by decide)))
        refine AllOps.cons (Does.lets (g := 21) (d := 122) (t := false) rfl (by kernel_rfl) (by kernel_rfl) (fun vq wq h => h wq (Grows.refl wq)) fun lq aq wq hk hr K hK => ?_) ?_
        · have B5 : ev aq (.tmp 5) = .pointer (some ⟨ba, 0, none⟩) := hk.base 5 (by kernel_rfl) rfl
          have hb := grows_of hk.ext
          exact wp_of_value (op_load 5 _ B5 (Box2.below Da.out hb)) (hK.out _ _ (Grows.refl _) (fun w2 h2 => ⟨_, _, _, _, rfl, (Sa.out.below hb).below h2⟩) (fun h => absurd h (by decide)))
        refine AllOps.cons (Does.lets (g := 21) (d := 122) (t := false) rfl (by kernel_rfl) (by kernel_rfl) (fun vq wq h => h wq (Grows.refl wq)) fun lq aq wq hk hr K hK => ?_) ?_
        · obtain ⟨v22, E22, -, r22⟩ := hk.dep hr 22 123 (by kernel_rfl) (by kernel_rfl)
          have r22 : WV wq v22 a := r22 wq (Grows.refl wq)
          refine wp_of_call (f := 30) (vs := #[v22]) (by go_simp) (neg_v wq r22 (Nat.le_trans (szz_neg hka) (by decide))) ?_
          rintro e w1 ⟨u, rfl, hu, hb⟩
          exact ⟨u, rfl, hK.out _ _ hb (fun w2 h2 => (hu).grow h2) (fun h => absurd h (by decide))⟩
        refine AllOps.cons (Does.lets (g := 21) (d := 122) (t := false) rfl (by kernel_rfl) (by kernel_rfl) (fun vq wq h => h wq (Grows.refl wq)) fun lq aq wq hk hr K hK => ?_) ?_
        · obtain ⟨v23, E23, -, r23⟩ := hk.dep hr 23 124 (by kernel_rfl) (by kernel_rfl)
          have r23 : ZV wq v23 ((-a)) := r23 wq (Grows.refl wq)
          refine wp_of_call (f := 30) (vs := #[v23]) (by go_simp) (neg_v wq (r23).wv (Nat.le_trans (szz_neg (szz_neg hka)) (by decide))) ?_
          rintro e w1 ⟨u, rfl, hu, hb⟩
          exact ⟨u, rfl, hK.out _ _ hb (fun w2 h2 => (hu).grow h2) (fun h => absurd h (by decide))⟩
        refine AllOps.cons (Does.lets (g := 21) (d := 122) (t := false) rfl (by kernel_rfl) (by kernel_rfl) (fun vq wq h => h wq (Grows.refl wq)) fun lq aq wq hk hr K hK => ?_) ?_
        · have B5 : ev aq (.tmp 5) = .pointer (some ⟨ba, 0, none⟩) := hk.base 5 (by kernel_rfl) rfl
          have hb := grows_of hk.ext
          exact wp_of_value (op_load 5 _ B5 (Box2.below Da.out hb)) (hK.out _ _ (Grows.refl _) (fun w2 h2 => ⟨_, _, _, _, rfl, (Sa.out.below hb).below h2⟩) (fun h => absurd h (by decide)))
        refine AllOps.cons (Does.lets (g := 21) (d := 122) (t := false) rfl (by kernel_rfl) (by kernel_rfl) (fun vq wq h => h wq (Grows.refl wq)) fun lq aq wq hk hr K hK => ?_) ?_
        · obtain ⟨v25, E25, -, r25⟩ := hk.dep hr 25 126 (by kernel_rfl) (by kernel_rfl)
          have r25 : WV wq v25 a := r25 wq (Grows.refl wq)
          obtain ⟨n25, A25, k25, c25, rfl, s25⟩ := r25
          exact wp_of_value (op_row1 126 E25) (hK.out _ _ ((Grows.refl _).alloc _) (fun w2 h2 => (RowV.one s25).grow h2) (fun h => absurd h (by decide)))
        refine AllOps.cons (Does.lets (g := 21) (d := 122) (t := false) rfl (by kernel_rfl) (by kernel_rfl) (fun vq wq h => h wq (Grows.refl wq)) fun lq aq wq hk hr K hK => ?_) ?_
        · obtain ⟨v26, E26, -, r26⟩ := hk.dep hr 26 127 (by kernel_rfl) (by kernel_rfl)
          have r26 : RowV wq v26 [a] := r26 wq (Grows.refl wq)
          refine wp_of_call (f := 28) (vs := #[v26]) (by go_simp) (mul1_v wq r26 (Nat.le_trans hka (by decide))) ?_
          rintro e w1 ⟨u, rfl, hu, hb⟩
          exact ⟨u, rfl, hK.out _ _ hb (fun w2 h2 => (hu).grow h2) (fun h => absurd h (by decide))⟩
        refine AllOps.cons (Does.lets (g := 21) (d := 122) (t := false) rfl (by kernel_rfl) (by kernel_rfl) (fun vq wq h => h wq (Grows.refl wq)) fun lq aq wq hk hr K hK => ?_) ?_
        · obtain ⟨v24, E24, -, r24⟩ := hk.dep hr 24 125 (by kernel_rfl) (by kernel_rfl)
          have r24 : ZV wq v24 ((-(-a))) := r24 wq (Grows.refl wq)
          obtain ⟨v27, E27, -, r27⟩ := hk.dep hr 27 128 (by kernel_rfl) (by kernel_rfl)
          have r27 : ZV wq v27 a := r27 wq (Grows.refl wq)
          refine wp_of_call (f := 26) (vs := #[v24, v27]) (by go_simp) (same_v wq r24 r27 (t := true) (decide_eq_true (show - -a = a by omega))) ?_
          rintro e w1 ⟨u, rfl, hu, hb⟩
          exact ⟨u, rfl, hK.out _ _ hb (fun w2 h2 => hu) (fun h => absurd h (by decide))⟩
        refine AllOps.cons (Does.lets (g := 21) (d := 122) (t := false) rfl (by kernel_rfl) (by kernel_rfl) (fun vq wq h => h wq (Grows.refl wq)) fun lq aq wq hk hr K hK => ?_) ?_
        · obtain ⟨v28, E28, -, r28⟩ := hk.dep hr 28 129 (by kernel_rfl) (by kernel_rfl)
          replace E28 : ev aq (.tmp 129) = .bool true := E28.trans (r28 wq (Grows.refl wq))
          exact wp_of_value (by go_simp) (hK.out _ _ (Grows.refl _) (fun w2 h2 => rfl) (fun h => absurd h (by decide)))
        refine AllOps.cons (Does.plain rfl fun lq aq wq hk hr K hK => ?_) ?_
        · obtain ⟨v21, E21, -, r21⟩ := hk.dep hr 21 122 (by kernel_rfl) (by kernel_rfl)
          replace E21 : ev aq (.tmp 122) = .bool false := E21.trans (r21 wq (Grows.refl wq))
          obtain ⟨v29, E29, -, r29⟩ := hk.dep hr 29 130 (by kernel_rfl) (by kernel_rfl)
          replace E29 : ev aq (.tmp 130) = .bool false := E29.trans (r29 wq (Grows.refl wq))
          exact wp_of_value (by go_simp) (hK.out _ _ (Grows.refl _) (fun w2 h2 => rfl) (fun h => absurd h (by decide)))
        refine AllOps.cons (Does.plain rfl fun lq aq wq hk hr K hK => ?_) ?_
        · obtain ⟨v30, E30, -, r30⟩ := hk.dep hr 30 131 (by kernel_rfl) (by kernel_rfl)
          replace E30 : ev aq (.tmp 131) = .bool false := E30.trans (r30 wq (Grows.refl wq))
          exact wp_of_value (by go_simp) (hK.out _ _ (Grows.refl _) (fun w2 h2 => rfl) (fun h => absurd h (by decide)))
        refine AllOps.cons (Does.lets (g := 31) (d := 132) (t := false) rfl (by kernel_rfl) (by kernel_rfl) (fun vq wq h => h wq (Grows.refl wq)) fun lq aq wq hk hr K hK => ?_) ?_
        · have B5 : ev aq (.tmp 5) = .pointer (some ⟨ba, 0, none⟩) := hk.base 5 (by kernel_rfl) rfl
          have hb := grows_of hk.ext
          exact wp_of_value (op_load 5 _ B5 (Box2.below Da.out hb)) (hK.out _ _ (Grows.refl _) (fun w2 h2 => ⟨_, _, _, _, rfl, (Sa.out.below hb).below h2⟩) (fun h => absurd h (by decide)))
        refine AllOps.cons (Does.lets (g := 31) (d := 132) (t := false) rfl (by kernel_rfl) (by kernel_rfl) (fun vq wq h => h wq (Grows.refl wq)) fun lq aq wq hk hr K hK => ?_) ?_
        · refine wp_of_call (f := 31) (vs := #[.int .i64 (-1)]) (by go_simp) (from_v wq ((-1)) (by decide) (by decide)) ?_
          rintro e w1 ⟨u, rfl, hu, hb⟩
          exact ⟨u, rfl, hK.out _ _ hb (fun w2 h2 => (hu).grow h2) (fun h => absurd h (by decide))⟩
        refine AllOps.cons (Does.lets (g := 31) (d := 132) (t := false) rfl (by kernel_rfl) (by kernel_rfl) (fun vq wq h => h wq (Grows.refl wq)) fun lq aq wq hk hr K hK => ?_) ?_
        · obtain ⟨v32, E32, -, r32⟩ := hk.dep hr 32 133 (by kernel_rfl) (by kernel_rfl)
          have r32 : WV wq v32 a := r32 wq (Grows.refl wq)
          obtain ⟨n32, A32, k32, c32, rfl, s32⟩ := r32
          obtain ⟨v33, E33, -, r33⟩ := hk.dep hr 33 134 (by kernel_rfl) (by kernel_rfl)
          have r33 : ZV wq v33 ((-1)) := r33 wq (Grows.refl wq)
          obtain ⟨n33, A33, k33, c33, rfl, s33⟩ := r33
          exact wp_of_value (op_row2 133 134 E32 E33) (hK.out _ _ ((Grows.refl _).alloc _) (fun w2 h2 => (RowV.two s32 s33.whole).grow h2) (fun h => absurd h (by decide)))
        refine AllOps.cons (Does.lets (g := 31) (d := 132) (t := false) rfl (by kernel_rfl) (by kernel_rfl) (fun vq wq h => h wq (Grows.refl wq)) fun lq aq wq hk hr K hK => ?_) ?_
        · obtain ⟨v34, E34, -, r34⟩ := hk.dep hr 34 135 (by kernel_rfl) (by kernel_rfl)
          have r34 : RowV wq v34 [a, (-1)] := r34 wq (Grows.refl wq)
          refine wp_of_call (f := 28) (vs := #[v34]) (by go_simp) (mul2_v wq r34 (Nat.le_trans hka (by decide)) (Nat.le_trans (szz_mul hka (szz_i64 (by decide) (by decide))) (by decide))) ?_
          rintro e w1 ⟨u, rfl, hu, hb⟩
          exact ⟨u, rfl, hK.out _ _ hb (fun w2 h2 => (hu).grow h2) (fun h => absurd h (by decide))⟩
        refine AllOps.cons (Does.lets (g := 31) (d := 132) (t := false) rfl (by kernel_rfl) (by kernel_rfl) (fun vq wq h => h wq (Grows.refl wq)) fun lq aq wq hk hr K hK => ?_) ?_
        · have B5 : ev aq (.tmp 5) = .pointer (some ⟨ba, 0, none⟩) := hk.base 5 (by kernel_rfl) rfl
          have hb := grows_of hk.ext
          exact wp_of_value (op_load 5 _ B5 (Box2.below Da.out hb)) (hK.out _ _ (Grows.refl _) (fun w2 h2 => ⟨_, _, _, _, rfl, (Sa.out.below hb).below h2⟩) (fun h => absurd h (by decide)))
        refine AllOps.cons (Does.lets (g := 31) (d := 132) (t := false) rfl (by kernel_rfl) (by kernel_rfl) (fun vq wq h => h wq (Grows.refl wq)) fun lq aq wq hk hr K hK => ?_) ?_
        · obtain ⟨v36, E36, -, r36⟩ := hk.dep hr 36 137 (by kernel_rfl) (by kernel_rfl)
          have r36 : WV wq v36 a := r36 wq (Grows.refl wq)
          refine wp_of_call (f := 30) (vs := #[v36]) (by go_simp) (neg_v wq r36 (Nat.le_trans (szz_neg hka) (by decide))) ?_
          rintro e w1 ⟨u, rfl, hu, hb⟩
          exact ⟨u, rfl, hK.out _ _ hb (fun w2 h2 => (hu).grow h2) (fun h => absurd h (by decide))⟩
        refine AllOps.cons (Does.lets (g := 31) (d := 132) (t := false) rfl (by kernel_rfl) (by kernel_rfl) (fun vq wq h => h wq (Grows.refl wq)) fun lq aq wq hk hr K hK => ?_) ?_
        · obtain ⟨v35, E35, -, r35⟩ := hk.dep hr 35 136 (by kernel_rfl) (by kernel_rfl)
          have r35 : ZV wq v35 ((a * (-1))) := r35 wq (Grows.refl wq)
          obtain ⟨v37, E37, -, r37⟩ := hk.dep hr 37 138 (by kernel_rfl) (by kernel_rfl)
          have r37 : ZV wq v37 ((-a)) := r37 wq (Grows.refl wq)
          refine wp_of_call (f := 26) (vs := #[v35, v37]) (by go_simp) (same_v wq r35 r37 (t := true) (decide_eq_true (show a * -1 = -a by omega))) ?_
          rintro e w1 ⟨u, rfl, hu, hb⟩
          exact ⟨u, rfl, hK.out _ _ hb (fun w2 h2 => hu) (fun h => absurd h (by decide))⟩
        refine AllOps.cons (Does.lets (g := 31) (d := 132) (t := false) rfl (by kernel_rfl) (by kernel_rfl) (fun vq wq h => h wq (Grows.refl wq)) fun lq aq wq hk hr K hK => ?_) ?_
        · obtain ⟨v38, E38, -, r38⟩ := hk.dep hr 38 139 (by kernel_rfl) (by kernel_rfl)
          replace E38 : ev aq (.tmp 139) = .bool true := E38.trans (r38 wq (Grows.refl wq))
          exact wp_of_value (by go_simp) (hK.out _ _ (Grows.refl _) (fun w2 h2 => rfl) (fun h => absurd h (by decide)))
        refine AllOps.cons (Does.plain rfl fun lq aq wq hk hr K hK => ?_) ?_
        · obtain ⟨v31, E31, -, r31⟩ := hk.dep hr 31 132 (by kernel_rfl) (by kernel_rfl)
          replace E31 : ev aq (.tmp 132) = .bool false := E31.trans (r31 wq (Grows.refl wq))
          obtain ⟨v39, E39, -, r39⟩ := hk.dep hr 39 140 (by kernel_rfl) (by kernel_rfl)
          replace E39 : ev aq (.tmp 140) = .bool false := E39.trans (r39 wq (Grows.refl wq))
          exact wp_of_value (by go_simp) (hK.out _ _ (Grows.refl _) (fun w2 h2 => rfl) (fun h => absurd h (by decide)))
        refine AllOps.cons (Does.plain rfl fun lq aq wq hk hr K hK => ?_) ?_
        · obtain ⟨v40, E40, -, r40⟩ := hk.dep hr 40 141 (by kernel_rfl) (by kernel_rfl)
          replace E40 : ev aq (.tmp 141) = .bool false := E40.trans (r40 wq (Grows.refl wq))
          exact wp_of_value (by go_simp) (hK.out _ _ (Grows.refl _) (fun w2 h2 => rfl) (fun h => absurd h (by decide)))
        refine AllOps.cons (Does.lets (g := 41) (d := 142) (t := false) rfl (by kernel_rfl) (by kernel_rfl) (fun vq wq h => h wq (Grows.refl wq)) fun lq aq wq hk hr K hK => ?_) ?_
        · have B5 : ev aq (.tmp 5) = .pointer (some ⟨ba, 0, none⟩) := hk.base 5 (by kernel_rfl) rfl
          have hb := grows_of hk.ext
          exact wp_of_value (op_load 5 _ B5 (Box2.below Da.out hb)) (hK.out _ _ (Grows.refl _) (fun w2 h2 => ⟨_, _, _, _, rfl, (Sa.out.below hb).below h2⟩) (fun h => absurd h (by decide)))
        refine AllOps.cons (Does.lets (g := 41) (d := 142) (t := false) rfl (by kernel_rfl) (by kernel_rfl) (fun vq wq h => h wq (Grows.refl wq)) fun lq aq wq hk hr K hK => ?_) ?_
        · exact wp_of_value (by go_simp) (hK.out _ _ (Grows.refl _) (fun w2 h2 => (ZV.zero _ 0).grow h2) (fun h => absurd h (by decide)))
        refine AllOps.cons (Does.lets (g := 41) (d := 142) (t := false) rfl (by kernel_rfl) (by kernel_rfl) (fun vq wq h => h wq (Grows.refl wq)) fun lq aq wq hk hr K hK => ?_) ?_
        · obtain ⟨v42, E42, -, r42⟩ := hk.dep hr 42 143 (by kernel_rfl) (by kernel_rfl)
          have r42 : WV wq v42 a := r42 wq (Grows.refl wq)
          obtain ⟨n42, A42, k42, c42, rfl, s42⟩ := r42
          obtain ⟨v43, E43, -, r43⟩ := hk.dep hr 43 144 (by kernel_rfl) (by kernel_rfl)
          have r43 : ZV wq v43 0 := r43 wq (Grows.refl wq)
          obtain ⟨n43, A43, k43, c43, rfl, s43⟩ := r43
          exact wp_of_value (op_row2 143 144 E42 E43) (hK.out _ _ ((Grows.refl _).alloc _) (fun w2 h2 => (RowV.two s42 s43.whole).grow h2) (fun h => absurd h (by decide)))
        refine AllOps.cons (Does.lets (g := 41) (d := 142) (t := false) rfl (by kernel_rfl) (by kernel_rfl) (fun vq wq h => h wq (Grows.refl wq)) fun lq aq wq hk hr K hK => ?_) ?_
        · obtain ⟨v44, E44, -, r44⟩ := hk.dep hr 44 145 (by kernel_rfl) (by kernel_rfl)
          have r44 : RowV wq v44 [a, 0] := r44 wq (Grows.refl wq)
          refine wp_of_call (f := 28) (vs := #[v44]) (by go_simp) (mul2_v wq r44 (Nat.le_trans hka (by decide)) (Nat.le_trans (szz_mul hka szz_zero) (by decide))) ?_
          rintro e w1 ⟨u, rfl, hu, hb⟩
          exact ⟨u, rfl, hK.out _ _ hb (fun w2 h2 => (hu).grow h2) (fun h => absurd h (by decide))⟩
        refine AllOps.cons (Does.lets (g := 41) (d := 142) (t := false) rfl (by kernel_rfl) (by kernel_rfl) (fun vq wq h => h wq (Grows.refl wq)) fun lq aq wq hk hr K hK => ?_) ?_
        · exact wp_of_value (by go_simp) (hK.out _ _ (Grows.refl _) (fun w2 h2 => (ZV.zero _ 0).grow h2) (fun h => absurd h (by decide)))
        refine AllOps.cons (Does.lets (g := 41) (d := 142) (t := false) rfl (by kernel_rfl) (by kernel_rfl) (fun vq wq h => h wq (Grows.refl wq)) fun lq aq wq hk hr K hK => ?_) ?_
        · obtain ⟨v45, E45, -, r45⟩ := hk.dep hr 45 146 (by kernel_rfl) (by kernel_rfl)
          have r45 : ZV wq v45 ((a * 0)) := r45 wq (Grows.refl wq)
          obtain ⟨v46, E46, -, r46⟩ := hk.dep hr 46 147 (by kernel_rfl) (by kernel_rfl)
          have r46 : ZV wq v46 0 := r46 wq (Grows.refl wq)
          refine wp_of_call (f := 26) (vs := #[v45, v46]) (by go_simp) (same_v wq r45 r46 (t := true) (decide_eq_true (Int.mul_zero a))) ?_
          rintro e w1 ⟨u, rfl, hu, hb⟩
          exact ⟨u, rfl, hK.out _ _ hb (fun w2 h2 => hu) (fun h => absurd h (by decide))⟩
        refine AllOps.cons (Does.lets (g := 41) (d := 142) (t := false) rfl (by kernel_rfl) (by kernel_rfl) (fun vq wq h => h wq (Grows.refl wq)) fun lq aq wq hk hr K hK => ?_) ?_
        · obtain ⟨v47, E47, -, r47⟩ := hk.dep hr 47 148 (by kernel_rfl) (by kernel_rfl)
          replace E47 : ev aq (.tmp 148) = .bool true := E47.trans (r47 wq (Grows.refl wq))
          exact wp_of_value (by go_simp) (hK.out _ _ (Grows.refl _) (fun w2 h2 => rfl) (fun h => absurd h (by decide)))
        refine AllOps.cons (Does.plain rfl fun lq aq wq hk hr K hK => ?_) ?_
        · obtain ⟨v41, E41, -, r41⟩ := hk.dep hr 41 142 (by kernel_rfl) (by kernel_rfl)
          replace E41 : ev aq (.tmp 142) = .bool false := E41.trans (r41 wq (Grows.refl wq))
          obtain ⟨v48, E48, -, r48⟩ := hk.dep hr 48 149 (by kernel_rfl) (by kernel_rfl)
          replace E48 : ev aq (.tmp 149) = .bool false := E48.trans (r48 wq (Grows.refl wq))
          exact wp_of_value (by go_simp) (hK.out _ _ (Grows.refl _) (fun w2 h2 => rfl) (fun h => absurd h (by decide)))
        exact AllOps.nil
      case fin =>
        intro V x3 hG hV hap
        have r49 : (V 49) = .bool false := hV 49 (by decide)
        clear hV hap
        simp only [List.take_succ_cons, List.take_nil, List.drop_succ_cons, List.drop_nil, putAll, Act.put, List.setIfInBounds_toArray, List.set_cons_zero, List.set_cons_succ]
        have hb := grows_of hG
        replace Da := Lib.hid (Box2.below Da.out hb)
        replace Sa := Lib.hid (Sa.out.below hb)
        replace Db := Lib.hid (Box2.below Db.out hb)
        replace Sb := Lib.hid (Sb.out.below hb)
        replace Dc := Lib.hid (Box2.below Dc.out hb)
        replace Sc := Lib.hid (Sc.out.below hb)
        replace HR := Lib.hid (HR.out.below hb)
        replace HB := Lib.hid (HB.out.trans (Below.mono hb HB.out.size))
        clear hb hG
        rw [r49]
        clear r49
        clear Da Sa
        clear Db Sb
        clear Dc Sc
        go_upto_region 8 with fail
        obtain ⟨Z, hZ⟩ : ∃ Z, (R.take 6).map (fewZ 10) = Z := ⟨_, rfl⟩
        have hZl : Z.length ≤ 6 := by rw [← hZ, List.length_map, List.length_take]; omega
        have hZz : ∀ z ∈ Z, szz z ≤ 10 := fun z hz => by
          rw [← hZ] at hz
          obtain ⟨p, hp, rfl⟩ := List.mem_map.1 hz
          exact szz_fewZ 10 p (hlim.out p (List.mem_of_mem_take hp))
        replace hZz := Lib.hid hZz
        refine wp_region_calm 2 [] ([fun vq _ => vq = .slice A rl d,
            fun vq wq => RowV wq vq Z]) (by kernel_rfl) (by decide) ?hF ?steps ?fin
        case hF =>
          intro j hj; cases hj
        case steps =>
          refine AllOps.cons (Does.plain rfl fun lq aq wq hk hr K hK => ?_) ?_
          · have B1 : ev aq (.tmp 1) = .slice A rl d := hk.base 1 (by kernel_rfl) rfl
            exact wp_of_value (by go_simp) (hK.out _ _ (Grows.refl _) (fun w2 h2 => rfl) (fun h => absurd h (by decide)))
          refine AllOps.cons (Does.plain rfl fun lq aq wq hk hr K hK => ?_) ?_
          · obtain ⟨v0, E0, -, r0⟩ := hk.dep hr 0 151 (by kernel_rfl) (by kernel_rfl)
            replace E0 : ev aq (.tmp 151) = .slice A rl d := E0.trans (r0 wq (Grows.refl wq))
            refine wp_of_call (f := 32) (vs := #[.slice A rl d, .int .i64 6, .int .i64 10]) (by go_simp) ((by have h := all_any wq A d R (HR.out.below hk.ext) (by rw [hrl.out]; exact hRl); rwa [hrl.out, hZ] at h)) ?_
            rintro e w1 ⟨u, rfl, hu, hb⟩
            exact ⟨u, rfl, hK.out _ _ hb (fun w2 h2 => (hu).grow h2) (fun h => absurd h (by decide))⟩
          exact AllOps.nil
        case fin =>
          intro V x4 hG hV hap
          have r1 : RowV x4 (V 1) Z := hV 1 (by decide)
          clear hV hap
          simp only [List.take_succ_cons, List.take_zero, List.drop_succ_cons, List.drop_zero, putAll, Act.put, List.setIfInBounds_toArray, List.set_cons_zero, List.set_cons_succ]
          have hb := (show Below _ _ _ from hG)
          replace HR := Lib.hid (HR.out.below hb)
          replace HB := Lib.hid (HB.out.trans (Below.mono hb HB.out.size))
          clear hb hG
          obtain ⟨B, e, eB, hc⟩ := r1
          simp only [eB]
          obtain ⟨zl, hzl⟩ : ∃ n, Z.length = n := ⟨_, rfl⟩
          rw [hzl] at hZl ⊢
          replace hzl := Lib.hid hzl
          have HC := Lib.hid hc
          clear eB hc HR hZ hlim
          go_upto_region 9 with fail
          have HW := HB
          replace HB := Lib.hid (Below.refl x4.heap.size x4)
          refine wp_region_calm 4 [2, 3] ([fun vq wq => ZV wq vq 0,
              fun vq wq => ZV wq vq 1,
              fun vq wq => ∃ bq, vq = .pointer (some ⟨bq, 0, none⟩) ∧ Box2 wq bq 24 (.bool false) (.slice none 0 0) ∧ (x4).heap.size ≤ bq,
              fun vq wq => ∃ bq, vq = .pointer (some ⟨bq, 0, none⟩) ∧ Box2 wq bq 24 (.bool false) (.slice none 0 0) ∧ (x4).heap.size ≤ bq]) (by kernel_rfl) (by decide) ?hF ?steps ?fin
          case hF =>
            intro j hj v w h
            simp only [List.mem_cons, List.not_mem_nil, or_false] at hj
            rcases hj with rfl | rfl
            all_goals (obtain ⟨b, rfl, hB, _⟩ := h; exact hB.lt)
          case steps =>
            refine AllOps.cons (Does.plain rfl fun lq aq wq hk hr K hK => ?_) ?_
            · exact wp_of_value (by go_simp) (hK.out _ _ (Grows.refl _) (fun w2 h2 => (ZV.zero _ 0).grow h2) (fun h => absurd h (by decide)))
            refine AllOps.cons (Does.plain rfl fun lq aq wq hk hr K hK => ?_) ?_
            · refine wp_of_call (f := 31) (vs := #[.int .i64 1]) (by go_simp) (from_v wq 1 (by decide) (by decide)) ?_
              rintro e w1 ⟨u, rfl, hu, hb⟩
              exact ⟨u, rfl, hK.out _ _ hb (fun w2 h2 => (hu).grow h2) (fun h => absurd h (by decide))⟩
            refine AllOps.cons (Does.plain rfl fun lq aq wq hk hr K hK => ?_) ?_
            · exact wp_of_value (by go_simp) (hK.out _ _ ((Grows.refl _).alloc _) (fun w2 h2 => ⟨_, rfl, (Box2.new wq 24 _ _).below h2, hk.ext.size⟩) (fun _ => Nat.le_refl _))
            refine AllOps.cons (Does.plain rfl fun lq aq wq hk hr K hK => ?_) ?_
            · exact wp_of_value (by go_simp) (hK.out _ _ ((Grows.refl _).alloc _) (fun w2 h2 => ⟨_, rfl, (Box2.new wq 24 _ _).below h2, hk.ext.size⟩) (fun _ => Nat.le_refl _))
            exact AllOps.nil
          case fin =>
            intro V x5 hG hV hap
            have r0 : ZV x5 (V 0) 0 := hV 0 (by decide)
            have r1 : ZV x5 (V 1) 1 := hV 1 (by decide)
            have r2 : ∃ bq, (V 2) = .pointer (some ⟨bq, 0, none⟩) ∧ Box2 x5 bq 24 (.bool false) (.slice none 0 0) ∧ (x4).heap.size ≤ bq := hV 2 (by decide)
            have r3 : ∃ bq, (V 3) = .pointer (some ⟨bq, 0, none⟩) ∧ Box2 x5 bq 24 (.bool false) (.slice none 0 0) ∧ (x4).heap.size ≤ bq := hV 3 (by decide)
            clear hV
            simp only [List.take_succ_cons, List.take_zero, List.drop_succ_cons, List.drop_zero, putAll, Act.put, List.setIfInBounds_toArray, List.set_cons_zero, List.set_cons_succ]
            have hb := (show Below _ _ _ from hG)
            obtain ⟨bs, es, Ds, gs⟩ := r2
            obtain ⟨ns, As, ks, cs, es', ss⟩ := r0
            obtain ⟨bp, ep, Dp, gp⟩ := r3
            obtain ⟨np, Ap, kp, cp, ep', sp⟩ := r1
            have nn : bs ≠ bp := by
              have h := hap 2 3 (by decide) (by decide) (by decide) (by decide) (by decide) rfl rfl
              rw [es, ep] at h
              exact h
            simp only [es, es', ep, ep']
            clear hap es es' ep ep'
            refine wpList_of_skip rfl (op_store 8 153 _ rfl rfl Ds) ?_
            have E2 := put2_far (u := .bool ns) (v := .slice As ks cs) Dp (Ne.symm nn)
            refine wpList_of_skip rfl (op_store 9 154 _ rfl rfl E2) ?_
            have hB := put2_below (u := .bool np) (v := .slice Ap kp cp) (put2_below (u := .bool ns) (v := .slice As ks cs) hb gs) gp
            have F1 := put2_far (u := .bool np) (v := .slice Ap kp cp) (put2_own (u := .bool ns) (v := .slice As ks cs) Ds) nn
            have F2 := put2_own (u := .bool np) (v := .slice Ap kp cp) E2
            have ss' := (ss.put Ds (.bool ns) (.slice As ks cs)).put E2 (.bool np) (.slice Ap kp cp)
            have sp' := (sp.put Ds (.bool ns) (.slice As ks cs)).put E2 (.bool np) (.slice Ap kp cp)
            clear hb hG Ds Dp E2 ss sp
            have Ds := Lib.hid F1
            have Dp := Lib.hid F2
            have Ss := Lib.hid ss'
            have Sp := Lib.hid sp'
            clear F1 F2 ss' sp'
            generalize put2 (put2 x5 bs (.bool ns) (.slice As ks cs)) bp (.bool np) (.slice Ap kp cp) = y6 at *
            replace HB := Lib.hid (HB.out.trans (Below.mono hB HB.out.size))
            clear hB
            go_wp2_with fail
            go_loopw [10] (fun iv wr => ∃ (k : Nat) (n1 : Bool) (A1 : Option Addr) (k1 c1 : Nat) (n2 : Bool) (A2 : Option Addr) (k2 c2 : Nat), k ≤ zl ∧ iv = .int .i64 k ∧ Hid (Box2 wr bs 24 (.bool n1) (.slice A1 k1 c1) ∧ Sound wr n1 (.slice A1 k1 c1) ((Z.take k).foldl (fun x y : Int => x + y) 0) ∧ Box2 wr bp 24 (.bool n2) (.slice A2 k2 c2) ∧ Sound wr n2 (.slice A2 k2 c2) ((Z.take k).foldl (fun x y : Int => x * y) 1) ∧ Below x4.heap.size x4 wr)) (fun iv _ => zl - (intOf iv).toNat)
            case atStart => exact ⟨0, ns, As, ks, cs, np, Ap, kp, cp, Nat.zero_le _, rfl, Lib.hid ⟨Ds.out, Ss.out, Dp.out, Sp.out, HB.out⟩⟩
            case round =>
              clear Ds Ss Dp Sp HB
              obtain ⟨k, ns, As, ks, cs, np, Ap, kp, cp, hk, rfl, HI⟩ := hrel
              obtain ⟨Ds, Ss, Dp, Sp, HB⟩ := HI.out
              clear HI
              replace Ds := Lib.hid Ds
              replace Ss := Lib.hid Ss
              replace Dp := Lib.hid Dp
              replace Sp := Lib.hid Sp
              replace HB := Lib.hid HB
              obtain ⟨S, hS⟩ : ∃ S, (Z.take k).foldl (fun x y : Int => x + y) 0 = S := ⟨_, rfl⟩
              obtain ⟨M, hM⟩ : ∃ M, (Z.take k).foldl (fun x y : Int => x * y) 1 = M := ⟨_, rfl⟩
              have hkS : szz S ≤ 16 := by
                have h := szz_foldl_add (Z.take k) 0 10 0 szz_zero (fun z h => hZz.out z (List.mem_of_mem_take h))
                rw [hS, List.length_take, hzl.out] at h
                omega
              have hkM : szz M ≤ 61 := by
                have h := szz_foldl_mul (Z.take k) 1 10 1 (sz_le (by decide)) (fun z h => hZz.out z (List.mem_of_mem_take h))
                rw [hM, List.length_take, hzl.out] at h
                omega
              rw [hS] at Ss
              rw [hM] at Sp
              replace hS := Lib.hid hS
              replace hM := Lib.hid hM
              rcases Nat.lt_or_ge k zl with hlt | hge
              · skip
                obtain ⟨z, hz⟩ := get_some (l := Z) (k := k) (by rw [hzl.out]; exact hlt)
                obtain ⟨b, o, nz, mz, rfl, hz0, hz1, Hz⟩ := HC.out.at_ hz
                obtain ⟨Az, kz, cz, rfl⟩ := Hz.shape
                have hkz : szz z ≤ 10 := hZz.out z (List.mem_of_getElem? hz)
                have hkS2 : szz (S + z) ≤ 1000 := Nat.le_trans (szz_add hkS hkz) (by decide)
                have hkM2 : szz (M * z) ≤ 1000 := Nat.le_trans (szz_mul hkM hkz) (by decide)
                replace hz := Lib.hid hz
                replace Hz := Lib.hid Hz
                have hbl := World.block_lt_of_cell? _ _ hz0
                have HX : Hid (Box2S x4 b (o + k * 2) (.bool nz) (.slice Az kz cz)) := Lib.hid ⟨hz0, hz1, hbl⟩
                clear hz0 hz1 hbl
                go_upto_region 13 with fail
                refine wp_region_going 7 [] ([fun vq wq => ZV wq vq S,
                    fun vq _ => vq = .slice (some ⟨b, o, none⟩) zl e,
                    fun vq _ => vq = .int .i64 k,
                    fun vq _ => vq = .pointer (some ⟨b, o + k * 2, none⟩),
                    fun vq wq => WV wq vq z,
                    fun vq wq => RowV wq vq [S, z],
                    fun vq wq => ZV wq vq ((S + z))]) (by kernel_rfl) (by kernel_rfl) (by decide) (by kernel_rfl) (by kernel_rfl) ?hF ?steps ?fin
                case hF =>
                  intro j hj; cases hj
                case steps =>
                  refine AllOps.cons (Does.plain rfl fun lq aq wq hk hr K hK => ?_) ?_
                  · have B8 : ev aq (.tmp 8) = .pointer (some ⟨bs, 0, none⟩) := hk.base 8 (by kernel_rfl) rfl
                    have hb := grows_of hk.ext
                    exact wp_of_value (op_load 8 _ B8 (Box2.below Ds.out hb)) (hK.out _ _ (Grows.refl _) (fun w2 h2 => ⟨_, _, _, _, rfl, (Ss.out.below hb).below h2⟩) (fun h => absurd h (by decide)))
                  refine AllOps.cons (Does.plain rfl fun lq aq wq hk hr K hK => ?_) ?_
                  · have B1 : ev aq (.tmp 1) = .slice (some ⟨b, o, none⟩) zl e := hk.base 1 (by kernel_rfl) rfl
                    exact wp_of_value (by go_simp) (hK.out _ _ (Grows.refl _) (fun w2 h2 => rfl) (fun h => absurd h (by decide)))
                  refine AllOps.cons (Does.plain rfl fun lq aq wq hk hr K hK => ?_) ?_
                  · have B10 : ev aq (.tmp 10) = .int .i64 k := hk.base 10 (by kernel_rfl) rfl
                    exact wp_of_value (by go_simp) (hK.out _ _ (Grows.refl _) (fun w2 h2 => rfl) (fun h => absurd h (by decide)))
                  refine AllOps.cons (Does.plain rfl fun lq aq wq hk hr K hK => ?_) ?_
                  · obtain ⟨v1, E1, -, r1⟩ := hk.dep hr 1 162 (by kernel_rfl) (by kernel_rfl)
                    replace E1 : ev aq (.tmp 162) = .slice (some ⟨b, o, none⟩) zl e := E1.trans (r1 wq (Grows.refl wq))
                    obtain ⟨v2, E2, -, r2⟩ := hk.dep hr 2 163 (by kernel_rfl) (by kernel_rfl)
                    replace E2 : ev aq (.tmp 163) = .int .i64 k := E2.trans (r2 wq (Grows.refl wq))
                    exact wp_of_value (by go_simp) (hK.out _ _ (Grows.refl _) (fun w2 h2 => rfl) (fun h => absurd h (by decide)))
                  refine AllOps.cons (Does.plain rfl fun lq aq wq hk hr K hK => ?_) ?_
                  · obtain ⟨v3, E3, -, r3⟩ := hk.dep hr 3 164 (by kernel_rfl) (by kernel_rfl)
                    replace E3 : ev aq (.tmp 164) = .pointer (some ⟨b, o + k * 2, none⟩) := E3.trans (r3 wq (Grows.refl wq))
                    have hb := grows_of hk.ext
                    have hq := HB.out.trans (Below.mono hb HB.out.size)
                    have c0 := (HX.out.below hq).1
                    have c1 := (HX.out.below hq).2.1
                    exact wp_of_value (op_load_two 164 _ _ E3 c0 c1) (hK.out _ _ (Grows.refl _) (fun w2 h2 => ⟨_, _, _, _, rfl, (Hz.out.below hq).below h2⟩) (fun h => absurd h (by decide)))
                  refine AllOps.cons (Does.plain rfl fun lq aq wq hk hr K hK => ?_) ?_
                  · obtain ⟨v0, E0, -, r0⟩ := hk.dep hr 0 161 (by kernel_rfl) (by kernel_rfl)
                    have r0 : ZV wq v0 S := r0 wq (Grows.refl wq)
                    obtain ⟨n0, A0, k0, c0, rfl, s0⟩ := r0
                    obtain ⟨v4, E4, -, r4⟩ := hk.dep hr 4 165 (by kernel_rfl) (by kernel_rfl)
                    have r4 : WV wq v4 z := r4 wq (Grows.refl wq)
                    obtain ⟨n4, A4, k4, c4, rfl, s4⟩ := r4
                    exact wp_of_value (op_row2 161 165 E0 E4) (hK.out _ _ ((Grows.refl _).alloc _) (fun w2 h2 => (RowV.two s0.whole s4).grow h2) (fun h => absurd h (by decide)))
                  refine AllOps.cons (Does.plain rfl fun lq aq wq hk hr K hK => ?_) ?_
                  · obtain ⟨v5, E5, -, r5⟩ := hk.dep hr 5 166 (by kernel_rfl) (by kernel_rfl)
                    have r5 : RowV wq v5 [S, z] := r5 wq (Grows.refl wq)
                    refine wp_of_call (f := 27) (vs := #[v5]) (by go_simp) (add2_v wq r5 (Nat.le_trans hkS (by decide)) (Nat.le_trans (szz_add hkS hkz) (by decide))) ?_
                    rintro e w1 ⟨u, rfl, hu, hb⟩
                    exact ⟨u, rfl, hK.out _ _ hb (fun w2 h2 => (hu).grow h2) (fun h => absurd h (by decide))⟩
                  exact AllOps.nil
                case fin =>
                  intro V x7 hG hV hap
                  have r6 : ZV x7 (V 6) ((S + z)) := hV 6 (by decide)
                  clear hV hap
                  simp only [List.take_succ_cons, List.take_zero, List.drop_succ_cons, List.drop_zero, putAll, Act.put, List.setIfInBounds_toArray, List.set_cons_zero, List.set_cons_succ]
                  have hb := grows_of hG
                  obtain ⟨nm8, Am8, km8, cm8, em8, sm8⟩ := r6
                  simp only [em8]
                  clear em8
                  replace Ds := Box2.below Ds.out hb
                  refine wpList_of_skip rfl (op_store 8 167 _ rfl rfl Ds) ?_
                  replace Dp := Lib.hid (put2_far (u := .bool nm8) (v := .slice Am8 km8 cm8) (Box2.below Dp.out hb) (show bp ≠ bs by omega))
                  replace Sp := Lib.hid ((Sp.out.below hb).put Ds (.bool nm8) (.slice Am8 km8 cm8))
                  have Ss' := Lib.hid (sm8.put Ds (.bool nm8) (.slice Am8 km8 cm8))
                  replace HB := Lib.hid (put2_below (u := .bool nm8) (v := .slice Am8 km8 cm8) (HB.out.trans (Below.mono hb HB.out.size)) (show x4.heap.size ≤ bs by omega))
                  replace Ds := Lib.hid (put2_own (u := .bool nm8) (v := .slice Am8 km8 cm8) Ds)
                  clear hb hG sm8 Ss
                  have Ss := Ss'
                  clear Ss'
                  generalize put2 x7 bs (.bool nm8) (.slice Am8 km8 cm8) = y9 at *
                  go_upto_region 14 with fail
                  refine wp_region_going 7 [] ([fun vq wq => ZV wq vq M,
                      fun vq _ => vq = .slice (some ⟨b, o, none⟩) zl e,
                      fun vq _ => vq = .int .i64 k,
                      fun vq _ => vq = .pointer (some ⟨b, o + k * 2, none⟩),
                      fun vq wq => WV wq vq z,
                      fun vq wq => RowV wq vq [M, z],
                      fun vq wq => ZV wq vq ((M * z))]) (by kernel_rfl) (by kernel_rfl) (by decide) (by kernel_rfl) (by kernel_rfl) ?hF ?steps ?fin
                  case hF =>
                    intro j hj; cases hj
                  case steps =>
                    refine AllOps.cons (Does.plain rfl fun lq aq wq hk hr K hK => ?_) ?_
                    · have B9 : ev aq (.tmp 9) = .pointer (some ⟨bp, 0, none⟩) := hk.base 9 (by kernel_rfl) rfl
                      have hb := grows_of hk.ext
                      exact wp_of_value (op_load 9 _ B9 (Box2.below Dp.out hb)) (hK.out _ _ (Grows.refl _) (fun w2 h2 => ⟨_, _, _, _, rfl, (Sp.out.below hb).below h2⟩) (fun h => absurd h (by decide)))
                    refine AllOps.cons (Does.plain rfl fun lq aq wq hk hr K hK => ?_) ?_
                    · have B1 : ev aq (.tmp 1) = .slice (some ⟨b, o, none⟩) zl e := hk.base 1 (by kernel_rfl) rfl
                      exact wp_of_value (by go_simp) (hK.out _ _ (Grows.refl _) (fun w2 h2 => rfl) (fun h => absurd h (by decide)))
                    refine AllOps.cons (Does.plain rfl fun lq aq wq hk hr K hK => ?_) ?_
                    · have B10 : ev aq (.tmp 10) = .int .i64 k := hk.base 10 (by kernel_rfl) rfl
                      exact wp_of_value (by go_simp) (hK.out _ _ (Grows.refl _) (fun w2 h2 => rfl) (fun h => absurd h (by decide)))
                    refine AllOps.cons (Does.plain rfl fun lq aq wq hk hr K hK => ?_) ?_
                    · obtain ⟨v1, E1, -, r1⟩ := hk.dep hr 1 169 (by kernel_rfl) (by kernel_rfl)
                      replace E1 : ev aq (.tmp 169) = .slice (some ⟨b, o, none⟩) zl e := E1.trans (r1 wq (Grows.refl wq))
                      obtain ⟨v2, E2, -, r2⟩ := hk.dep hr 2 170 (by kernel_rfl) (by kernel_rfl)
                      replace E2 : ev aq (.tmp 170) = .int .i64 k := E2.trans (r2 wq (Grows.refl wq))
                      exact wp_of_value (by go_simp) (hK.out _ _ (Grows.refl _) (fun w2 h2 => rfl) (fun h => absurd h (by decide)))
                    refine AllOps.cons (Does.plain rfl fun lq aq wq hk hr K hK => ?_) ?_
                    · obtain ⟨v3, E3, -, r3⟩ := hk.dep hr 3 171 (by kernel_rfl) (by kernel_rfl)
                      replace E3 : ev aq (.tmp 171) = .pointer (some ⟨b, o + k * 2, none⟩) := E3.trans (r3 wq (Grows.refl wq))
                      have hb := grows_of hk.ext
                      have hq := HB.out.trans (Below.mono hb HB.out.size)
                      have c0 := (HX.out.below hq).1
                      have c1 := (HX.out.below hq).2.1
                      exact wp_of_value (op_load_two 171 _ _ E3 c0 c1) (hK.out _ _ (Grows.refl _) (fun w2 h2 => ⟨_, _, _, _, rfl, (Hz.out.below hq).below h2⟩) (fun h => absurd h (by decide)))
                    refine AllOps.cons (Does.plain rfl fun lq aq wq hk hr K hK => ?_) ?_
                    · obtain ⟨v0, E0, -, r0⟩ := hk.dep hr 0 168 (by kernel_rfl) (by kernel_rfl)
                      have r0 : ZV wq v0 M := r0 wq (Grows.refl wq)
                      obtain ⟨n0, A0, k0, c0, rfl, s0⟩ := r0
                      obtain ⟨v4, E4, -, r4⟩ := hk.dep hr 4 172 (by kernel_rfl) (by kernel_rfl)
                      have r4 : WV wq v4 z := r4 wq (Grows.refl wq)
                      obtain ⟨n4, A4, k4, c4, rfl, s4⟩ := r4
                      exact wp_of_value (op_row2 168 172 E0 E4) (hK.out _ _ ((Grows.refl _).alloc _) (fun w2 h2 => (RowV.two s0.whole s4).grow h2) (fun h => absurd h (by decide)))
                    refine AllOps.cons (Does.plain rfl fun lq aq wq hk hr K hK => ?_) ?_
                    · obtain ⟨v5, E5, -, r5⟩ := hk.dep hr 5 173 (by kernel_rfl) (by kernel_rfl)
                      have r5 : RowV wq v5 [M, z] := r5 wq (Grows.refl wq)
                      refine wp_of_call (f := 28) (vs := #[v5]) (by go_simp) (mul2_v wq r5 (Nat.le_trans hkM (by decide)) (Nat.le_trans (szz_mul hkM hkz) (by decide))) ?_
                      rintro e w1 ⟨u, rfl, hu, hb⟩
                      exact ⟨u, rfl, hK.out _ _ hb (fun w2 h2 => (hu).grow h2) (fun h => absurd h (by decide))⟩
                    exact AllOps.nil
                  case fin =>
                    intro V x10 hG hV hap
                    have r6 : ZV x10 (V 6) ((M * z)) := hV 6 (by decide)
                    clear hV hap
                    simp only [List.take_succ_cons, List.take_zero, List.drop_succ_cons, List.drop_zero, putAll, Act.put, List.setIfInBounds_toArray, List.set_cons_zero, List.set_cons_succ]
                    have hb := grows_of hG
                    obtain ⟨nm11, Am11, km11, cm11, em11, sm11⟩ := r6
                    simp only [em11]
                    clear em11
                    replace Dp := Box2.below Dp.out hb
                    refine wpList_of_skip rfl (op_store 9 174 _ rfl rfl Dp) ?_
                    replace Ds := Lib.hid (put2_far (u := .bool nm11) (v := .slice Am11 km11 cm11) (Box2.below Ds.out hb) (show bs ≠ bp by omega))
                    replace Ss := Lib.hid ((Ss.out.below hb).put Dp (.bool nm11) (.slice Am11 km11 cm11))
                    have Sp' := Lib.hid (sm11.put Dp (.bool nm11) (.slice Am11 km11 cm11))
                    replace HB := Lib.hid (put2_below (u := .bool nm11) (v := .slice Am11 km11 cm11) (HB.out.trans (Below.mono hb HB.out.size)) (show x4.heap.size ≤ bp by omega))
                    replace Dp := Lib.hid (put2_own (u := .bool nm11) (v := .slice Am11 km11 cm11) Dp)
                    clear hb hG sm11 Sp
                    have Sp := Sp'
                    clear Sp'
                    generalize put2 x10 bp (.bool nm11) (.slice Am11 km11 cm11) = y12 at *
                    go_wp2_with fail
                    go_roundw
                    case rel =>
                      have e1 : (Z.take (k + 1)).foldl (fun x y : Int => x + y) 0 = S + z := by rw [foldl_snoc hz.out, hS.out]
                      have e2 : (Z.take (k + 1)).foldl (fun x y : Int => x * y) 1 = M * z := by rw [foldl_snoc hz.out, hM.out]
                      exact ⟨k + 1, _, _, _, _, _, _, _, _, by omega, (by first | rfl | simp), Lib.hid ⟨Ds.out, e1 ▸ Ss.out, Dp.out, e2 ▸ Sp.out, HB.out⟩⟩
                    case measure => simp [intOf]; omega
              · skip
                obtain rfl : k = zl := by omega
                have eS : Z.foldl (fun x y : Int => x + y) 0 = S := by rw [← hS.out, ← hzl.out, List.take_length]
                have eM : Z.foldl (fun x y : Int => x * y) 1 = M := by rw [← hM.out, ← hzl.out, List.take_length]
                replace eS := Lib.hid eS
                replace eM := Lib.hid eM
                go_upto_region 15 with fail
                refine wp_region_going 18 [] ([fun vq _ => vq = .slice B k e,
                    fun vq wq => ZV wq vq S,
                    fun vq wq => ZV wq vq S,
                    fun vq _ => vq = .bool true,
                    fun vq _ => vq = .bool true,
                    fun vq _ => vq = .slice B k e,
                    fun vq wq => ZV wq vq M,
                    fun vq wq => ZV wq vq M,
                    fun vq _ => vq = .bool true,
                    fun vq _ => vq = .bool true,
                    fun vq _ => vq = .bool true,
                    fun vq wq => ZV wq vq S,
                    fun vq _ => vq = .bool true,
                    fun vq _ => vq = .bool true,
                    fun vq _ => vq = .bool true,
                    fun vq wq => ZV wq vq M,
                    fun vq _ => vq = .bool true,
                    fun vq _ => vq = .bool true]) (by kernel_rfl) (by kernel_rfl) (by decide) (by kernel_rfl) (by kernel_rfl) ?hF ?steps ?fin
                case hF =>
                  intro j hj; cases hj
                case steps =>
                  refine AllOps.cons (Does.plain rfl fun lq aq wq hk hr K hK => ?_) ?_
                  · have B1 : ev aq (.tmp 1) = .slice B k e := hk.base 1 (by kernel_rfl) rfl
                    exact wp_of_value (by go_simp) (hK.out _ _ (Grows.refl _) (fun w2 h2 => rfl) (fun h => absurd h (by decide)))
                  refine AllOps.cons (Does.plain rfl fun lq aq wq hk hr K hK => ?_) ?_
                  · obtain ⟨v0, E0, -, r0⟩ := hk.dep hr 0 175 (by kernel_rfl) (by kernel_rfl)
                    replace E0 : ev aq (.tmp 175) = .slice B k e := E0.trans (r0 wq (Grows.refl wq))
                    refine wp_of_call (f := 27) (vs := #[.slice B k e]) (by go_simp) ((by have h := addN_v wq (show RowV wq (.slice B k e) Z from ⟨B, e, by rw [hzl.out], HC.out.below (HB.out.trans (Below.mono (grows_of hk.ext) HB.out.size))⟩) (by rw [hzl.out]; exact hZl) hZz.out; rwa [eS.out] at h)) ?_
                    rintro e w1 ⟨u, rfl, hu, hb⟩
                    exact ⟨u, rfl, hK.out _ _ hb (fun w2 h2 => (hu).grow h2) (fun h => absurd h (by decide))⟩
                  refine AllOps.cons (Does.plain rfl fun lq aq wq hk hr K hK => ?_) ?_
                  · have B8 : ev aq (.tmp 8) = .pointer (some ⟨bs, 0, none⟩) := hk.base 8 (by kernel_rfl) rfl
                    have hb := grows_of hk.ext
                    exact wp_of_value (op_load 8 _ B8 (Box2.below Ds.out hb)) (hK.out _ _ (Grows.refl _) (fun w2 h2 => ⟨_, _, _, _, rfl, (Ss.out.below hb).below h2⟩) (fun h => absurd h (by decide)))
                  refine AllOps.cons (Does.plain rfl fun lq aq wq hk hr K hK => ?_) ?_
                  · obtain ⟨v1, E1, -, r1⟩ := hk.dep hr 1 176 (by kernel_rfl) (by kernel_rfl)
                    have r1 : ZV wq v1 S := r1 wq (Grows.refl wq)
                    obtain ⟨v2, E2, -, r2⟩ := hk.dep hr 2 177 (by kernel_rfl) (by kernel_rfl)
                    have r2 : ZV wq v2 S := r2 wq (Grows.refl wq)
                    refine wp_of_call (f := 26) (vs := #[v1, v2]) (by go_simp) (same_v wq r1 r2 (t := true) (decide_eq_true rfl)) ?_
                    rintro e w1 ⟨u, rfl, hu, hb⟩
                    exact ⟨u, rfl, hK.out _ _ hb (fun w2 h2 => hu) (fun h => absurd h (by decide))⟩
                  refine AllOps.cons (Does.plain rfl fun lq aq wq hk hr K hK => ?_) ?_
                  · obtain ⟨v3, E3, -, r3⟩ := hk.dep hr 3 178 (by kernel_rfl) (by kernel_rfl)
                    replace E3 : ev aq (.tmp 178) = .bool true := E3.trans (r3 wq (Grows.refl wq))
                    exact wp_of_value (by go_simp) (hK.out _ _ (Grows.refl _) (fun w2 h2 => rfl) (fun h => absurd h (by decide)))
                  refine AllOps.cons (Does.lets (g := 4) (d := 179) (t := true) rfl (by kernel_rfl) (by kernel_rfl) (fun vq wq h => h wq (Grows.refl wq)) fun lq aq wq hk hr K hK => ?_) ?_
                  · have B1 : ev aq (.tmp 1) = .slice B k e := hk.base 1 (by kernel_rfl) rfl
                    exact wp_of_value (by go_simp) (hK.out _ _ (Grows.refl _) (fun w2 h2 => rfl) (fun h => absurd h (by decide)))
                  refine AllOps.cons (Does.lets (g := 4) (d := 179) (t := true) rfl (by kernel_rfl) (by kernel_rfl) (fun vq wq h => h wq (Grows.refl wq)) fun lq aq wq hk hr K hK => ?_) ?_
                  · obtain ⟨v5, E5, -, r5⟩ := hk.dep hr 5 180 (by kernel_rfl) (by kernel_rfl)
                    replace E5 : ev aq (.tmp 180) = .slice B k e := E5.trans (r5 wq (Grows.refl wq))
                    refine wp_of_call (f := 28) (vs := #[.slice B k e]) (by go_simp) ((by have h := mulN_v wq (show RowV wq (.slice B k e) Z from ⟨B, e, by rw [hzl.out], HC.out.below (HB.out.trans (Below.mono (grows_of hk.ext) HB.out.size))⟩) (by rw [hzl.out]; exact hZl) hZz.out; rwa [eM.out] at h)) ?_
                    rintro e w1 ⟨u, rfl, hu, hb⟩
                    exact ⟨u, rfl, hK.out _ _ hb (fun w2 h2 => (hu).grow h2) (fun h => absurd h (by decide))⟩
                  refine AllOps.cons (Does.lets (g := 4) (d := 179) (t := true) rfl (by kernel_rfl) (by kernel_rfl) (fun vq wq h => h wq (Grows.refl wq)) fun lq aq wq hk hr K hK => ?_) ?_
                  · have B9 : ev aq (.tmp 9) = .pointer (some ⟨bp, 0, none⟩) := hk.base 9 (by kernel_rfl) rfl
                    have hb := grows_of hk.ext
                    exact wp_of_value (op_load 9 _ B9 (Box2.below Dp.out hb)) (hK.out _ _ (Grows.refl _) (fun w2 h2 => ⟨_, _, _, _, rfl, (Sp.out.below hb).below h2⟩) (fun h => absurd h (by decide)))
                  refine AllOps.cons (Does.lets (g := 4) (d := 179) (t := true) rfl (by kernel_rfl) (by kernel_rfl) (fun vq wq h => h wq (Grows.refl wq)) fun lq aq wq hk hr K hK => ?_) ?_
                  · obtain ⟨v6, E6, -, r6⟩ := hk.dep hr 6 181 (by kernel_rfl) (by kernel_rfl)
                    have r6 : ZV wq v6 M := r6 wq (Grows.refl wq)
                    obtain ⟨v7, E7, -, r7⟩ := hk.dep hr 7 182 (by kernel_rfl) (by kernel_rfl)
                    have r7 : ZV wq v7 M := r7 wq (Grows.refl wq)
                    refine wp_of_call (f := 26) (vs := #[v6, v7]) (by go_simp) (same_v wq r6 r7 (t := true) (decide_eq_true rfl)) ?_
                    rintro e w1 ⟨u, rfl, hu, hb⟩
                    exact ⟨u, rfl, hK.out _ _ hb (fun w2 h2 => hu) (fun h => absurd h (by decide))⟩
                  refine AllOps.cons (Does.plain rfl fun lq aq wq hk hr K hK => ?_) ?_
                  · obtain ⟨v4, E4, -, r4⟩ := hk.dep hr 4 179 (by kernel_rfl) (by kernel_rfl)
                    replace E4 : ev aq (.tmp 179) = .bool true := E4.trans (r4 wq (Grows.refl wq))
                    obtain ⟨v8, E8, -, r8⟩ := hk.dep hr 8 183 (by kernel_rfl) (by kernel_rfl)
                    replace E8 : ev aq (.tmp 183) = .bool true := E8.trans (r8 wq (Grows.refl wq))
                    exact wp_of_value (by go_simp) (hK.out _ _ (Grows.refl _) (fun w2 h2 => rfl) (fun h => absurd h (by decide)))
                  refine AllOps.cons (Does.plain rfl fun lq aq wq hk hr K hK => ?_) ?_
                  · obtain ⟨v9, E9, -, r9⟩ := hk.dep hr 9 184 (by kernel_rfl) (by kernel_rfl)
                    replace E9 : ev aq (.tmp 184) = .bool true := E9.trans (r9 wq (Grows.refl wq))
                    exact wp_of_value (by go_simp) (hK.out _ _ (Grows.refl _) (fun w2 h2 => rfl) (fun h => absurd h (by decide)))
                  refine AllOps.cons (Does.lets (g := 10) (d := 185) (t := true) rfl (by kernel_rfl) (by kernel_rfl) (fun vq wq h => h wq (Grows.refl wq)) fun lq aq wq hk hr K hK => ?_) ?_
                  · have B8 : ev aq (.tmp 8) = .pointer (some ⟨bs, 0, none⟩) := hk.base 8 (by kernel_rfl) rfl
                    have hb := grows_of hk.ext
                    exact wp_of_value (op_load 8 _ B8 (Box2.below Ds.out hb)) (hK.out _ _ (Grows.refl _) (fun w2 h2 => ⟨_, _, _, _, rfl, (Ss.out.below hb).below h2⟩) (fun h => absurd h (by decide)))
                  refine AllOps.cons (Does.lets (g := 10) (d := 185) (t := true) rfl (by kernel_rfl) (by kernel_rfl) (fun vq wq h => h wq (Grows.refl wq)) fun lq aq wq hk hr K hK => ?_) ?_
                  · obtain ⟨v11, E11, -, r11⟩ := hk.dep hr 11 186 (by kernel_rfl) (by kernel_rfl)
                    have r11 : ZV wq v11 S := r11 wq (Grows.refl wq)
                    refine wp_of_call (f := 33) (vs := #[v11]) (by go_simp) (right_v wq r11) ?_
                    rintro e w1 ⟨u, rfl, hu, hb⟩
                    exact ⟨u, rfl, hK.out _ _ hb (fun w2 h2 => hu) (fun h => absurd h (by decide))⟩
                  refine AllOps.cons (Does.plain rfl fun lq aq wq hk hr K hK => ?_) ?_
                  · obtain ⟨v10, E10, -, r10⟩ := hk.dep hr 10 185 (by kernel_rfl) (by kernel_rfl)
                    replace E10 : ev aq (.tmp 185) = .bool true := E10.trans (r10 wq (Grows.refl wq))
                    obtain ⟨v12, E12, -, r12⟩ := hk.dep hr 12 187 (by kernel_rfl) (by kernel_rfl)
                    replace E12 : ev aq (.tmp 187) = .bool true := E12.trans (r12 wq (Grows.refl wq))
                    exact wp_of_value (by go_simp) (hK.out _ _ (Grows.refl _) (fun w2 h2 => rfl) (fun h => absurd h (by decide)))
                  refine AllOps.cons (Does.plain rfl fun lq aq wq hk hr K hK => ?_) ?_
                  · obtain ⟨v13, E13, -, r13⟩ := hk.dep hr 13 188 (by kernel_rfl) (by kernel_rfl)
                    replace E13 : ev aq (.tmp 188) = .bool true := E13.trans (r13 wq (Grows.refl wq))
                    exact wp_of_value (by go_simp) (hK.out _ _ (Grows.refl _) (fun w2 h2 => rfl) (fun h => absurd h (by decide)))
                  refine AllOps.cons (Does.lets (g := 14) (d := 189) (t := true) rfl (by kernel_rfl) (by kernel_rfl) (fun vq wq h => h wq (Grows.refl wq)) fun lq aq wq hk hr K hK => ?_) ?_
                  · have B9 : ev aq (.tmp 9) = .pointer (some ⟨bp, 0, none⟩) := hk.base 9 (by kernel_rfl) rfl
                    have hb := grows_of hk.ext
                    exact wp_of_value (op_load 9 _ B9 (Box2.below Dp.out hb)) (hK.out _ _ (Grows.refl _) (fun w2 h2 => ⟨_, _, _, _, rfl, (Sp.out.below hb).below h2⟩) (fun h => absurd h (by decide)))
                  refine AllOps.cons (Does.lets (g := 14) (d := 189) (t := true) rfl (by kernel_rfl) (by kernel_rfl) (fun vq wq h => h wq (Grows.refl wq)) fun lq aq wq hk hr K hK => ?_) ?_
                  · obtain ⟨v15, E15, -, r15⟩ := hk.dep hr 15 190 (by kernel_rfl) (by kernel_rfl)
                    have r15 : ZV wq v15 M := r15 wq (Grows.refl wq)
                    refine wp_of_call (f := 33) (vs := #[v15]) (by go_simp) (right_v wq r15) ?_
                    rintro e w1 ⟨u, rfl, hu, hb⟩
                    exact ⟨u, rfl, hK.out _ _ hb (fun w2 h2 => hu) (fun h => absurd h (by decide))⟩
                  refine AllOps.cons (Does.plain rfl fun lq aq wq hk hr K hK => ?_) ?_
                  · obtain ⟨v14, E14, -, r14⟩ := hk.dep hr 14 189 (by kernel_rfl) (by kernel_rfl)
                    replace E14 : ev aq (.tmp 189) = .bool true := E14.trans (r14 wq (Grows.refl wq))
                    obtain ⟨v16, E16, -, r16⟩ := hk.dep hr 16 191 (by kernel_rfl) (by kernel_rfl)
                    replace E16 : ev aq (.tmp 191) = .bool true := E16.trans (r16 wq (Grows.refl wq))
                    exact wp_of_value (by go_simp) (hK.out _ _ (Grows.refl _) (fun w2 h2 => rfl) (fun h => absurd h (by decide)))
                  exact AllOps.nil
                case fin =>
                  intro V x7 hG hV hap
                  have r17 : (V 17) = .bool true := hV 17 (by decide)
                  clear hV hap
                  simp only [List.take_succ_cons, List.take_zero, List.drop_succ_cons, List.drop_zero, putAll, Act.put, List.setIfInBounds_toArray, List.set_cons_zero, List.set_cons_succ]
                  have hb := grows_of hG
                  replace Ds := Lib.hid (Box2.below Ds.out hb)
                  replace Ss := Lib.hid (Ss.out.below hb)
                  replace Dp := Lib.hid (Box2.below Dp.out hb)
                  replace Sp := Lib.hid (Sp.out.below hb)
                  replace HB := Lib.hid (HB.out.trans (Below.mono hb HB.out.size))
                  clear hb hG
                  rw [r17]
                  clear r17
                  go_wp2_with fail
                  go_ret
                  exact ⟨rfl, HW.out.trans (Below.mono HB.out HW.out.size)⟩
end Go.Proofs.YtmajcjdhhnhmmaaDoor
