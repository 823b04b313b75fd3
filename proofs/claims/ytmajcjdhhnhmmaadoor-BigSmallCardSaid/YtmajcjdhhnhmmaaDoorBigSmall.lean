import Derived.Test.YtmajcjdhhnhmmaaDoorBigKit
import Derived.Test.YtmajcjdhhnhmmaaDoorBigKit2
import Derived.Test.YtmajcjdhhnhmmaaDoorBigSmallC
/- litmuslaw02.BigSmall returns true. -/
namespace Go.Proofs.YtmajcjdhhnhmmaaDoor
open Go.RowKit Go.Num
attribute [local go_sem] Oper.semAt_some u64_mask

set_option maxHeartbeats 16000000 in
set_option maxRecDepth 100000 in
theorem bigSmall_any (w : World) (x y : Int) (n0 : Bool) (m0 : Value) (l0 : List Nat) (hx1 : -9223372036854775808 ≤ x) (hx2 : x ≤ 9223372036854775807) (hy1 : -9223372036854775808 ≤ y) (hy2 : y ≤ 9223372036854775807) (h0 : Arg encU w m0 l0) (hl0 : Lim l0) (hn0 : l0.length ≤ 9223372036854775807) :
    Calls Tryd.prog 10 #[.int .i64 x, .int .i64 y, .agg #[.bool n0, m0]] w fun e w' => e = .returned (.bool true) ∧ Below w.heap.size w w' := by
  go_enter Tryd.func10, Tryd.ntmps10
  have HI := Lib.hid (And.intro (And.intro hx1 hx2) (And.intro hy1 hy2))
  have HBa := (Below.refl _ w).alloc (Nat.le_refl _) (.cells #[.bool n0, m0] 24)
  have HB0 := Lib.hid HBa
  have D0 := Lib.hid (Box2.new w 24 (.bool n0) m0)
  clear HBa
  go_wp2_with fail
  refine (works_any _).mono ?_
  rintro e w1 ⟨rfl, h1w⟩
  have D1 := Lib.hid (D0.out.below h1w)
  have HB1 := Lib.hid (HB0.out.trans (h1w.mono HB0.out.size))
  clear h1w
  obtain ⟨f1, f2, f3, f4⟩ := D1.out.facts
  go_wp2_with fail
  refine (few_base w _ n0 m0 l0 5 h0 hl0 hn0 (by decide)).mono ?_
  rintro e w2 ⟨na, Aa, ka, ca, a, rfl, ga, hka, ba⟩
  have D2 := Lib.hid (D1.out.below ba)
  have HB2 := Lib.hid (HB1.out.trans (ba.mono HB1.out.size))
  clear f1 f2 f3 f4 ba
  obtain ⟨f1, f2, f3, f4⟩ := D2.out.facts
  have HB := Lib.hid ((HB2.out.setCell (p := ⟨w.heap.size, 0, none⟩) (Nat.le_refl _) (.bool na)).setCell (p := ⟨w.heap.size, 1, none⟩) (Nat.le_refl _) (.slice Aa ka ca))
  have Da := Lib.hid ((D2.out.set0 (.bool na)).set1 (.slice Aa ka ca))
  have Sa := Lib.hid (ga.below HB.out)
  clear ga HB0 HB1 HB2 D0 D1 D2
  go_wp2_with fail
  clear f1 f2 f3 f4
  have hbX := Below.refl (((w2.setCell ⟨w.heap.size, 0, none⟩ (.bool na)).setCell ⟨w.heap.size, 1, none⟩ (.slice Aa ka ca))).heap.size (((w2.setCell ⟨w.heap.size, 0, none⟩ (.bool na)).setCell ⟨w.heap.size, 1, none⟩ (.slice Aa ka ca)))
  refine (bfrom_any _ (x) HI.out.1.1 HI.out.1.2).mono ?_
  rintro e v1_1 ⟨n1, m1, rfl, g1⟩
  have hbX := Below.trans hbX (Below.mono (g1.below) hbX.size)
  obtain ⟨A1, k1, c1, rfl⟩ := g1.shape
  have s1 := g1.sound (Nat.le_trans (szz_i64 HI.out.1.1 HI.out.1.2) (by decide))
  go_wp2_with fail
  refine (bsmall_in _ n1 _ (x) s1.whole HI.out.1.1 HI.out.1.2).mono ?_
  rintro e v1_2 ⟨rfl, q2⟩
  have hbX := Below.trans hbX (Below.mono (q2) hbX.size)
  have hal := hbX
  replace Da := Lib.hid (Box2.below Da.out hal)
  replace Sa := Lib.hid (Sa.out.below hal)
  replace HB := Lib.hid (HB.out.trans (hal.mono HB.out.size))
  clear hal hbX
  by_cases hf : -9223372036854775808 ≤ x + y ∧ x + y ≤ 9223372036854775807
  · have HF := Lib.hid hf
    have HWR : Hid (IntKind.i64.wrap (x + y) = x + y) := Lib.hid (by rw [IntKind.wrap_i64]; omega)
    clear hf
    go_wp2_with fail
    have hbX := Below.refl (v1_2).heap.size (v1_2)
    refine (bfrom_any _ (x) HI.out.1.1 HI.out.1.2).mono ?_
    rintro e v3_1 ⟨n3, m3, rfl, g3⟩
    have hbX := Below.trans hbX (Below.mono (g3.below) hbX.size)
    obtain ⟨A3, k3, c3, rfl⟩ := g3.shape
    have s3 := g3.sound (Nat.le_trans (szz_i64 HI.out.1.1 HI.out.1.2) (by decide))
    go_wp2_with fail
    refine (bfrom_any _ (y) HI.out.2.1 HI.out.2.2).mono ?_
    rintro e v3_2 ⟨n4, m4, rfl, g4⟩
    have hbX := Below.trans hbX (Below.mono (g4.below) hbX.size)
    replace s3 := s3.below (g4.below)
    obtain ⟨A4, k4, c4, rfl⟩ := g4.shape
    have s4 := g4.sound (Nat.le_trans (szz_i64 HI.out.2.1 HI.out.2.2) (by decide))
    go_wp2_with fail
    refine (sum2_at v3_2 _ (by first | exact (World.size_alloc _ _).symm | rfl) n3 n4 _ _ ((x)) ((y)) s3.whole s4.whole (Nat.le_trans (szz_add (szz_i64 HI.out.1.1 HI.out.1.2) (szz_i64 HI.out.2.1 HI.out.2.2)) (by decide))).mono ?_
    rintro e v3_3 ⟨n5, m5, rfl, g5⟩
    have hbX := Below.trans hbX (Below.mono (g5.below) hbX.size)
    obtain ⟨A5, k5, c5, rfl⟩ := g5.shape
    have s5 := g5.sound (Nat.le_trans (szz_add (szz_i64 HI.out.1.1 HI.out.1.2) (szz_i64 HI.out.2.1 HI.out.2.2)) (by decide))
    go_wp2_with fail
    refine (bsmall_in _ n5 _ ((x) + (y)) s5.whole HF.out.1 HF.out.2).mono ?_
    rintro e v3_4 ⟨rfl, q6⟩
    have hbX := Below.trans hbX (Below.mono (q6) hbX.size)
    have hal := hbX
    replace Da := Lib.hid (Box2.below Da.out hal)
    replace Sa := Lib.hid (Sa.out.below hal)
    replace HB := Lib.hid (HB.out.trans (hal.mono HB.out.size))
    clear hal hbX
    go_upto_region 6 with fail
    go_cut [11] from 34 (fun ov wx => ov = .bool false ∧ v3_4 = wx)
    case first =>
      have hw := HWR.out
      have hw := HWR.out
      have hi := HF.out
      have hix := HI.out
      by_cases p1 : 0 < x
      all_goals by_cases p2 : 0 < y
      all_goals by_cases p3 : x < 0
      all_goals by_cases p4 : y < 0
      all_goals rcases (show (x + y < 0 ∧ ¬ 0 ≤ x + y) ∨ (¬ x + y < 0 ∧ 0 ≤ x + y) by omega) with ⟨p5, p6⟩ | ⟨p5, p6⟩
      all_goals try (exfalso; omega)
      all_goals clear hi hix
      all_goals (go_wp2_with fail; go_meet; case rel => exact ⟨rfl, rfl⟩)
    case rest =>
      obtain ⟨rfl, rfl⟩ := hcut
      by_cases hso : -9223372036854775808 ≤ a ∧ a ≤ 9223372036854775807
      · have HSO := Lib.hid hso
        have hw := HWR.out
        clear hso
        have fa0 := Da.out.c0
        have fa1 := Da.out.c1
        go_wp2_with fail
        have hbX := Below.refl (v3_4).heap.size (v3_4)
        refine (bsmall_in _ na _ (a) (Sa.out.below hbX) HSO.out.1 HSO.out.2).mono ?_
        rintro e v4_1 ⟨rfl, q7⟩
        have hbX := Below.trans hbX (Below.mono (q7) hbX.size)
        have hal := hbX
        replace Da := Lib.hid (Box2.below Da.out hal)
        replace Sa := Lib.hid (Sa.out.below hal)
        replace HB := Lib.hid (HB.out.trans (hal.mono HB.out.size))
        clear hal hbX
        clear fa0 fa1
        go_wp2_with fail
        have fa0 := Da.out.c0
        have fa1 := Da.out.c1
        have hfa := Da.out.below ((Below.refl (v4_1).heap.size (v4_1)).alloc (Nat.le_refl _) (.cells #[.bool na, .slice Aa ka ca] 24))
        have fb0 := hfa.c0
        have fb1 := hfa.c1
        have hnew := BoxN.new (v4_1) 24 #[.bool na, .slice Aa ka ca]
        go_region_with (first
          | (refine (bfrom_any _ a HSO.out.1 HSO.out.2).mono ?_; rintro e v9 ⟨n9, m9, rfl, g9⟩; obtain ⟨A9, k9, c9, rfl⟩ := g9.shape
             have hst := (Below.refl (v4_1).heap.size (v4_1)).drew
             have hb9 := hst.trans (g9.below.mono hst.size)
             have hd9 := Da.out.below hb9
             have p0 := hd9.c0
             have p1 := hd9.c1
             have hs9 := g9.sound (show sz a.natAbs ≤ 1000 from Nat.le_trans hka (by decide)))
          | (refine (bfrom_any _ a HSO.out.1 HSO.out.2).mono ?_; rintro e v9 ⟨n9, m9, rfl, g9⟩; obtain ⟨A9, k9, c9, rfl⟩ := g9.shape
             have hst := ((Below.refl (v4_1).heap.size (v4_1)).alloc (Nat.le_refl _) (.cells #[.bool na, .slice Aa ka ca] 24)).drew
             have hb9 := hst.trans (g9.below.mono hst.size)
             have hd9 := Da.out.below hb9
             have p0 := hd9.c0
             have p1 := hd9.c1
             have hs9 := g9.sound (show sz a.natAbs ≤ 1000 from Nat.le_trans hka (by decide)))
          | (refine (sum1_at v9 _ (by first | exact (World.size_alloc _ _).symm | rfl) na _ a (Sa.out.below hb9)).mono ?_; rintro e v10 ⟨n10, m10, rfl, g10⟩; obtain ⟨A10, k10, c10, rfl⟩ := g10.shape; have hb10 := hb9.trans (g10.below.mono hb9.size); replace hs9 := hs9.below g10.below)
          | (refine (sum1_cells _ _ na _ a ((hnew.below (Below.refl _ _).drew).below g9.below) (Sa.out.below hb9)).mono ?_; rintro e v10 ⟨n10, m10, rfl, g10⟩; obtain ⟨A10, k10, c10, rfl⟩ := g10.shape; have hb10 := hb9.trans (g10.below.mono hb9.size); replace hs9 := hs9.below g10.below)
          | (refine (same_yes _ n9 n10 _ _ a a hs9 (g10.sound (Nat.le_trans hka (by decide))) rfl).mono ?_; rintro e v11 ⟨rfl, h11⟩; have hb11 := hb10.trans (h11.mono hb10.size)))
        all_goals
          go_wp2_with fail
          go_ret
          exact ⟨rfl, HB.out.trans (hb11.mono HB.out.size)⟩
      · have HSO : Hid (a < -9223372036854775808 ∨ 9223372036854775807 < a) := Lib.hid (by omega)
        have hw := HWR.out
        clear hso
        have fa0 := Da.out.c0
        have fa1 := Da.out.c1
        go_wp2_with fail
        have hbX := Below.refl (v3_4).heap.size (v3_4)
        refine (bsmall_out _ na _ (a) (Sa.out.below hbX) HSO.out).mono ?_
        rintro e v4_1 ⟨rfl, q7⟩
        have hbX := Below.trans hbX (Below.mono (q7) hbX.size)
        have hal := hbX
        replace Da := Lib.hid (Box2.below Da.out hal)
        replace Sa := Lib.hid (Sa.out.below hal)
        replace HB := Lib.hid (HB.out.trans (hal.mono HB.out.size))
        clear hal hbX
        clear fa0 fa1
        go_wp2_with fail
        have hbX := (Below.refl (v4_1).heap.size (v4_1)).drew
        have K0 : True := trivial
        first
          | go_region_with (fail)
          | fail "the region"
        all_goals
          have hal := hbX
          replace Da := Lib.hid (Box2.below Da.out hal)
          replace Sa := Lib.hid (Sa.out.below hal)
          replace HB := Lib.hid (HB.out.trans (hal.mono HB.out.size))
          clear hal hbX
          go_wp2_with fail
          go_ret
          exact ⟨rfl, HB.out⟩
  · have hf : x + y < -9223372036854775808 ∨ 9223372036854775807 < x + y := by omega
    have HF := Lib.hid hf
    clear hf
    go_wp2_with fail
    have hbX := Below.refl (v1_2).heap.size (v1_2)
    refine (bfrom_any _ (x) HI.out.1.1 HI.out.1.2).mono ?_
    rintro e v3_1 ⟨n3, m3, rfl, g3⟩
    have hbX := Below.trans hbX (Below.mono (g3.below) hbX.size)
    obtain ⟨A3, k3, c3, rfl⟩ := g3.shape
    have s3 := g3.sound (Nat.le_trans (szz_i64 HI.out.1.1 HI.out.1.2) (by decide))
    go_wp2_with fail
    refine (bfrom_any _ (y) HI.out.2.1 HI.out.2.2).mono ?_
    rintro e v3_2 ⟨n4, m4, rfl, g4⟩
    have hbX := Below.trans hbX (Below.mono (g4.below) hbX.size)
    replace s3 := s3.below (g4.below)
    obtain ⟨A4, k4, c4, rfl⟩ := g4.shape
    have s4 := g4.sound (Nat.le_trans (szz_i64 HI.out.2.1 HI.out.2.2) (by decide))
    go_wp2_with fail
    refine (sum2_at v3_2 _ (by first | exact (World.size_alloc _ _).symm | rfl) n3 n4 _ _ ((x)) ((y)) s3.whole s4.whole (Nat.le_trans (szz_add (szz_i64 HI.out.1.1 HI.out.1.2) (szz_i64 HI.out.2.1 HI.out.2.2)) (by decide))).mono ?_
    rintro e v3_3 ⟨n5, m5, rfl, g5⟩
    have hbX := Below.trans hbX (Below.mono (g5.below) hbX.size)
    obtain ⟨A5, k5, c5, rfl⟩ := g5.shape
    have s5 := g5.sound (Nat.le_trans (szz_add (szz_i64 HI.out.1.1 HI.out.1.2) (szz_i64 HI.out.2.1 HI.out.2.2)) (by decide))
    go_wp2_with fail
    refine (bsmall_out _ n5 _ ((x) + (y)) s5.whole HF.out).mono ?_
    rintro e v3_4 ⟨rfl, q6⟩
    have hbX := Below.trans hbX (Below.mono (q6) hbX.size)
    have hal := hbX
    replace Da := Lib.hid (Box2.below Da.out hal)
    replace Sa := Lib.hid (Sa.out.below hal)
    replace HB := Lib.hid (HB.out.trans (hal.mono HB.out.size))
    clear hal hbX
    go_upto_region 6 with fail
    go_cut [11] from 34 (fun ov wx => ov = .bool true ∧ v3_4 = wx)
    case first =>
      have hi := HF.out
      have hix := HI.out
      by_cases p1 : 0 < x
      all_goals by_cases p2 : 0 < y
      all_goals by_cases p3 : x < 0
      all_goals by_cases p4 : y < 0
      all_goals try (exfalso; omega)
      all_goals
        obtain ⟨s, hs⟩ : ∃ s, s = IntKind.i64.wrap (x + y) := ⟨_, rfl⟩
        have hw : IntKind.i64.wrap (x + y) = s := hs.symm
        rcases (show (s < 0 ∧ ¬ 0 ≤ s) ∨ (¬ s < 0 ∧ 0 ≤ s) by omega) with ⟨p5, p6⟩ | ⟨p5, p6⟩
      all_goals try (exfalso; rw [IntKind.wrap_i64] at hs; omega)
      all_goals clear hi hix hs
      all_goals (go_wp2_with fail; go_meet; case rel => exact ⟨rfl, rfl⟩)
    case rest =>
      obtain ⟨rfl, rfl⟩ := hcut
      by_cases hso : -9223372036854775808 ≤ a ∧ a ≤ 9223372036854775807
      · have HSO := Lib.hid hso
        clear hso
        have fa0 := Da.out.c0
        have fa1 := Da.out.c1
        go_wp2_with fail
        have hbX := Below.refl (v3_4).heap.size (v3_4)
        refine (bsmall_in _ na _ (a) (Sa.out.below hbX) HSO.out.1 HSO.out.2).mono ?_
        rintro e v4_1 ⟨rfl, q7⟩
        have hbX := Below.trans hbX (Below.mono (q7) hbX.size)
        have hal := hbX
        replace Da := Lib.hid (Box2.below Da.out hal)
        replace Sa := Lib.hid (Sa.out.below hal)
        replace HB := Lib.hid (HB.out.trans (hal.mono HB.out.size))
        clear hal hbX
        clear fa0 fa1
        go_wp2_with fail
        have fa0 := Da.out.c0
        have fa1 := Da.out.c1
        have hfa := Da.out.below ((Below.refl (v4_1).heap.size (v4_1)).alloc (Nat.le_refl _) (.cells #[.bool na, .slice Aa ka ca] 24))
        have fb0 := hfa.c0
        have fb1 := hfa.c1
        have hnew := BoxN.new (v4_1) 24 #[.bool na, .slice Aa ka ca]
        go_region_with (first
          | (refine (bfrom_any _ a HSO.out.1 HSO.out.2).mono ?_; rintro e v9 ⟨n9, m9, rfl, g9⟩; obtain ⟨A9, k9, c9, rfl⟩ := g9.shape
             have hst := (Below.refl (v4_1).heap.size (v4_1)).drew
             have hb9 := hst.trans (g9.below.mono hst.size)
             have hd9 := Da.out.below hb9
             have p0 := hd9.c0
             have p1 := hd9.c1
             have hs9 := g9.sound (show sz a.natAbs ≤ 1000 from Nat.le_trans hka (by decide)))
          | (refine (bfrom_any _ a HSO.out.1 HSO.out.2).mono ?_; rintro e v9 ⟨n9, m9, rfl, g9⟩; obtain ⟨A9, k9, c9, rfl⟩ := g9.shape
             have hst := ((Below.refl (v4_1).heap.size (v4_1)).alloc (Nat.le_refl _) (.cells #[.bool na, .slice Aa ka ca] 24)).drew
             have hb9 := hst.trans (g9.below.mono hst.size)
             have hd9 := Da.out.below hb9
             have p0 := hd9.c0
             have p1 := hd9.c1
             have hs9 := g9.sound (show sz a.natAbs ≤ 1000 from Nat.le_trans hka (by decide)))
          | (refine (sum1_at v9 _ (by first | exact (World.size_alloc _ _).symm | rfl) na _ a (Sa.out.below hb9)).mono ?_; rintro e v10 ⟨n10, m10, rfl, g10⟩; obtain ⟨A10, k10, c10, rfl⟩ := g10.shape; have hb10 := hb9.trans (g10.below.mono hb9.size); replace hs9 := hs9.below g10.below)
          | (refine (sum1_cells _ _ na _ a ((hnew.below (Below.refl _ _).drew).below g9.below) (Sa.out.below hb9)).mono ?_; rintro e v10 ⟨n10, m10, rfl, g10⟩; obtain ⟨A10, k10, c10, rfl⟩ := g10.shape; have hb10 := hb9.trans (g10.below.mono hb9.size); replace hs9 := hs9.below g10.below)
          | (refine (same_yes _ n9 n10 _ _ a a hs9 (g10.sound (Nat.le_trans hka (by decide))) rfl).mono ?_; rintro e v11 ⟨rfl, h11⟩; have hb11 := hb10.trans (h11.mono hb10.size)))
        all_goals
          go_wp2_with fail
          go_ret
          exact ⟨rfl, HB.out.trans (hb11.mono HB.out.size)⟩
      · have HSO : Hid (a < -9223372036854775808 ∨ 9223372036854775807 < a) := Lib.hid (by omega)
        clear hso
        have fa0 := Da.out.c0
        have fa1 := Da.out.c1
        go_wp2_with fail
        have hbX := Below.refl (v3_4).heap.size (v3_4)
        refine (bsmall_out _ na _ (a) (Sa.out.below hbX) HSO.out).mono ?_
        rintro e v4_1 ⟨rfl, q7⟩
        have hbX := Below.trans hbX (Below.mono (q7) hbX.size)
        have hal := hbX
        replace Da := Lib.hid (Box2.below Da.out hal)
        replace Sa := Lib.hid (Sa.out.below hal)
        replace HB := Lib.hid (HB.out.trans (hal.mono HB.out.size))
        clear hal hbX
        clear fa0 fa1
        go_wp2_with fail
        have hbX := (Below.refl (v4_1).heap.size (v4_1)).drew
        have K0 : True := trivial
        first
          | go_region_with (fail)
          | fail "the region"
        all_goals
          have hal := hbX
          replace Da := Lib.hid (Box2.below Da.out hal)
          replace Sa := Lib.hid (Sa.out.below hal)
          replace HB := Lib.hid (HB.out.trans (hal.mono HB.out.size))
          clear hal hbX
          go_wp2_with fail
          go_ret
          exact ⟨rfl, HB.out⟩
end Go.Proofs.YtmajcjdhhnhmmaaDoor
