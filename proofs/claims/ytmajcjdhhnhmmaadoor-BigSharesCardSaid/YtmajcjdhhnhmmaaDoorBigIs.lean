import Derived.Test.YtmajcjdhhnhmmaaDoorBigHelp
import Derived.Test.YtmajcjdhhnhmmaaDoorBigText
import Derived.Test.YtmajcjdhhnhmmaaDoorBigDm
/- big.Right, litmuslaw02.is, divs: what each returns. -/
namespace Go.Proofs.YtmajcjdhhnhmmaaDoor
open Go.RowKit Go.Num
attribute [local go_sem] Oper.semAt_some u64_mask

set_option maxHeartbeats 2000000 in
set_option maxRecDepth 100000 in
theorem bright_any (w : World) (n : Bool) (m : Value) (l : List Nat) (a : Nat) (h : Num w m l a) (hl : l.length ≤ 1000) :
    Calls Tryd.prog 33 #[.agg #[.bool n, m]] w fun e w' => e = .returned (.bool (decide ((limbs a).length = l.length) && decide (sg n a < 0) == n)) ∧ Below w.heap.size w w' := by
  have hw := Whole.of n h hl
  have HW := Lib.hid hw
  have hal := sz_num h
  unfold sz at hal
  obtain ⟨A0, c0, rfl, hc0, _⟩ := h.arg.open_
  have HB := Lib.hid ((Below.refl _ w).alloc (Nat.le_refl _) (.cells #[.bool n, .slice A0 l.length c0] 24))
  have B0 := Lib.hid (Box2.new w 24 (.bool n) (.slice A0 l.length c0))
  have hab : (sg n a).natAbs = a := sg_natAbs n a
  have HAB := Lib.hid hab
  clear hw h hab
  generalize hz : sg n a = z at *
  have HZ := Lib.hid hz
  clear hz
  by_cases he : (limbs a).length = l.length
  · have HE := Lib.hid (decide_eq_true he)
    by_cases hn : decide (z < 0) = n
    all_goals
      have HN := Lib.hid hn
      clear hn
      go_enter Tryd.func33, Tryd.ntmps33
      go_wp2_with fail
      refine (made_any _ n _ z (HW.out.alloc _)).mono ?_
      rintro e w1 ⟨n1, m1, rfl, g⟩
      have HS := Lib.hid g.sign
      obtain ⟨A1, c1, rfl, _, _⟩ := g.gives.arg.open_
      have hal := ((Below.refl w1.heap.size w1).alloc (Nat.le_refl _) (.cells #[.bool n1, .slice A1 (limbs z.natAbs).length c1] 24))
      have B1 := Lib.hid ((B0.out.below g.below).below hal)
      have HL := Lib.hid ((HB.out.trans (g.below.mono HB.out.size)).trans (hal.mono (HB.out.trans (g.below.mono HB.out.size)).size))
      have e1 : (limbs z.natAbs).length = l.length := by rw [HAB.out, he]
      obtain ⟨q, hq⟩ : ∃ q, q = (limbs z.natAbs).length := ⟨_, rfl⟩
      clear g hal
      rw [← hq] at B1 HL e1 ⊢
      clear hq
      subst e1
      obtain ⟨p1, p2, _, _⟩ := B1.out.facts
      cases n
      all_goals cases n1
      all_goals
        go_wp2_with fail
        go_ret
        refine ⟨?_, HL.out⟩
        have h1 := HS.out
        have h2 := HN.out
        rw [HE.out]
        first
          | (rw [← h1]; rfl)
          | (exfalso; rw [← h1] at h2; simp at h2)
  · have HE := Lib.hid (decide_eq_false he)
    have h3 : ¬ (limbs z.natAbs).length = l.length := by rw [HAB.out]; exact he
    clear he
    go_enter Tryd.func33, Tryd.ntmps33
    go_wp2_with fail
    refine (made_any _ n _ z (HW.out.alloc _)).mono ?_
    rintro e w1 ⟨n1, m1, rfl, g⟩
    obtain ⟨A1, c1, rfl, _, _⟩ := g.gives.arg.open_
    have hal := ((Below.refl w1.heap.size w1).alloc (Nat.le_refl _) (.cells #[.bool n1, .slice A1 (limbs z.natAbs).length c1] 24))
    have B1 := Lib.hid ((B0.out.below g.below).below hal)
    have HL := Lib.hid ((HB.out.trans (g.below.mono HB.out.size)).trans (hal.mono (HB.out.trans (g.below.mono HB.out.size)).size))
    generalize (limbs z.natAbs).length = q at *
    obtain ⟨p1, p2, _, _⟩ := B1.out.facts
    clear g hal
    go_wp2_with fail
    go_ret
    exact ⟨by rw [HE.out]; rfl, HL.out⟩
theorem bright_sound (w : World) (n : Bool) (m : Value) (z : Int) (h : Sound w n m z) :
    Calls Tryd.prog 33 #[.agg #[.bool n, m]] w fun e w' => e = .returned (.bool true) ∧ Below w.heap.size w w' := by
  refine (bright_any w n m _ z.natAbs h.num h.short).mono ?_
  rintro e w1 ⟨rfl, h1⟩
  refine ⟨?_, h1⟩
  have : sg n z.natAbs = z := by rw [h.sign, sg_own]
  rw [this, h.sign]
  simp

set_option maxHeartbeats 1000000 in
set_option maxRecDepth 100000 in
theorem is_yes (w : World) (n : Bool) (m : Value) (z : Int) (s : ByteArray) (h : Sound w n m z) (hs : ByteArray.mk (ztext z).toArray = s) :
    Calls Tryd.prog 47 #[.agg #[.bool n, m], .string s] w fun e w' => e = .returned (.bool true) ∧ Below w.heap.size w w' := by
  subst hs
  have HB := Lib.hid ((Below.refl _ w).alloc (Nat.le_refl _) (.cells #[.bool n, m] 24))
  have B0 := Lib.hid (Box2.new w 24 (.bool n) m)
  go_enter Tryd.func47, Tryd.ntmps47
  go_wp2_with fail
  refine (btext_any _ n m z (h.alloc _).whole).mono ?_
  rintro e w1 ⟨rfl, h1⟩
  have B1 := Lib.hid (B0.out.below h1)
  have H1 := Lib.hid (HB.out.trans (h1.mono HB.out.size))
  obtain ⟨p1, p2, _, _⟩ := B1.out.facts
  go_wp2_with fail
  refine (bright_sound _ n m z (h.below H1.out)).mono ?_
  rintro e w2 ⟨rfl, h2⟩
  go_wp2_with fail
  go_ret
  exact ⟨rfl, H1.out.trans (h2.mono H1.out.size)⟩

set_option maxHeartbeats 4000000 in
set_option maxRecDepth 100000 in
theorem divs_any (w : World) (a b q r : Int) (ha1 : -9223372036854775808 ≤ a) (ha2 : a ≤ 9223372036854775807) (hb1 : -9223372036854775808 ≤ b) (hb2 : b ≤ 9223372036854775807) (hq1 : -9223372036854775808 ≤ q) (hq2 : q ≤ 9223372036854775807) (hr1 : -9223372036854775808 ≤ r) (hr2 : r ≤ 9223372036854775807) (hb0 : b ≠ 0) (hq : Int.fdiv a b = q) (hr : Int.fmod a b = r) :
    Calls Tryd.prog 48 #[.int .i64 a, .int .i64 b, .int .i64 q, .int .i64 r] w fun e w' => e = .returned (.bool true) ∧ Below w.heap.size w w' := by
  have HS := Lib.hid (And.intro (Nat.le_trans (szz_i64 ha1 ha2) (show 2 ≤ 1000 by decide)) (Nat.le_trans (szz_i64 hb1 hb2) (show 2 ≤ 1000 by decide)))
  have HT : Hid (sz q.natAbs ≤ 1000 ∧ sz r.natAbs ≤ 1000) := Lib.hid (And.intro (Nat.le_trans (szz_i64 hq1 hq2) (show 2 ≤ 1000 by decide)) (Nat.le_trans (szz_i64 hr1 hr2) (show 2 ≤ 1000 by decide)))
  have HQ := Lib.hid (And.intro hq (And.intro hr hb0))
  have HI := Lib.hid (And.intro (And.intro ha1 ha2) (And.intro (And.intro hb1 hb2) (And.intro (And.intro hq1 hq2) (And.intro hr1 hr2))))
  clear hq hr hb0 ha1 ha2 hb1 hb2 hq1 hq2 hr1 hr2
  go_enter Tryd.func48, Tryd.ntmps48
  go_wp2_with fail
  refine (bfrom_any _ a HI.out.1.1 HI.out.1.2).mono ?_
  rintro e w11 ⟨n11, m11, rfl, g11⟩
  obtain ⟨A11, k11, c11, rfl⟩ := g11.shape
  go_wp2_with fail
  refine (bfrom_any _ b HI.out.2.1.1 HI.out.2.1.2).mono ?_
  rintro e w12 ⟨n12, m12, rfl, g12⟩
  obtain ⟨A12, k12, c12, rfl⟩ := g12.shape
  go_wp2_with fail
  refine (bdiv_any _ n11 n12 _ _ a b ((g11.sound HS.out.1).below g12.below).whole (g12.sound HS.out.2).whole HQ.out.2.2).mono ?_
  rintro e w13 ⟨n13, m13, rfl, g13⟩
  obtain ⟨A13, k13, c13, rfl⟩ := g13.shape
  have s1 := Lib.hid ((g13.to HQ.out.1).sound HT.out.1)
  have hbk := (g11.below.trans (g12.below.mono g11.below.size))
  have hbl := hbk.trans (g13.below.mono hbk.size)
  have H1 := Lib.hid (hbl)
  have D1 := Lib.hid (Box2.new w13 24 (.bool n13) (.slice A13 k13 c13))
  have hal := ((Below.refl w13.heap.size w13).alloc (Nat.le_refl _) (.cells #[.bool n13, .slice A13 k13 c13] 24))
  have t1 := Lib.hid (s1.out.below hal)
  have H1a := Lib.hid (H1.out.trans (hal.mono H1.out.size))
  clear hbk hbl hal g11 g12 g13
  go_wp2_with fail
  refine (bfrom_any _ a HI.out.1.1 HI.out.1.2).mono ?_
  rintro e w21 ⟨n21, m21, rfl, g21⟩
  obtain ⟨A21, k21, c21, rfl⟩ := g21.shape
  go_wp2_with fail
  refine (bfrom_any _ b HI.out.2.1.1 HI.out.2.1.2).mono ?_
  rintro e w22 ⟨n22, m22, rfl, g22⟩
  obtain ⟨A22, k22, c22, rfl⟩ := g22.shape
  go_wp2_with fail
  refine (bmod_any _ n21 n22 _ _ a b ((g21.sound HS.out.1).below g22.below).whole (g22.sound HS.out.2).whole HQ.out.2.2).mono ?_
  rintro e w23 ⟨n23, m23, rfl, g23⟩
  obtain ⟨A23, k23, c23, rfl⟩ := g23.shape
  have s2 := Lib.hid ((g23.to HQ.out.2.1).sound HT.out.2)
  have hbk := (g21.below.trans (g22.below.mono g21.below.size))
  have hbl := hbk.trans (g23.below.mono hbk.size)
  have H2 := Lib.hid (H1a.out.trans (hbl.mono H1a.out.size))
  have D2 := Lib.hid (Box2.new w23 24 (.bool n23) (.slice A23 k23 c23))
  have hal := ((Below.refl w23.heap.size w23).alloc (Nat.le_refl _) (.cells #[.bool n23, .slice A23 k23 c23] 24))
  have t2 := Lib.hid (s2.out.below hal)
  have H2a := Lib.hid (H2.out.trans (hal.mono H2.out.size))
  have D1b := Lib.hid (D1.out.below (hbl.trans (hal.mono hbl.size)))
  have t1b := Lib.hid (t1.out.below (hbl.trans (hal.mono hbl.size)))
  clear hbk hbl hal g21 g22 g23
  go_wp2_with fail
  have HSX : Hid (∀ w', Below ((w23.alloc (.cells #[.bool n23, .slice A23 k23 c23] 24))).heap.size ((w23.alloc (.cells #[.bool n23, .slice A23 k23 c23] 24))) w' → w'.cell? ⟨w13.heap.size, 0, none⟩ = some (.bool n13) ∧ w'.cell? ⟨w13.heap.size, 1, none⟩ = some (.slice A13 k13 c13) ∧ w'.cell? ⟨w23.heap.size, 0, none⟩ = some (.bool n23) ∧ w'.cell? ⟨w23.heap.size, 1, none⟩ = some (.slice A23 k23 c23) ∧ Below ((w23.alloc (.cells #[.bool n23, .slice A23 k23 c23] 24))).heap.size ((w23.alloc (.cells #[.bool n23, .slice A23 k23 c23] 24))) w') := fun w' hb => ⟨(Box2.below (D1b.out) hb).c0, (Box2.below (D1b.out) hb).c1, (Box2.below (D2.out) hb).c0, (Box2.below (D2.out) hb).c1, hb⟩
  have hbX := (Below.refl ((w23.alloc (.cells #[.bool n23, .slice A23 k23 c23] 24))).heap.size ((w23.alloc (.cells #[.bool n23, .slice A23 k23 c23] 24)))).drew
  go_region_held3 (fun w' => w'.cell? ⟨w13.heap.size, 0, none⟩ = some (.bool n13) ∧ w'.cell? ⟨w13.heap.size, 1, none⟩ = some (.slice A13 k13 c13) ∧ w'.cell? ⟨w23.heap.size, 0, none⟩ = some (.bool n23) ∧ w'.cell? ⟨w23.heap.size, 1, none⟩ = some (.slice A23 k23 c23) ∧ Below ((w23.alloc (.cells #[.bool n23, .slice A23 k23 c23] 24))).heap.size ((w23.alloc (.cells #[.bool n23, .slice A23 k23 c23] 24))) w')
    (first
      | with_reducible exact HSX.out _ hbX
      | with_reducible exact HSX.out _ (hbX.alloc hbX.size _))
    (first
      | (go_at_call 31; with_reducible refine (bfrom_any _ q HI.out.2.2.1.1 HI.out.2.2.1.2).mono ?_; rintro e w4 ⟨n4, m4, rfl, g4⟩; have hbX := Below.trans hbX (Below.mono (g4.below) hbX.size); obtain ⟨A4, k4, c4, rfl⟩ := g4.shape)
      | (go_at_call 26; with_reducible refine (same_yes _ n13 n4 (.slice A13 k13 c13) _ q q (t1b.out.below hbX) (g4.sound HT.out.1) rfl).mono ?_; rintro e w5 ⟨rfl, h5⟩; have hbX := Below.trans hbX (Below.mono (h5) hbX.size))
      | (go_at_call 31; with_reducible refine (bfrom_any _ r HI.out.2.2.2.1 HI.out.2.2.2.2).mono ?_; rintro e w6 ⟨n6, m6, rfl, g6⟩; have hbX := Below.trans hbX (Below.mono (g6.below) hbX.size); obtain ⟨A6, k6, c6, rfl⟩ := g6.shape)
      | (go_at_call 26; with_reducible refine (same_yes _ n23 n6 (.slice A23 k23 c23) _ r r (t2.out.below hbX) (g6.sound HT.out.2) rfl).mono ?_; rintro e w7 ⟨rfl, h7⟩; have hbX := Below.trans hbX (Below.mono (h7) hbX.size)))
  go_wp2_with fail
  go_ret
  exact ⟨rfl, H2a.out.trans (hbX.mono H2a.out.size)⟩
end Go.Proofs.YtmajcjdhhnhmmaaDoor
