import Derived.Test.YtmajcjdhhnhmmaaDoorBigHelp
import Derived.Test.YtmajcjdhhnhmmaaDoorGNat
/- big.Small: what it returns. -/
namespace Go.Proofs.YtmajcjdhhnhmmaaDoor
open Go.RowKit Go.Num
attribute [local go_sem] Oper.semAt_some u64_mask

set_option maxHeartbeats 2000000 in
set_option maxRecDepth 100000 in
theorem bsmall_in (w : World) (n : Bool) (m : Value) (z : Int) (h : Whole w n m z) (h1 : -9223372036854775808 ≤ z) (h2 : z ≤ 9223372036854775807) :
    Calls Tryd.prog 38 #[.agg #[.bool n, m]] w fun e w' => e = .returned (.tuple #[.int .i64 z, .bool true]) ∧ Below w.heap.size w w' := by
  have HB := Lib.hid ((Below.refl _ w).alloc (Nat.le_refl _) (.cells #[.bool n, m] 24))
  have B0 := Lib.hid (Box2.new w 24 (.bool n) m)
  have hsz := h.size
  obtain ⟨a, ha⟩ : ∃ a : Nat, a = z.natAbs := ⟨_, rfl⟩
  have HA := Lib.hid ha.symm
  rcases Int.lt_or_le z 0 with hx | hx
  · have HX := Lib.hid hx
    have HLT : Hid (z.natAbs < 18446744073709551616) := Lib.hid (by omega)
    obtain ⟨c, hc⟩ : ∃ c, c = IntKind.i64.wrap (a : Int) := ⟨_, rfl⟩
    have hw1 : IntKind.i64.wrap (a : Int) = c := hc.symm
    have hw2 : IntKind.i64.wrap (-c) = z := by rw [hc, IntKind.wrap_i64, IntKind.wrap_i64]; omega
    have ha0 : ((a : Int) != 0) = true := by simp; omega
    have hz9 : decide (z < 0) = true := by simp; omega
    clear ha h1 h2 hc
    go_enter Tryd.func38, Tryd.ntmps38
    go_wp2_with fail
    refine (made_any _ n m z (h.alloc _)).mono ?_
    rintro e w1 ⟨n1, m1, rfl, g⟩
    have hn : n1 = true := by rw [g.sign]; have := HX.out; simp; omega
    subst hn
    obtain ⟨A1, k1, c1, rfl⟩ := g.shape
    have B := Lib.hid (B0.out.below g.below)
    have HL := Lib.hid ((HB.out.trans (g.below.mono HB.out.size)))
    have hx1 : Sound ((w1.setCell ⟨w.heap.size, 0, none⟩ (.bool true)).setCell ⟨w.heap.size, 1, none⟩ (.slice A1 k1 c1)) true (.slice A1 k1 c1) z := ((g.after HB.out).put B.out (Nat.le_refl _) (by decide) _ _).sound hsz
    have HXX := Lib.hid hx1
    have B2 := Lib.hid ((B.out.set0 (.bool true)).set1 (.slice A1 k1 c1))
    have HL2 := Lib.hid ((HL.out.setCell (p := ⟨w.heap.size, 0, none⟩) (Nat.le_refl _) (.bool true)).setCell (p := ⟨w.heap.size, 1, none⟩) (Nat.le_refl _) (.slice A1 k1 c1))
    obtain ⟨hc0, hc1, hf0, hf1⟩ := B.out.facts
    have hd0 := B2.out.c0
    have hd1 := B2.out.c1
    clear hx1 g
    go_wp2_with fail
    refine (small_yes _ _ _ z.natAbs HXX.out.num HLT.out).mono ?_
    rintro e w2 ⟨rfl, h2⟩
    rw [HA.out]
    have B3 := Lib.hid (B2.out.below h2)
    have HL3 := Lib.hid (HL2.out.trans (h2.mono HL2.out.size))
    clear hc0 hc1 hf0 hf1 hd0 hd1
    have he0 := B3.out.c0
    have he1 := B3.out.c1
    go_wp2_with fail
    go_ret2
    exact ⟨rfl, HL3.out⟩
  · have HX := Lib.hid hx
    rcases Nat.eq_zero_or_pos a with h0 | h0
    · have HZE : Hid (z = 0) := Lib.hid (by omega)
      have HA0 : Hid (z.natAbs = 0) := Lib.hid (by omega)
      have HLT : Hid (z.natAbs < 18446744073709551616) := Lib.hid (by omega)
      clear ha h1 h2 hx h0
      go_enter Tryd.func38, Tryd.ntmps38
      go_wp2_with fail
      refine (made_any _ n m z (h.alloc _)).mono ?_
      rintro e w1 ⟨n1, m1, rfl, g⟩
      have hn : n1 = false := by rw [g.sign]; have := HX.out; simp; omega
      subst hn
      obtain ⟨A1, k1, c1, rfl⟩ := g.shape
      have B := Lib.hid (B0.out.below g.below)
      have HL := Lib.hid ((HB.out.trans (g.below.mono HB.out.size)))
      have hx1 : Sound ((w1.setCell ⟨w.heap.size, 0, none⟩ (.bool false)).setCell ⟨w.heap.size, 1, none⟩ (.slice A1 k1 c1)) false (.slice A1 k1 c1) z := ((g.after HB.out).put B.out (Nat.le_refl _) (by decide) _ _).sound hsz
      have HXX := Lib.hid hx1
      have B2 := Lib.hid ((B.out.set0 (.bool false)).set1 (.slice A1 k1 c1))
      have HL2 := Lib.hid ((HL.out.setCell (p := ⟨w.heap.size, 0, none⟩) (Nat.le_refl _) (.bool false)).setCell (p := ⟨w.heap.size, 1, none⟩) (Nat.le_refl _) (.slice A1 k1 c1))
      obtain ⟨hc0, hc1, hf0, hf1⟩ := B.out.facts
      have hd0 := B2.out.c0
      have hd1 := B2.out.c1
      clear hx1 g
      go_wp2_with fail
      refine (small_yes _ _ _ z.natAbs HXX.out.num HLT.out).mono ?_
      rintro e w2 ⟨rfl, h2⟩
      rw [HA0.out]
      have B3 := Lib.hid (B2.out.below h2)
      have HL3 := Lib.hid (HL2.out.trans (h2.mono HL2.out.size))
      clear hc0 hc1 hf0 hf1 hd0 hd1
      have he0 := B3.out.c0
      have he1 := B3.out.c1
      go_wp2_with fail
      go_ret2
      exact ⟨by rw [HZE.out]; rfl, HL3.out⟩
    · have HZE : Hid (z = (a : Int)) := Lib.hid (by omega)
      have HLT : Hid (z.natAbs < 18446744073709551616) := Lib.hid (by omega)
      have hw1 : IntKind.i64.wrap (a : Int) = (a : Int) := by rw [IntKind.wrap_i64]; omega
      have ha0 : ((a : Int) != 0) = true := by simp; omega
      have ha1 : decide ((a : Int) < 0) = false := by simp
      clear ha h1 h2 hx
      go_enter Tryd.func38, Tryd.ntmps38
      go_wp2_with fail
      refine (made_any _ n m z (h.alloc _)).mono ?_
      rintro e w1 ⟨n1, m1, rfl, g⟩
      have hn : n1 = false := by rw [g.sign]; have := HX.out; simp; omega
      subst hn
      obtain ⟨A1, k1, c1, rfl⟩ := g.shape
      have B := Lib.hid (B0.out.below g.below)
      have HL := Lib.hid ((HB.out.trans (g.below.mono HB.out.size)))
      have hx1 : Sound ((w1.setCell ⟨w.heap.size, 0, none⟩ (.bool false)).setCell ⟨w.heap.size, 1, none⟩ (.slice A1 k1 c1)) false (.slice A1 k1 c1) z := ((g.after HB.out).put B.out (Nat.le_refl _) (by decide) _ _).sound hsz
      have HXX := Lib.hid hx1
      have B2 := Lib.hid ((B.out.set0 (.bool false)).set1 (.slice A1 k1 c1))
      have HL2 := Lib.hid ((HL.out.setCell (p := ⟨w.heap.size, 0, none⟩) (Nat.le_refl _) (.bool false)).setCell (p := ⟨w.heap.size, 1, none⟩) (Nat.le_refl _) (.slice A1 k1 c1))
      obtain ⟨hc0, hc1, hf0, hf1⟩ := B.out.facts
      have hd0 := B2.out.c0
      have hd1 := B2.out.c1
      clear hx1 g
      go_wp2_with fail
      refine (small_yes _ _ _ z.natAbs HXX.out.num HLT.out).mono ?_
      rintro e w2 ⟨rfl, h2⟩
      rw [HA.out]
      have B3 := Lib.hid (B2.out.below h2)
      have HL3 := Lib.hid (HL2.out.trans (h2.mono HL2.out.size))
      clear hc0 hc1 hf0 hf1 hd0 hd1
      have he0 := B3.out.c0
      have he1 := B3.out.c1
      go_wp2_with fail
      go_ret2
      exact ⟨by rw [HZE.out]; rfl, HL3.out⟩

set_option maxHeartbeats 2000000 in
set_option maxRecDepth 100000 in
theorem bsmall_out (w : World) (n : Bool) (m : Value) (z : Int) (h : Whole w n m z) (h1 : z < -9223372036854775808 ∨ 9223372036854775807 < z) :
    Calls Tryd.prog 38 #[.agg #[.bool n, m]] w fun e w' => e = .returned (.tuple #[.int .i64 0, .bool false]) ∧ Below w.heap.size w w' := by
  have HB := Lib.hid ((Below.refl _ w).alloc (Nat.le_refl _) (.cells #[.bool n, m] 24))
  have B0 := Lib.hid (Box2.new w 24 (.bool n) m)
  have hsz := h.size
  obtain ⟨a, ha⟩ : ∃ a : Nat, a = z.natAbs := ⟨_, rfl⟩
  have HA := Lib.hid ha.symm
  rcases Int.lt_or_le z 0 with hx | hx
  · have HX := Lib.hid hx
    rcases Nat.lt_or_ge a 18446744073709551616 with hq | hq
    · skip
      have HLT : Hid (z.natAbs < 18446744073709551616) := Lib.hid (by omega)
      obtain ⟨c, hc⟩ : ∃ c, c = IntKind.i64.wrap (a : Int) := ⟨_, rfl⟩
      have hw1 : IntKind.i64.wrap (a : Int) = c := hc.symm
      have hc2 : c = (a : Int) - 18446744073709551616 := by rw [hc, IntKind.wrap_i64]; omega
      obtain ⟨d, hd⟩ : ∃ d, d = IntKind.i64.wrap (-c) := ⟨_, rfl⟩
      have hw2 : IntKind.i64.wrap (-c) = d := hd.symm
      have hd3 : decide (d < 0) = false := by rw [hd, IntKind.wrap_i64]; simp; omega
      have ha0 : ((a : Int) != 0) = true := by simp; omega
      clear ha h1 hc hd hc2 hq hx
      go_enter Tryd.func38, Tryd.ntmps38
      go_wp2_with fail
      refine (made_any _ n m z (h.alloc _)).mono ?_
      rintro e w1 ⟨n1, m1, rfl, g⟩
      have hn : n1 = true := by rw [g.sign]; have := HX.out; simp; omega
      subst hn
      obtain ⟨A1, k1, c1, rfl⟩ := g.shape
      have B := Lib.hid (B0.out.below g.below)
      have HL := Lib.hid ((HB.out.trans (g.below.mono HB.out.size)))
      have hx1 : Sound ((w1.setCell ⟨w.heap.size, 0, none⟩ (.bool true)).setCell ⟨w.heap.size, 1, none⟩ (.slice A1 k1 c1)) true (.slice A1 k1 c1) z := ((g.after HB.out).put B.out (Nat.le_refl _) (by decide) _ _).sound hsz
      have HXX := Lib.hid hx1
      have B2 := Lib.hid ((B.out.set0 (.bool true)).set1 (.slice A1 k1 c1))
      have HL2 := Lib.hid ((HL.out.setCell (p := ⟨w.heap.size, 0, none⟩) (Nat.le_refl _) (.bool true)).setCell (p := ⟨w.heap.size, 1, none⟩) (Nat.le_refl _) (.slice A1 k1 c1))
      obtain ⟨hc0, hc1, hf0, hf1⟩ := B.out.facts
      have hd0 := B2.out.c0
      have hd1 := B2.out.c1
      clear hx1 g
      go_wp2_with fail
      refine (small_yes _ _ _ z.natAbs HXX.out.num HLT.out).mono ?_
      rintro e w2 ⟨rfl, h2⟩
      rw [HA.out]
      have B3 := Lib.hid (B2.out.below h2)
      have HL3 := Lib.hid (HL2.out.trans (h2.mono HL2.out.size))
      clear hc0 hc1 hf0 hf1 hd0 hd1
      have he0 := B3.out.c0
      have he1 := B3.out.c1
      go_wp2_with fail
      go_ret2
      exact ⟨rfl, HL3.out⟩
    · skip
      have HLT : Hid (18446744073709551616 ≤ z.natAbs) := Lib.hid (by omega)
      clear ha h1 hq hx
      go_enter Tryd.func38, Tryd.ntmps38
      go_wp2_with fail
      refine (made_any _ n m z (h.alloc _)).mono ?_
      rintro e w1 ⟨n1, m1, rfl, g⟩
      have hn : n1 = true := by rw [g.sign]; have := HX.out; simp; omega
      subst hn
      obtain ⟨A1, k1, c1, rfl⟩ := g.shape
      have B := Lib.hid (B0.out.below g.below)
      have HL := Lib.hid ((HB.out.trans (g.below.mono HB.out.size)))
      have hx1 : Sound ((w1.setCell ⟨w.heap.size, 0, none⟩ (.bool true)).setCell ⟨w.heap.size, 1, none⟩ (.slice A1 k1 c1)) true (.slice A1 k1 c1) z := ((g.after HB.out).put B.out (Nat.le_refl _) (by decide) _ _).sound hsz
      have HXX := Lib.hid hx1
      have B2 := Lib.hid ((B.out.set0 (.bool true)).set1 (.slice A1 k1 c1))
      have HL2 := Lib.hid ((HL.out.setCell (p := ⟨w.heap.size, 0, none⟩) (Nat.le_refl _) (.bool true)).setCell (p := ⟨w.heap.size, 1, none⟩) (Nat.le_refl _) (.slice A1 k1 c1))
      obtain ⟨hc0, hc1, hf0, hf1⟩ := B.out.facts
      have hd0 := B2.out.c0
      have hd1 := B2.out.c1
      clear hx1 g
      go_wp2_with fail
      refine (small_no _ _ _ z.natAbs HXX.out.num HLT.out).mono ?_
      rintro e w2 ⟨rfl, h2⟩
      have B3 := Lib.hid (B2.out.below h2)
      have HL3 := Lib.hid (HL2.out.trans (h2.mono HL2.out.size))
      clear hc0 hc1 hf0 hf1 hd0 hd1
      have he0 := B3.out.c0
      have he1 := B3.out.c1
      go_wp2_with fail
      go_ret2
      exact ⟨rfl, HL3.out⟩
  · have HX := Lib.hid hx
    rcases Nat.lt_or_ge a 18446744073709551616 with hq | hq
    · skip
      have HLT : Hid (z.natAbs < 18446744073709551616) := Lib.hid (by omega)
      obtain ⟨c, hc⟩ : ∃ c, c = IntKind.i64.wrap (a : Int) := ⟨_, rfl⟩
      have hw1 : IntKind.i64.wrap (a : Int) = c := hc.symm
      have hc2 : decide (c < 0) = true := by rw [hc, IntKind.wrap_i64]; simp; omega
      have ha0 : ((a : Int) != 0) = true := by simp; omega
      clear ha h1 hc hq hx
      go_enter Tryd.func38, Tryd.ntmps38
      go_wp2_with fail
      refine (made_any _ n m z (h.alloc _)).mono ?_
      rintro e w1 ⟨n1, m1, rfl, g⟩
      have hn : n1 = false := by rw [g.sign]; have := HX.out; simp; omega
      subst hn
      obtain ⟨A1, k1, c1, rfl⟩ := g.shape
      have B := Lib.hid (B0.out.below g.below)
      have HL := Lib.hid ((HB.out.trans (g.below.mono HB.out.size)))
      have hx1 : Sound ((w1.setCell ⟨w.heap.size, 0, none⟩ (.bool false)).setCell ⟨w.heap.size, 1, none⟩ (.slice A1 k1 c1)) false (.slice A1 k1 c1) z := ((g.after HB.out).put B.out (Nat.le_refl _) (by decide) _ _).sound hsz
      have HXX := Lib.hid hx1
      have B2 := Lib.hid ((B.out.set0 (.bool false)).set1 (.slice A1 k1 c1))
      have HL2 := Lib.hid ((HL.out.setCell (p := ⟨w.heap.size, 0, none⟩) (Nat.le_refl _) (.bool false)).setCell (p := ⟨w.heap.size, 1, none⟩) (Nat.le_refl _) (.slice A1 k1 c1))
      obtain ⟨hc0, hc1, hf0, hf1⟩ := B.out.facts
      have hd0 := B2.out.c0
      have hd1 := B2.out.c1
      clear hx1 g
      go_wp2_with fail
      refine (small_yes _ _ _ z.natAbs HXX.out.num HLT.out).mono ?_
      rintro e w2 ⟨rfl, h2⟩
      rw [HA.out]
      have B3 := Lib.hid (B2.out.below h2)
      have HL3 := Lib.hid (HL2.out.trans (h2.mono HL2.out.size))
      clear hc0 hc1 hf0 hf1 hd0 hd1
      have he0 := B3.out.c0
      have he1 := B3.out.c1
      go_wp2_with fail
      go_ret2
      exact ⟨rfl, HL3.out⟩
    · skip
      have HLT : Hid (18446744073709551616 ≤ z.natAbs) := Lib.hid (by omega)
      clear ha h1 hq hx
      go_enter Tryd.func38, Tryd.ntmps38
      go_wp2_with fail
      refine (made_any _ n m z (h.alloc _)).mono ?_
      rintro e w1 ⟨n1, m1, rfl, g⟩
      have hn : n1 = false := by rw [g.sign]; have := HX.out; simp; omega
      subst hn
      obtain ⟨A1, k1, c1, rfl⟩ := g.shape
      have B := Lib.hid (B0.out.below g.below)
      have HL := Lib.hid ((HB.out.trans (g.below.mono HB.out.size)))
      have hx1 : Sound ((w1.setCell ⟨w.heap.size, 0, none⟩ (.bool false)).setCell ⟨w.heap.size, 1, none⟩ (.slice A1 k1 c1)) false (.slice A1 k1 c1) z := ((g.after HB.out).put B.out (Nat.le_refl _) (by decide) _ _).sound hsz
      have HXX := Lib.hid hx1
      have B2 := Lib.hid ((B.out.set0 (.bool false)).set1 (.slice A1 k1 c1))
      have HL2 := Lib.hid ((HL.out.setCell (p := ⟨w.heap.size, 0, none⟩) (Nat.le_refl _) (.bool false)).setCell (p := ⟨w.heap.size, 1, none⟩) (Nat.le_refl _) (.slice A1 k1 c1))
      obtain ⟨hc0, hc1, hf0, hf1⟩ := B.out.facts
      have hd0 := B2.out.c0
      have hd1 := B2.out.c1
      clear hx1 g
      go_wp2_with fail
      refine (small_no _ _ _ z.natAbs HXX.out.num HLT.out).mono ?_
      rintro e w2 ⟨rfl, h2⟩
      have B3 := Lib.hid (B2.out.below h2)
      have HL3 := Lib.hid (HL2.out.trans (h2.mono HL2.out.size))
      clear hc0 hc1 hf0 hf1 hd0 hd1
      have he0 := B3.out.c0
      have he1 := B3.out.c1
      go_wp2_with fail
      go_ret2
      exact ⟨rfl, HL3.out⟩
end Go.Proofs.YtmajcjdhhnhmmaaDoor
