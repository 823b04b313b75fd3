import Derived.Test.YtbippecchpaleaaGreatDoorBigAdd
import Derived.Test.YtbippecchpaleaaGreatDoorGNat
/- big.Sign, big.From, big.Sub: what each returns. -/
namespace Go.Proofs.YtbippecchpaleaaGreatDoor
open Go.RowKit Go.Num
attribute [local go_sem] Oper.semAt_some u64_mask

theorem len_zero' {z : Int} (h : z = 0) : (limbs z.natAbs).length = 0 := by rw [h]; show (limbs 0).length = 0; rw [limbs_zero]; rfl
theorem len_some {z : Int} (h : z ≠ 0) (hz : sz z.natAbs ≤ 1000) : ∃ k, (limbs z.natAbs).length = k + 1 ∧ k < 1000 := by
  have h0 : 0 < z.natAbs := Int.natAbs_pos.2 h
  obtain ⟨k, hl⟩ : ∃ k, (limbs z.natAbs).length = k + 1 := ⟨(limbs z.natAbs).length - 1, by rw [limbs_pos (by omega)]; simp⟩
  unfold sz at hz
  exact ⟨k, hl, by omega⟩

set_option maxHeartbeats 1000000 in
set_option maxRecDepth 100000 in
theorem bsign_any (w : World) (n : Bool) (m : Value) (z : Int) (h : Whole w n m z) :
    Calls Tryz.prog 70 #[.agg #[.bool n, m]] w fun e w' => e = .returned (.int .i64 (Int.sign z)) ∧ Below w.heap.size w w' := by
  have hsz := h.size
  have HB := Lib.hid ((Below.refl _ w).alloc (Nat.le_refl _) (.cells #[.bool n, m] 24))
  have B0 := Lib.hid (Box2.new w 24 (.bool n) m)
  rcases Int.lt_trichotomy z 0 with hx | hx | hx
  · have HX := Lib.hid hx
    go_enter Tryz.func70, Tryz.ntmps70
    go_wp2_with fail
    refine (made_any _ n m z (h.alloc _)).mono ?_
    rintro e w1 ⟨n1, m1, rfl, g⟩
    have hn : n1 = true := by rw [g.sign]; have := HX.out; simp; omega
    subst hn
    obtain ⟨A1, c1, rfl, _, _⟩ := g.gives.arg.open_
    have B := Lib.hid (B0.out.below g.below)
    have HL := Lib.hid ((HB.out.trans (g.below.mono HB.out.size)))
    obtain ⟨hc0, hc1, hf0, hf1⟩ := B.out.facts
    have hd0 := ((B.out.set0 (.bool true)).set1 (.slice A1 (limbs z.natAbs).length c1)).c0
    have hd1 := ((B.out.set0 (.bool true)).set1 (.slice A1 (limbs z.natAbs).length c1)).c1
    skip
    clear hx
    go_wp2_with fail
    go_ret
    exact ⟨by rw [show Int.sign z = -1 from Int.sign_eq_neg_one_of_neg HX.out]; rfl, (HL.out.setCell (p := ⟨w.heap.size, 0, none⟩) (Nat.le_refl _) _).setCell (p := ⟨w.heap.size, 1, none⟩) (Nat.le_refl _) _⟩
  · have HX := Lib.hid hx
    go_enter Tryz.func70, Tryz.ntmps70
    go_wp2_with fail
    refine (made_any _ n m z (h.alloc _)).mono ?_
    rintro e w1 ⟨n1, m1, rfl, g⟩
    have hn : n1 = false := by rw [g.sign]; have := HX.out; simp; omega
    subst hn
    obtain ⟨A1, c1, rfl, _, _⟩ := g.gives.arg.open_
    have B := Lib.hid (B0.out.below g.below)
    have HL := Lib.hid ((HB.out.trans (g.below.mono HB.out.size)))
    obtain ⟨hc0, hc1, hf0, hf1⟩ := B.out.facts
    have hd0 := ((B.out.set0 (.bool false)).set1 (.slice A1 (limbs z.natAbs).length c1)).c0
    have hd1 := ((B.out.set0 (.bool false)).set1 (.slice A1 (limbs z.natAbs).length c1)).c1
    have hl := len_zero' hx
    rw [hl] at hd1 ⊢
    clear hx
    go_wp2_with fail
    go_ret
    exact ⟨by rw [show Int.sign z = 0 from by rw [HX.out]; rfl]; rfl, (HL.out.setCell (p := ⟨w.heap.size, 0, none⟩) (Nat.le_refl _) _).setCell (p := ⟨w.heap.size, 1, none⟩) (Nat.le_refl _) _⟩
  · have HX := Lib.hid hx
    go_enter Tryz.func70, Tryz.ntmps70
    go_wp2_with fail
    refine (made_any _ n m z (h.alloc _)).mono ?_
    rintro e w1 ⟨n1, m1, rfl, g⟩
    have hn : n1 = false := by rw [g.sign]; have := HX.out; simp; omega
    subst hn
    obtain ⟨A1, c1, rfl, _, _⟩ := g.gives.arg.open_
    have B := Lib.hid (B0.out.below g.below)
    have HL := Lib.hid ((HB.out.trans (g.below.mono HB.out.size)))
    obtain ⟨hc0, hc1, hf0, hf1⟩ := B.out.facts
    have hd0 := ((B.out.set0 (.bool false)).set1 (.slice A1 (limbs z.natAbs).length c1)).c0
    have hd1 := ((B.out.set0 (.bool false)).set1 (.slice A1 (limbs z.natAbs).length c1)).c1
    obtain ⟨k, hl, hk⟩ := len_some (by omega) hsz
    rw [hl] at hd1 ⊢
    clear hx
    go_wp2_with fail
    go_ret
    exact ⟨by rw [show Int.sign z = 1 from Int.sign_eq_one_of_pos HX.out]; rfl, (HL.out.setCell (p := ⟨w.heap.size, 0, none⟩) (Nat.le_refl _) _).setCell (p := ⟨w.heap.size, 1, none⟩) (Nat.le_refl _) _⟩

set_option maxHeartbeats 1000000 in
set_option maxRecDepth 100000 in
theorem bfrom_any (w : World) (z : Int) (h1 : -9223372036854775808 ≤ z) (h2 : z ≤ 9223372036854775807) :
    Calls Tryz.prog 84 #[.int .i64 z] w fun e w' => ∃ n' m', e = .returned (.agg #[.bool n', m']) ∧ MadeZ 43 w w' n' m' z := by
  obtain ⟨a, ha⟩ : ∃ a : Nat, a = z.natAbs := ⟨_, rfl⟩
  have hlt : a < 18446744073709551616 := by omega
  have HB := Lib.hid (((Below.refl _ w).alloc (Nat.le_refl _) (.cells #[.bool false, .slice none 0 0] 24)))
  have B0 := Lib.hid (Box2.new w 24 (.bool false) (.slice none 0 0))
  have hN : ∀ W : World, Num (W.alloc (.cells #[.int .u32 ((a : Int) % 4294967296), .int .u32 ((a : Int) / 4294967296)] 43)) (.slice (some ⟨W.heap.size, 0, none⟩) 2 2) [a % 4294967296, a / 4294967296] a := fun W =>
    ⟨arg_lit W _ _ 2 _ rfl (by simp), Lim.cons (by omega) (Lim.one (by omega)), by simp, by simp [val]; omega⟩
  have hN1 := hN (w.alloc (.cells #[.bool false, .slice none 0 0] 24))
  rw [World.size_alloc] at hN1
  have HN := Lib.hid hN1
  clear hN hN1
  have HB2 := Lib.hid (HB.out.alloc (by simp) (.cells #[.int .u32 ((a : Int) % 4294967296), .int .u32 ((a : Int) / 4294967296)] 43))
  rcases Int.lt_or_le z 0 with hx | hx
  · have hz : z = -(a : Int) := by omega
    have HZ := Lib.hid (show sg true a = z by rw [sg_true, hz])
    have hw1 : IntKind.u64.wrap z = ((18446744073709551616 - a : Nat) : Int) := by rw [IntKind.wrap_u64]; omega
    have hw2 : IntKind.u64.wrap (-((18446744073709551616 - a : Nat) : Int)) = (a : Int) := by rw [IntKind.wrap_u64]; omega
    clear ha hz
    go_enter Tryz.func84, Tryz.ntmps84
    go_wp2_with fail
    refine (of_num _ true _ _ a z HN.out HZ.out).mono ?_
    rintro e wo ⟨no, mo, rfl, go⟩
    obtain ⟨A1, c1, rfl, _, _⟩ := go.gives.arg.open_
    have B := Lib.hid ((B0.out.alloc _).below go.below)
    obtain ⟨hc0, hc1, hf0, hf1⟩ := B.out.facts
    go_wp2_with fail
    refine bodyPost_ret (v := .agg #[.bool no, .slice A1 (limbs z.natAbs).length c1]) (by simp [results, Tryz.results84, go_sem, (B.out.set0 _).c0, ((B.out.set0 _).set1 _).c1]) rfl ⟨_, _, rfl, ?_⟩
    exact (go.after HB2.out).put B.out (Nat.le_refl _) (by decide) _ _
  · have hz : z = (a : Int) := by omega
    subst hz
    have HZ := Lib.hid (sg_false a)
    clear ha
    go_enter Tryz.func84, Tryz.ntmps84
    go_wp2_with fail
    refine (of_num _ false _ _ a (a : Int) HN.out HZ.out).mono ?_
    rintro e wo ⟨no, mo, rfl, go⟩
    obtain ⟨A1, c1, rfl, _, _⟩ := go.gives.arg.open_
    have B := Lib.hid ((B0.out.alloc _).below go.below)
    obtain ⟨hc0, hc1, hf0, hf1⟩ := B.out.facts
    go_wp2_with fail
    refine bodyPost_ret (v := .agg #[.bool no, .slice A1 (limbs (a : Int).natAbs).length c1]) (by simp [results, Tryz.results84, go_sem, (B.out.set0 _).c0, ((B.out.set0 _).set1 _).c1]) rfl ⟨_, _, rfl, ?_⟩
    exact (go.after HB2.out).put B.out (Nat.le_refl _) (by decide) _ _

end Go.Proofs.YtbippecchpaleaaGreatDoor

