import Derived.Test.YtbippecchpaleaaGreatDoorBigSign
import Derived.Test.YtbippecchpaleaaGreatDoorGNat
/- big.Cmp: what it returns. -/
namespace Go.Num
open Go Go.RowKit
/-- Two parameters, no result in memory. -/
structure Par2 (w w' : World) (T : TypeId) (x y x' y' : Value) : Prop where
  below : Below w.heap.size w w'
  p0 : Box2 w' w.heap.size T x y
  p1 : Box2 w' (w.heap.size + 1) T x' y'
section
variable {w w' w'' : World} {T : TypeId} {x y x' y' : Value}
theorem Par2.start (w : World) (T : TypeId) (x y x' y' : Value) : Par2 w ((w.alloc (.cells #[x, y] T)).alloc (.cells #[x', y'] T)) T x y x' y' := by
  refine ⟨((Below.refl _ w).alloc (Nat.le_refl _) _).alloc (by simp) _, (Box2.new w T x y).alloc _, ?_⟩
  have := Box2.new (w.alloc (.cells #[x, y] T)) T x' y'
  rw [World.size_alloc] at this
  exact this
theorem Par2.call (h : Par2 w w' T x y x' y') (hb : Below w'.heap.size w' w'') : Par2 w w'' T x y x' y' := ⟨h.below.trans (hb.mono h.below.size), h.p0.below hb, h.p1.below hb⟩
theorem Par2.drew (h : Par2 w w' T x y x' y') : Par2 w w'.drew T x y x' y' := h.call (Below.refl _ _).drew
theorem Par2.facts (h : Par2 w w' T x y x' y') : w'.cell? ⟨w.heap.size, 0, none⟩ = some x ∧ w'.cell? ⟨w.heap.size, 1, none⟩ = some y ∧ w'.cell? ⟨w.heap.size + 1, 0, none⟩ = some x' ∧ w'.cell? ⟨w.heap.size + 1, 1, none⟩ = some y' ∧ Par2 w w' T x y x' y' := ⟨h.p0.c0, h.p0.c1, h.p1.c0, h.p1.c1, h⟩
end
theorem sg_pos' {n : Bool} {a : Nat} {z : Int} (h : z = sg n a) (hz : 0 < z) : z = (a : Int) := by cases n <;> simp [sg] at h <;> omega
theorem sg_neg' {n : Bool} {a : Nat} {z : Int} (h : z = sg n a) (hz : z < 0) : z = -(a : Int) := by cases n <;> simp [sg] at h <;> omega
end Go.Num
namespace Go.Proofs.YtbippecchpaleaaGreatDoor
open Go.RowKit Go.Num
attribute [local go_sem] Oper.semAt_some u64_mask
theorem cmp_pos {a b : Nat} : cmpN a b = Int.sign ((a : Int) - (b : Int)) := by
  rcases Nat.lt_trichotomy a b with h | h | h
  · rw [cmpN_lt h, Int.sign_eq_neg_one_of_neg (by omega)]
  · rw [cmpN_eq h, h, Int.sub_self]; rfl
  · rw [cmpN_gt h, Int.sign_eq_one_of_pos (by omega)]
theorem cmp_neg {a b : Nat} : -cmpN a b = Int.sign (-(a : Int) - -(b : Int)) := by
  rcases Nat.lt_trichotomy a b with h | h | h
  · rw [cmpN_lt h, Int.sign_eq_one_of_pos (by omega)]; rfl
  · rw [cmpN_eq h, h, Int.sub_self]; rfl
  · rw [cmpN_gt h, Int.sign_eq_neg_one_of_neg (by omega)]

set_option maxHeartbeats 4000000 in
set_option maxRecDepth 100000 in
theorem bcmp_any (w : World) (n k : Bool) (m o : Value) (y z : Int) (h : Whole w n m y) (g : Whole w k o z) :
    Calls Tryz.prog 69 #[.agg #[.bool n, m], .agg #[.bool k, o]] w fun e w' => e = .returned (.int .i64 (Int.sign (y - z))) ∧ Below w.heap.size w w' := by
  have HR := Lib.hid (Par2.start w 24 (.bool n) m (.bool k) o)
  obtain ⟨s, hs⟩ : ∃ s, s = Int.sign y := ⟨_, rfl⟩
  obtain ⟨t, ht⟩ : ∃ t, t = Int.sign z := ⟨_, rfl⟩
  have HS := Lib.hid (And.intro hs ht)
  clear hs ht
  go_enter Tryz.func69, Tryz.ntmps69
  go_upto_region 1 with fail
  go_cut [5, 6] from 7 (fun xv yv wx => xv = .int .i64 s ∧ yv = .int .i64 t ∧ Par2 w wx 24 (.bool n) m (.bool k) o)
  case first =>
    go_region_held3 (fun w' => w'.cell? ⟨w.heap.size, 0, none⟩ = some (.bool n) ∧ w'.cell? ⟨w.heap.size, 1, none⟩ = some m ∧ w'.cell? ⟨w.heap.size + 1, 0, none⟩ = some (.bool k) ∧ w'.cell? ⟨w.heap.size + 1, 1, none⟩ = some o ∧ Par2 w w' 24 (.bool n) m (.bool k) o)
      (first
        | with_reducible exact HR.out.drew.facts
        | with_reducible exact R2.facts
        | with_reducible exact R1.facts)
      (first
        | (go_at_call 70; with_reducible refine (bsign_any _ n m y (h.below HR.out.drew.below)).mono ?_; rintro e wa ⟨rfl, ha⟩; rw [← HS.out.1]; have R1 := HR.out.drew.call ha)
        | (go_at_call 70; with_reducible refine (bsign_any _ k o z (g.below R1.below)).mono ?_; rintro e wb ⟨rfl, hb⟩; rw [← HS.out.2]; have R2 := R1.call hb))
    go_wp2_with fail
    go_meet
    case rel => exact ⟨rfl, rfl, R2⟩
  case rest =>
    obtain ⟨rfl, rfl, R0⟩ := hcut
    obtain ⟨p1, p2, p3, p4, _⟩ := R0.facts
    have HB := Lib.hid R0.below
    have HGO := Lib.hid (And.intro (h.below R0.below) (g.below R0.below))
    have hS := HS.out
    rcases Int.lt_trichotomy y 0 with hy | hy | hy
    · have e1 := hS.1.trans (Int.sign_eq_neg_one_of_neg hy)
      rcases Int.lt_trichotomy z 0 with hz | hz | hz
      · have e2 := hS.2.trans (Int.sign_eq_neg_one_of_neg hz)
        subst e1
        subst e2
        have HY := Lib.hid (And.intro hy hz)
        clear hS hy hz HS
        obtain ⟨⟨l, a, hn, _, ey⟩, ⟨r, b, hk, _, ez⟩⟩ := HGO.out
        have EY := Lib.hid (And.intro ey ez)
        clear ey ez
        go_wp2_with fail
        refine (cmp_any _ _ _ _ _ a b hn hk).mono ?_
        rintro e w3 ⟨rfl, h3⟩
        have hc : cmpN a b = -1 ∨ cmpN a b = 0 ∨ cmpN a b = 1 := by
          rcases Nat.lt_trichotomy a b with h | h | h
          · exact .inl (cmpN_lt h)
          · exact .inr (.inl (cmpN_eq h))
          · exact .inr (.inr (cmpN_gt h))
        have hres : -cmpN a b = Int.sign (y - z) := by
          rw [sg_neg' EY.out.1 HY.out.1, sg_neg' EY.out.2 HY.out.2]
          exact cmp_neg
        generalize cmpN a b = cv at hc hres ⊢
        have HRS := Lib.hid hres
        clear hres
        rcases hc with rfl | rfl | rfl
        all_goals
          go_wp2_with fail
          go_ret
          exact ⟨by rw [← HRS.out] <;> rfl, HB.out.trans (h3.mono HB.out.size)⟩
      · have e2 := hS.2.trans ((Int.sign_eq_zero_iff_zero.2 hz))
        subst e1
        subst e2
        have HY := Lib.hid (And.intro hy hz)
        clear hS hy hz HS
        go_wp2_with fail
        go_ret
        exact ⟨by rw [show Int.sign (y - z) = -1 from Int.sign_eq_neg_one_of_neg (by have := HY.out; omega)] <;> rfl, HB.out⟩
      · have e2 := hS.2.trans (Int.sign_eq_one_of_pos hz)
        subst e1
        subst e2
        have HY := Lib.hid (And.intro hy hz)
        clear hS hy hz HS
        go_wp2_with fail
        go_ret
        exact ⟨by rw [show Int.sign (y - z) = -1 from Int.sign_eq_neg_one_of_neg (by have := HY.out; omega)] <;> rfl, HB.out⟩
    · have e1 := hS.1.trans ((Int.sign_eq_zero_iff_zero.2 hy))
      rcases Int.lt_trichotomy z 0 with hz | hz | hz
      · have e2 := hS.2.trans (Int.sign_eq_neg_one_of_neg hz)
        subst e1
        subst e2
        have HY := Lib.hid (And.intro hy hz)
        clear hS hy hz HS
        go_wp2_with fail
        go_ret
        exact ⟨by rw [show Int.sign (y - z) = 1 from Int.sign_eq_one_of_pos (by have := HY.out; omega)] <;> rfl, HB.out⟩
      · have e2 := hS.2.trans ((Int.sign_eq_zero_iff_zero.2 hz))
        subst e1
        subst e2
        have HY := Lib.hid (And.intro hy hz)
        clear hS hy hz HS
        go_wp2_with fail
        go_ret
        exact ⟨by rw [show Int.sign (y - z) = 0 from (by simp [HY.out.1, HY.out.2])] <;> rfl, HB.out⟩
      · have e2 := hS.2.trans (Int.sign_eq_one_of_pos hz)
        subst e1
        subst e2
        have HY := Lib.hid (And.intro hy hz)
        clear hS hy hz HS
        go_wp2_with fail
        go_ret
        exact ⟨by rw [show Int.sign (y - z) = -1 from Int.sign_eq_neg_one_of_neg (by have := HY.out; omega)] <;> rfl, HB.out⟩
    · have e1 := hS.1.trans (Int.sign_eq_one_of_pos hy)
      rcases Int.lt_trichotomy z 0 with hz | hz | hz
      · have e2 := hS.2.trans (Int.sign_eq_neg_one_of_neg hz)
        subst e1
        subst e2
        have HY := Lib.hid (And.intro hy hz)
        clear hS hy hz HS
        go_wp2_with fail
        go_ret
        exact ⟨by rw [show Int.sign (y - z) = 1 from Int.sign_eq_one_of_pos (by have := HY.out; omega)] <;> rfl, HB.out⟩
      · have e2 := hS.2.trans ((Int.sign_eq_zero_iff_zero.2 hz))
        subst e1
        subst e2
        have HY := Lib.hid (And.intro hy hz)
        clear hS hy hz HS
        go_wp2_with fail
        go_ret
        exact ⟨by rw [show Int.sign (y - z) = 1 from Int.sign_eq_one_of_pos (by have := HY.out; omega)] <;> rfl, HB.out⟩
      · have e2 := hS.2.trans (Int.sign_eq_one_of_pos hz)
        subst e1
        subst e2
        have HY := Lib.hid (And.intro hy hz)
        clear hS hy hz HS
        obtain ⟨⟨l, a, hn, _, ey⟩, ⟨r, b, hk, _, ez⟩⟩ := HGO.out
        have EY := Lib.hid (And.intro ey ez)
        clear ey ez
        go_wp2_with fail
        refine (cmp_any _ _ _ _ _ a b hn hk).mono ?_
        rintro e w3 ⟨rfl, h3⟩
        have hc : cmpN a b = -1 ∨ cmpN a b = 0 ∨ cmpN a b = 1 := by
          rcases Nat.lt_trichotomy a b with h | h | h
          · exact .inl (cmpN_lt h)
          · exact .inr (.inl (cmpN_eq h))
          · exact .inr (.inr (cmpN_gt h))
        have hres : cmpN a b = Int.sign (y - z) := by
          rw [sg_pos' EY.out.1 HY.out.1, sg_pos' EY.out.2 HY.out.2]
          exact cmp_pos
        generalize cmpN a b = cv at hc hres ⊢
        have HRS := Lib.hid hres
        clear hres
        rcases hc with rfl | rfl | rfl
        all_goals
          go_wp2_with fail
          go_ret
          exact ⟨by rw [← HRS.out] <;> rfl, HB.out.trans (h3.mono HB.out.size)⟩
end Go.Proofs.YtbippecchpaleaaGreatDoor

