import Derived.Test.YtbippecchpaleaaGreatDoorGOf
import Derived.Test.YtbippecchpaleaaGreatDoorGAr
import Derived.Deep.RegionWith
import Derived.Deep.CutRange
import Derived.BigRegion
import Derived.RegionTactic
/- big.add: what it returns. -/
namespace Go.Proofs.YtbippecchpaleaaGreatDoor
open Go.RowKit Go.Num
attribute [local go_sem] Oper.semAt_some u64_mask

/-- What both parameters hold once they are made right. -/
def Both (w wx : World) (y z : Int) : Prop := ∃ n A k c n' A' k' c', Reg2 w wx 24 (.bool n) (.slice A k c) (.bool n') (.slice A' k' c') ∧ Sound wx n (.slice A k c) y ∧ Sound wx n' (.slice A' k' c') z
theorem add_alike {n n' : Bool} {y z : Int} (hn : n = decide (y < 0)) (hk : n' = decide (z < 0)) (h : (n == n') = true) : sg n (y.natAbs + z.natAbs) = y + z := by
  have e : n = n' := by simpa using h
  rw [sg_add, hn, sg_own, ← hn, e, hk, sg_own]
theorem add_apart {n n' : Bool} {y z : Int} (hn : n = decide (y < 0)) (hk : n' = decide (z < 0)) (h : (n == n') = false) (hl : z.natAbs ≤ y.natAbs) : sg n (y.natAbs - z.natAbs) = y + z := by
  rw [sg_sub h hl, hn, hk, sg_own, sg_own]
theorem add_apart' {n n' : Bool} {y z : Int} (hn : n = decide (y < 0)) (hk : n' = decide (z < 0)) (h : (n == n') = false) (hl : y.natAbs ≤ z.natAbs) : sg n' (z.natAbs - y.natAbs) = y + z := by
  rw [sg_sub' h hl, hn, hk, sg_own, sg_own]

set_option maxHeartbeats 2000000 in
set_option maxRecDepth 100000 in
theorem add2_any (w : World) (n k : Bool) (m o : Value) (y z : Int) (h : Whole w n m y) (g : Whole w k o z) :
    Calls Tryz.prog 124 #[.agg #[.bool n, m], .agg #[.bool k, o]] w fun e w' => ∃ n' m', e = .returned (.agg #[.bool n', m']) ∧ MadeZ 43 w w' n' m' (y + z) := by
  have HR := Lib.hid (Reg2.start w 24 (.bool n) m (.bool k) o)
  have hy := Lib.hid h.size
  have hz := Lib.hid g.size
  go_enter Tryz.func124, Tryz.ntmps124
  go_upto_region 1 with fail
  go_cut [] from 9 (fun wx => Both w wx y z)
  case first =>
    have R0 := HR.out.drew
    go_region_with (first
      | (refine (made_any _ n m y (h.below R0.below)).mono ?_; rintro e wa ⟨na, ma, rfl, ga⟩; obtain ⟨A1, c1, rfl, _, _⟩ := ga.gives.arg.open_; have R1 := R0.call ga.below; obtain ⟨p1, p2, p3, p4, _⟩ := R1.facts; obtain ⟨q1, q2, q3, q4⟩ := R1.more)
      | (refine (made_any _ k o z (g.below R1.below)).mono ?_; rintro e wb ⟨nb, mb, rfl, gb⟩; obtain ⟨A2, c2, rfl, _, _⟩ := gb.gives.arg.open_; have R2 := R1.call gb.below; obtain ⟨s1, s2, s3, s4, _⟩ := R2.facts; obtain ⟨t1, t2, t3, t4⟩ := R2.more))
    all_goals
      go_wp2_with fail
      go_meet
    all_goals
      have Ma := (ga.after R0.below).carry gb.below
      have Mb := gb.after R1.below
      have Q := R2.put0 (.bool na) (.slice A1 (limbs y.natAbs).length c1)
      refine ⟨na, A1, _, c1, nb, A2, _, c2, Q.put1 _ _, ?_, ?_⟩
      · exact ((Ma.put R2.p0 (by omega) (by decide) _ _).put Q.p1 (by omega) (by decide) _ _).sound hy.out
      · exact ((Mb.put R2.p0 (by omega) (by decide) _ _).put Q.p1 (by omega) (by decide) _ _).sound hz.out
  case rest =>
    obtain ⟨n1, A1, k1, c1, n2, A2, k2, c2, R0, hs, ht⟩ := hcut
    have HA := Lib.hid (show sz (y.natAbs + z.natAbs) ≤ 100000 by have h1 := sz_add y.natAbs z.natAbs; have h2 := hy.out; have h3 := hz.out; omega)
    have HE := Lib.hid (Eq.refl n1)
    obtain ⟨p1, p2, p3, p4, p5, p6, p7, p8, _⟩ := R0.facts
    by_cases hnn : (n1 == n2) = true
    · have HZ := Lib.hid (add_alike hs.sign ht.sign hnn)
      go_wp2_with fail
      go_region_held3 (fun w' => w'.cell? ⟨w.heap.size, 0, none⟩ = some (.bool n1) ∧ w'.cell? ⟨w.heap.size, 1, none⟩ = some (.slice A1 k1 c1) ∧ w'.cell? ⟨w.heap.size + 1, 0, none⟩ = some (.bool n2) ∧ w'.cell? ⟨w.heap.size + 1, 1, none⟩ = some (.slice A2 k2 c2) ∧ w'.cell? ⟨w.heap.size + 1 + 1, 0, none⟩ = some (peek w' ⟨w.heap.size + 1 + 1, 0, none⟩) ∧ w'.cell? ⟨w.heap.size + 1 + 1, 1, none⟩ = some (peek w' ⟨w.heap.size + 1 + 1, 1, none⟩) ∧ w'.frozen? ⟨w.heap.size + 1 + 1, 0, none⟩ = false ∧ w'.frozen? ⟨w.heap.size + 1 + 1, 1, none⟩ = false ∧ Reg2 w w' 24 (.bool n1) (.slice A1 k1 c1) (.bool n2) (.slice A2 k2 c2))
        (first
          | with_reducible exact R0.drew.facts
          | with_reducible exact (R2.put _ _).facts
          | with_reducible exact R2.facts
          | with_reducible exact R1.facts)
        (first
          | (go_at_call 133; go_split_ands; have Rx : Reg2 w _ 24 (.bool n1) (.slice A1 k1 c1) (.bool n2) (.slice A2 k2 c2) := (by assumption); refine (add_any _ _ _ _ _ y.natAbs z.natAbs (hs.num.drew) (ht.num.drew)).mono ?_; rintro e wm ⟨vm, rfl, gm⟩; have R1 := R0.drew.call gm.below)
          | (go_at_call 50; refine (of_num _ n1 _ _ _ (y + z) (gm.num HA.out) HZ.out).mono ?_; rintro e wo ⟨no, mo, rfl, go⟩; obtain ⟨B1, b1, rfl, _, _⟩ := go.gives.arg.open_; have R2 := R1.call go.below))
      go_wp2_with fail
      refine bodyPost_ret (v := .agg #[.bool no, .slice B1 (limbs (y + z).natAbs).length b1]) (by simp [results, Tryz.results124, go_sem, R2.res.c0', R2.res.c1']) rfl ⟨_, _, rfl, ?_⟩
      exact go.laid R1.below R2.res (by omega) (by decide) _ _
    · have hnn : (n1 == n2) = false := by simpa using hnn
      rcases Nat.lt_or_ge y.natAbs z.natAbs with hlt | hge
      · have HZ := Lib.hid (add_apart' hs.sign ht.sign hnn (Nat.le_of_lt hlt))
        have HL := Lib.hid hlt
        have HA2 := Lib.hid (Nat.le_trans (sz_sub z.natAbs y.natAbs) (Nat.le_trans hz.out (show 1000 ≤ 100000 by decide)))
        clear hlt
        go_wp2_with fail
        refine (sub_no _ _ _ _ _ y.natAbs z.natAbs hs.num ht.num HL.out).mono ?_
        rintro e wq ⟨rfl, hq⟩
        have R1 := R0.call hq
        have hs := hs.below hq
        have ht := ht.below hq
        clear p1 p2 p3 p4 p5 p6 p7 p8 R0
        obtain ⟨p1, p2, p3, p4, p5, p6, p7, p8, _⟩ := R1.facts
        go_wp2_with fail
        refine (sub_yes _ _ _ _ _ z.natAbs y.natAbs ht.num hs.num (Nat.le_of_lt HL.out)).mono ?_
        rintro e wm ⟨vm, rfl, gm⟩
        have R2 := R1.call gm.below
        clear p1 p2 p3 p4 p5 p6 p7 p8
        obtain ⟨p1, p2, p3, p4, p5, p6, p7, p8, _⟩ := R2.facts
        go_wp2_with fail
        refine (of_num _ n2 _ _ _ (y + z) (gm.num HA2.out) HZ.out).mono ?_
        rintro e wo ⟨no, mo, rfl, go⟩
        obtain ⟨B1, b1, rfl, _, _⟩ := go.gives.arg.open_
        have R3 := R2.call go.below
        clear p1 p2 p3 p4 p5 p6 p7 p8
        obtain ⟨p1, p2, p3, p4, p5, p6, p7, p8, _⟩ := R3.facts
        go_wp2_with fail
        refine bodyPost_ret (v := .agg #[.bool no, .slice B1 (limbs (y + z).natAbs).length b1]) (by simp [results, Tryz.results124, go_sem, R3.res.c0', R3.res.c1']) rfl ⟨_, _, rfl, ?_⟩
        exact go.laid R2.below R3.res (by omega) (by decide) _ _
      · have HZ := Lib.hid (add_apart hs.sign ht.sign hnn hge)
        have HL := Lib.hid hge
        have HA2 := Lib.hid (Nat.le_trans (sz_sub y.natAbs z.natAbs) (Nat.le_trans hy.out (show 1000 ≤ 100000 by decide)))
        clear hge
        go_wp2_with fail
        refine (sub_yes _ _ _ _ _ y.natAbs z.natAbs hs.num ht.num HL.out).mono ?_
        rintro e wm ⟨vm, rfl, gm⟩
        have R2 := R0.call gm.below
        clear p1 p2 p3 p4 p5 p6 p7 p8
        obtain ⟨p1, p2, p3, p4, p5, p6, p7, p8, _⟩ := R2.facts
        go_wp2_with fail
        refine (of_num _ n1 _ _ _ (y + z) (gm.num HA2.out) HZ.out).mono ?_
        rintro e wo ⟨no, mo, rfl, go⟩
        obtain ⟨B1, b1, rfl, _, _⟩ := go.gives.arg.open_
        have R3 := R2.call go.below
        clear p1 p2 p3 p4 p5 p6 p7 p8
        obtain ⟨p1, p2, p3, p4, p5, p6, p7, p8, _⟩ := R3.facts
        go_wp2_with fail
        refine bodyPost_ret (v := .agg #[.bool no, .slice B1 (limbs (y + z).natAbs).length b1]) (by simp [results, Tryz.results124, go_sem, R3.res.c0', R3.res.c1']) rfl ⟨_, _, rfl, ?_⟩
        exact go.laid R2.below R3.res (by omega) (by decide) _ _
end Go.Proofs.YtbippecchpaleaaGreatDoor

