import Derived.Test.YtbippecchpaleaaGreatDoorBigFold
import Derived.Test.YtbippecchpaleaaGreatDoorGSign
import Derived.Test.YtbippecchpaleaaGreatDoorGAr
/- big.divided: what it returns. -/
namespace Go.Proofs.YtbippecchpaleaaGreatDoor
open Go.RowKit Go.Num
attribute [local go_sem] Oper.semAt_some u64_mask

theorem boxed_two (w : World) (x y : Value) : Boxed ((w.alloc (.cells #[x] 22)).alloc (.cells #[y] 22)) w.heap.size 22 x ∧ Boxed ((w.alloc (.cells #[x] 22)).alloc (.cells #[y] 22)) (w.heap.size + 1) 22 y := by
  refine ⟨(Boxed.new w _ _).alloc _, ?_⟩
  have := Boxed.new (w.alloc (.cells #[x] 22)) 22 y
  rw [World.size_alloc] at this
  exact this

set_option maxHeartbeats 1000000 in
set_option maxRecDepth 100000 in
theorem divided_any (w : World) (n k : Bool) (m o : Value) (y z : Int) (h : Whole w n m y) (g : Whole w k o z) (hz0 : z ≠ 0) :
    Calls Tryz.prog 108 #[.agg #[.bool n, m], .agg #[.bool k, o]] w fun e w' => ∃ Q R vq vr, e = .returned (.tuple #[.func (.func 131) #[] #[.pointer (some ⟨w.heap.size, 0, none⟩), .pointer (some ⟨w.heap.size + 1, 0, none⟩), .pointer (some ⟨R, 0, none⟩), .pointer (some ⟨Q, 0, none⟩)], .int .i64 0]) ∧
      Kept 43 24 22 w w' w.heap.size Q R n m k o vq vr y z ∧ Below w.heap.size w w' := by
  have hw := h
  have gw := g
  obtain ⟨l, a, hn, hl, hy⟩ := h
  obtain ⟨r, b, hk, hr, hz⟩ := g
  have hb0 : 0 < b := by
    rcases Nat.eq_zero_or_pos b with e | e
    · exact absurd (by rw [hz, e, sg_zero]) hz0
    · exact e
  have ea : y.natAbs = a := by rw [hy, sg_natAbs]
  have eb : z.natAbs = b := by rw [hz, sg_natAbs]
  have HE := Lib.hid (And.intro ea eb)
  have HW := Lib.hid (And.intro hw gw)
  have HB := Lib.hid (((Below.refl _ w).alloc (Nat.le_refl _) (.cells #[.bool n, m] 24)).alloc (by simp) (.cells #[.bool k, o] 24))
  have P0 := Lib.hid ((Box2.new w 24 (.bool n) m).alloc (.cells #[.bool k, o] 24))
  have hp1 := Box2.new (w.alloc (.cells #[.bool n, m] 24)) 24 (.bool k) o
  rw [World.size_alloc] at hp1
  have P1 := Lib.hid hp1
  clear hp1 hy hz hz0 ea eb hw gw
  go_enter Tryz.func108, Tryz.ntmps108
  go_wp2_with fail
  refine (div_any _ _ _ _ _ a b ((hn.alloc _).alloc _) ((hk.alloc _).alloc _) hb0).mono ?_
  rintro e w1 ⟨vq, vr, rfl, gq, gr, _⟩
  obtain ⟨A1, c1, rfl, _, _⟩ := gq.arg.open_
  obtain ⟨A2, c2, rfl, _, _⟩ := gr.arg.open_
  go_wp2_with fail
  go_ret2
  have hb1 := HB.out.trans (gr.below.mono HB.out.size)
  have hb2 := ((Below.refl w1.heap.size w1).alloc (Nat.le_refl _) (.cells #[.slice A1 (limbs (a / b)).length c1] 22)).alloc (by simp) (.cells #[.slice A2 (limbs (a % b)).length c2] 22)
  obtain ⟨q1, q2⟩ := boxed_two w1 (.slice A1 (limbs (a / b)).length c1) (.slice A2 (limbs (a % b)).length c2)
  obtain ⟨e1, e2⟩ := HE.out
  refine ⟨_, _, _, _, rfl, ⟨Nat.le_refl _, (P0.out.below gr.below).below hb2, (P1.out.below gr.below).below hb2, q1, q2, HW.out.1, HW.out.2, ?_, ?_⟩, hb1.trans (hb2.mono hb1.size)⟩
  · rw [e1, e2]; exact (gq.after HB.out).carry hb2
  · rw [e1, e2]; exact (gr.after HB.out).carry hb2
/-- Behind the statement that makes both right. -/
def Told (w0 wx : World) (A Q R G : Nat) (vq vr : Value) (y z : Int) : Prop := ∃ n B j c k B' j' c', Tell 43 24 22 w0 wx A Q R G n (.slice B j c) k (.slice B' j' c') vq vr y z
set_option maxHeartbeats 4000000 in
set_option maxRecDepth 100000 in
theorem tell_any (w0 w : World) (A Q R : Nat) (n k : Bool) (m o vq vr : Value) (y z : Int) (hz0 : z ≠ 0) (h : Kept 43 24 22 w0 w A Q R n m k o vq vr y z) :
    Calls Tryz.prog 131 #[.pointer (some ⟨A, 0, none⟩), .pointer (some ⟨A + 1, 0, none⟩), .pointer (some ⟨R, 0, none⟩), .pointer (some ⟨Q, 0, none⟩)] w fun e w' => ∃ n1 m1 n2 m2, e = .returned (.tuple #[.agg #[.bool n1, m1], .agg #[.bool n2, m2]]) ∧
      MadeZ 43 w0 w' n1 m1 (Int.fdiv y z) ∧ MadeZ 43 w0 w' n2 m2 (Int.fmod y z) := by
  obtain ⟨Aq, jq, cq, rfl⟩ : ∃ A j c, vq = .slice A j c := by obtain ⟨A, c, e, _⟩ := h.gq.arg; exact ⟨A, _, c, e⟩
  obtain ⟨Ar, jr, cr, rfl, hjr⟩ : ∃ A j c, vr = .slice A j c ∧ j = (limbs (y.natAbs % z.natAbs)).length := by obtain ⟨A, c, e, _⟩ := h.gr.arg; exact ⟨A, _, c, e, rfl⟩
  have hb2 := ((Below.refl w.heap.size w).alloc (Nat.le_refl _) (.cells #[.bool false, .slice none 0 0] 24)).alloc (by simp) (.cells #[.bool false, .slice none 0 0] 24)
  have K1 := Lib.hid (h.call hb2)
  have hr1 := (Box2.new w 24 (.bool false) (.slice none 0 0)).alloc (.cells #[.bool false, .slice none 0 0] 24)
  have hr2 := Box2.new (w.alloc (.cells #[.bool false, .slice none 0 0] 24)) 24 (.bool false) (.slice none 0 0)
  rw [World.size_alloc] at hr2
  have HR := Lib.hid (And.intro hr1 hr2)
  have HL := Lib.hid (And.intro h.p1.lt (And.intro (Boxed.lt h.bq) (Boxed.lt h.br)))
  have hys := Lib.hid h.wy.size
  have hzs := Lib.hid h.wz.size
  have HZ0 := Lib.hid hz0
  have HB := Lib.hid (h.gr.below.trans (hb2.mono h.gr.below.size))
  clear hb2 hr1 hr2 hz0
  go_enter Tryz.func131, Tryz.ntmps131
  go_upto_region 1 with fail
  go_cut [] from 8 (fun wx => Told w0 wx A Q R w.heap.size (.slice Aq jq cq) (.slice Ar jr cr) y z)
  case first =>
    have R0 := K1.out.call (Below.refl _ _).drew
    have S0 := And.intro (HR.out.1.drew) (HR.out.2.drew)
    have E0 : Below w0.heap.size w0 _ := R0.gr.below
    have f1 := R0.p0.c0
    have f2 := R0.p0.c1
    have f3 := R0.p1.c0
    have f4 := R0.p1.c1
    go_region_with (first
      | (refine (made_any _ n m y (h.wy.below E0)).mono ?_; rintro e wa ⟨na, ma, rfl, ga⟩; obtain ⟨A1, j1, c1, rfl⟩ := ga.shape; have R1 := R0.call ga.below; have p1 := R1.p0.c0; have p2 := R1.p0.c1; have p3 := R1.p1.c0; have p4 := R1.p1.c1; have q1 := R1.p0.f0; have q2 := R1.p0.f1; have q3 := R1.p1.f0; have q4 := R1.p1.f1)
      | (refine (made_any _ k o z (h.wz.below (E0.trans (ga.below.mono E0.size)))).mono ?_; rintro e wb ⟨nb, mb, rfl, gb⟩; obtain ⟨A2, j2, c2, rfl⟩ := gb.shape; have R2 := R1.call gb.below; have s1 := R2.p0.c0; have s2 := R2.p0.c1; have s3 := R2.p1.c0; have s4 := R2.p1.c1; have t1 := R2.p0.f0; have t2 := R2.p0.f1; have t3 := R2.p1.f0; have t4 := R2.p1.f1))
    all_goals
      go_wp2_with fail
      go_meet
    all_goals
      have E1 := E0.trans (ga.below.mono E0.size)
      have Ma := (ga.after E0).carry gb.below
      have Mb := gb.after E1
      obtain ⟨l1, l2, l3⟩ := HL.out
      have hA := R2.hA
      have g1 := R2.p0.not_boxed R2.bq
      have g2 := R2.p1.not_boxed R2.bq
      have g3 := R2.p0.not_boxed R2.br
      have g4 := R2.p1.not_boxed R2.br
      have X1 := (S0.1.below ga.below).below gb.below
      have X2 := (S0.2.below ga.below).below gb.below
      have Y1 : Box2 _ (A + 1) 24 (.bool k) o := (R2.p1.apart (h := A) (by omega) 0 (.bool na)).apart (h := A) (by omega) 1 (.slice A1 j1 c1)
      have Y0 : Has2 _ A 24 := ⟨_, _, (R2.p0.set0 (.bool na)).set1 (.slice A1 j1 c1)⟩
      refine ⟨na, A1, j1, c1, nb, A2, j2, c2, hA, l1, l2, l3, ?_, ?_, ?_, ?_, ?_, ?_, ?_, ?_, ?_, ?_⟩
      · exact ((((R2.p0.set0 _).set1 _).apart (by omega) _ _).apart (by omega) _ _)
      · exact (Y1.set0 _).set1 _
      · exact Boxed.apart (Boxed.apart (Boxed.apart (Boxed.apart R2.bq (by omega) _ _) (by omega) _ _) (by omega) _ _) (by omega) _ _
      · exact Boxed.apart (Boxed.apart (Boxed.apart (Boxed.apart R2.br (by omega) _ _) (by omega) _ _) (by omega) _ _) (by omega) _ _
      · exact (Ma.put R2.p0 hA (by decide) _ _).put Y1 (by omega) (by decide) _ _
      · exact (Mb.put R2.p0 hA (by decide) _ _).put Y1 (by omega) (by decide) _ _
      · exact (R2.gq.put ⟨_, _, R2.p0⟩ hA (by decide) _ _).put ⟨_, _, Y1⟩ (by omega) (by decide) _ _
      · exact (R2.gr.put ⟨_, _, R2.p0⟩ hA (by decide) _ _).put ⟨_, _, Y1⟩ (by omega) (by decide) _ _
      · exact ⟨_, _, (((X1.apart (by omega) _ _).apart (by omega) _ _).apart (by omega) _ _).apart (by omega) _ _⟩
      · exact ⟨_, _, (((X2.apart (by omega) _ _).apart (by omega) _ _).apart (by omega) _ _).apart (by omega) _ _⟩
  case rest =>
    obtain ⟨n1, B1, j1, c1, n2, B2, j2, c2, T0⟩ := hcut
    have hy1 : sg n1 y.natAbs = y := by rw [T0.my.sign, sg_own]
    have hz1 : sg n2 z.natAbs = z := by rw [T0.mz.sign, sg_own]
    have HQ := Lib.hid (Nat.le_trans (sz_div y.natAbs z.natAbs) hys.out)
    have HRm := Lib.hid (Nat.le_trans (sz_mod y.natAbs z.natAbs) hys.out)
    have hzp : 0 < z.natAbs := Int.natAbs_pos.2 HZ0.out
    have HT := Lib.hid T0
    by_cases hc : n1 = n2 ∨ y.natAbs % z.natAbs = 0
    · obtain ⟨d1, d2⟩ := fdiv_plain (n := n1) (k := n2) (A := y.natAbs) (B := z.natAbs) hzp hc
      rw [hy1, hz1] at d1 d2
      have HD := Lib.hid (And.intro d1.symm d2.symm)
      clear d1 d2 hy1 hz1
      have hfin : ∀ (c : Bool), (c = true → True) := fun _ _ => trivial
      clear hfin
      have hcond : (n1 == n2) = true ∨ ((n1 == n2) = false ∧ jr = 0) := by
        rcases hc with e | e
        · exact .inl (by simp [e])
        · by_cases e2 : n1 = n2
          · exact .inl (by simp [e2])
          · exact .inr ⟨by simpa using e2, by rw [hjr, e, limbs_zero]; rfl⟩
      clear hc hjr hzp
      rcases hcond with hnn | ⟨hnn, rfl⟩
      · have HD1 := Lib.hid (show sg false (y.natAbs / z.natAbs) = Int.fdiv y z by have h1 := HD.out.1; rwa [show (n1 != n2) = false by simp [bne, hnn]] at h1)
        have TX := T0
        obtain ⟨f1, f2, f3, f4, f5, f6, _⟩ := TX.cells
        clear TX T0
        go_wp2_with fail
        clear f1 f2 f3 f4 f5 f6
        go_region_held3 (fun w' => w'.cell? ⟨A, 0, none⟩ = some (.bool n1) ∧ w'.cell? ⟨A, 1, none⟩ = some (.slice B1 j1 c1) ∧ w'.cell? ⟨A + 1, 0, none⟩ = some (.bool n2) ∧ w'.cell? ⟨A + 1, 1, none⟩ = some (.slice B2 j2 c2) ∧ w'.cell? ⟨Q, 0, none⟩ = some (.slice Aq jq cq) ∧ w'.cell? ⟨R, 0, none⟩ = some (.slice Ar jr cr) ∧ w'.cell? ⟨w.heap.size, 0, none⟩ = some (peek w' ⟨w.heap.size, 0, none⟩) ∧ w'.cell? ⟨w.heap.size, 1, none⟩ = some (peek w' ⟨w.heap.size, 1, none⟩) ∧ w'.cell? ⟨w.heap.size + 1, 0, none⟩ = some (peek w' ⟨w.heap.size + 1, 0, none⟩) ∧ w'.cell? ⟨w.heap.size + 1, 1, none⟩ = some (peek w' ⟨w.heap.size + 1, 1, none⟩) ∧ w'.frozen? ⟨w.heap.size, 0, none⟩ = false ∧ w'.frozen? ⟨w.heap.size, 1, none⟩ = false ∧ w'.frozen? ⟨w.heap.size + 1, 0, none⟩ = false ∧ w'.frozen? ⟨w.heap.size + 1, 1, none⟩ = false ∧ Tell 43 24 22 w0 w' A Q R w.heap.size n1 (.slice B1 j1 c1) n2 (.slice B2 j2 c2) (.slice Aq jq cq) (.slice Ar jr cr) y z)
          (first
            | with_reducible exact HT.out.drew.cells
            | with_reducible exact (T2.put1 (by decide) _ _).cells
            | with_reducible exact ((T2.put1 (by decide) _ _).put2 (by decide) _ _).cells
            | with_reducible exact T2.cells
            | with_reducible exact T1.cells)
          (first
            | (go_at_call 50; with_reducible refine (of_num _ false (.slice Aq jq cq) _ _ (Int.fdiv y z) (HT.out.drew.gq.num (Nat.le_trans HQ.out (by decide))) HD1.out).mono ?_; rintro e wa ⟨na, ma, rfl, ga⟩; obtain ⟨D1, k1, b1, rfl⟩ := ga.shape; have T1 := HT.out.drew.call ga.below)
            | (go_at_call 50; with_reducible refine (of_num _ n1 (.slice Ar _ cr) _ _ (Int.fmod y z) (T1.gr.num (Nat.le_trans HRm.out (by decide))) HD.out.2).mono ?_; rintro e wb ⟨nb, mb, rfl, gb⟩; obtain ⟨D2, k2, b2, rfl⟩ := gb.shape; have T2 := T1.call gb.below))
        go_wp2_with fail
        have TZ := T2
        have M1 := (ga.after HT.out.drew.below).carry gb.below
        have M2 := gb.after T1.below
        have hGg : w0.heap.size ≤ w.heap.size := by have h1 := TZ.hA; have h2 := TZ.hAG; omega
        have Z2 : Has2 _ (w.heap.size + 1) 24 := (TZ.r2.apart (h := w.heap.size) (by omega) 0 (.bool na)).apart (h := w.heap.size) (by omega) 1 (.slice D1 k1 b1)
        obtain ⟨x1, x2, X1⟩ := TZ.r1
        obtain ⟨x3, x4, X2⟩ := Z2
        have Z0 := (((X1.set0 (.bool na)).set1 (.slice D1 k1 b1)).apart (h := w.heap.size + 1) (by omega) 0 (.bool nb)).apart (h := w.heap.size + 1) (by omega) 1 (.slice D2 k2 b2)
        have Z1 := (X2.set0 (.bool nb)).set1 (.slice D2 k2 b2)
        refine bodyPost_ret (v := .tuple #[.agg #[.bool na, .slice D1 k1 b1], .agg #[.bool nb, .slice D2 k2 b2]]) (by simp [results, Tryz.results131, go_sem, Z0.c0, Z0.c1, Z1.c0, Z1.c1]) rfl ⟨_, _, _, _, rfl, ?_, ?_⟩
        · exact (M1.put' ⟨_, _, X1⟩ hGg (by decide) _ _).put' ⟨_, _, X2⟩ (Nat.le_succ_of_le hGg) (by decide) _ _
        · exact (M2.put' ⟨_, _, X1⟩ hGg (by decide) _ _).put' ⟨_, _, X2⟩ (Nat.le_succ_of_le hGg) (by decide) _ _
      · have HD1 := Lib.hid (show sg true (y.natAbs / z.natAbs) = Int.fdiv y z by have h1 := HD.out.1; rwa [show (n1 != n2) = true by simp [bne, hnn]] at h1)
        have TX := T0
        obtain ⟨f1, f2, f3, f4, f5, f6, _⟩ := TX.cells
        clear TX T0
        go_wp2_with fail
        clear f1 f2 f3 f4 f5 f6
        go_region_held3 (fun w' => w'.cell? ⟨A, 0, none⟩ = some (.bool n1) ∧ w'.cell? ⟨A, 1, none⟩ = some (.slice B1 j1 c1) ∧ w'.cell? ⟨A + 1, 0, none⟩ = some (.bool n2) ∧ w'.cell? ⟨A + 1, 1, none⟩ = some (.slice B2 j2 c2) ∧ w'.cell? ⟨Q, 0, none⟩ = some (.slice Aq jq cq) ∧ w'.cell? ⟨R, 0, none⟩ = some (.slice Ar 0 cr) ∧ w'.cell? ⟨w.heap.size, 0, none⟩ = some (peek w' ⟨w.heap.size, 0, none⟩) ∧ w'.cell? ⟨w.heap.size, 1, none⟩ = some (peek w' ⟨w.heap.size, 1, none⟩) ∧ w'.cell? ⟨w.heap.size + 1, 0, none⟩ = some (peek w' ⟨w.heap.size + 1, 0, none⟩) ∧ w'.cell? ⟨w.heap.size + 1, 1, none⟩ = some (peek w' ⟨w.heap.size + 1, 1, none⟩) ∧ w'.frozen? ⟨w.heap.size, 0, none⟩ = false ∧ w'.frozen? ⟨w.heap.size, 1, none⟩ = false ∧ w'.frozen? ⟨w.heap.size + 1, 0, none⟩ = false ∧ w'.frozen? ⟨w.heap.size + 1, 1, none⟩ = false ∧ Tell 43 24 22 w0 w' A Q R w.heap.size n1 (.slice B1 j1 c1) n2 (.slice B2 j2 c2) (.slice Aq jq cq) (.slice Ar 0 cr) y z)
          (first
            | with_reducible exact HT.out.drew.cells
            | with_reducible exact (T2.put1 (by decide) _ _).cells
            | with_reducible exact ((T2.put1 (by decide) _ _).put2 (by decide) _ _).cells
            | with_reducible exact T2.cells
            | with_reducible exact T1.cells)
          (first
            | (go_at_call 50; with_reducible refine (of_num _ true (.slice Aq jq cq) _ _ (Int.fdiv y z) (HT.out.drew.gq.num (Nat.le_trans HQ.out (by decide))) HD1.out).mono ?_; rintro e wa ⟨na, ma, rfl, ga⟩; obtain ⟨D1, k1, b1, rfl⟩ := ga.shape; have T1 := HT.out.drew.call ga.below)
            | (go_at_call 50; with_reducible refine (of_num _ n1 (.slice Ar _ cr) _ _ (Int.fmod y z) (T1.gr.num (Nat.le_trans HRm.out (by decide))) HD.out.2).mono ?_; rintro e wb ⟨nb, mb, rfl, gb⟩; obtain ⟨D2, k2, b2, rfl⟩ := gb.shape; have T2 := T1.call gb.below))
        go_wp2_with fail
        have TZ := T2
        have M1 := (ga.after HT.out.drew.below).carry gb.below
        have M2 := gb.after T1.below
        have hGg : w0.heap.size ≤ w.heap.size := by have h1 := TZ.hA; have h2 := TZ.hAG; omega
        have Z2 : Has2 _ (w.heap.size + 1) 24 := (TZ.r2.apart (h := w.heap.size) (by omega) 0 (.bool na)).apart (h := w.heap.size) (by omega) 1 (.slice D1 k1 b1)
        obtain ⟨x1, x2, X1⟩ := TZ.r1
        obtain ⟨x3, x4, X2⟩ := Z2
        have Z0 := (((X1.set0 (.bool na)).set1 (.slice D1 k1 b1)).apart (h := w.heap.size + 1) (by omega) 0 (.bool nb)).apart (h := w.heap.size + 1) (by omega) 1 (.slice D2 k2 b2)
        have Z1 := (X2.set0 (.bool nb)).set1 (.slice D2 k2 b2)
        refine bodyPost_ret (v := .tuple #[.agg #[.bool na, .slice D1 k1 b1], .agg #[.bool nb, .slice D2 k2 b2]]) (by simp [results, Tryz.results131, go_sem, Z0.c0, Z0.c1, Z1.c0, Z1.c1]) rfl ⟨_, _, _, _, rfl, ?_, ?_⟩
        · exact (M1.put' ⟨_, _, X1⟩ hGg (by decide) _ _).put' ⟨_, _, X2⟩ (Nat.le_succ_of_le hGg) (by decide) _ _
        · exact (M2.put' ⟨_, _, X1⟩ hGg (by decide) _ _).put' ⟨_, _, X2⟩ (Nat.le_succ_of_le hGg) (by decide) _ _
    · have hnn : (n1 == n2) = false := by
        have : ¬ n1 = n2 := fun e => hc (.inl e)
        simpa using this
      have h0 : 0 < y.natAbs % z.natAbs := by have : ¬ y.natAbs % z.natAbs = 0 := fun e => hc (.inr e); omega
      obtain ⟨d1, d2⟩ := fdiv_down (n := n1) (k := n2) (A := y.natAbs) (B := z.natAbs) hzp hnn h0
      rw [hy1, hz1] at d1 d2
      have HD := Lib.hid (And.intro d1.symm d2.symm)
      have HLe := Lib.hid (Nat.le_of_lt (Nat.mod_lt y.natAbs hzp))
      have HS1 := Lib.hid (Nat.le_trans (sz_sub z.natAbs (y.natAbs % z.natAbs)) (Nat.le_trans hzs.out (show 1000 ≤ 100000 by decide)))
      have HS2 := Lib.hid (show sz (y.natAbs / z.natAbs + 1) ≤ 100000 by
        have h1 := sz_add (y.natAbs / z.natAbs) 1
        have h2 := HQ.out
        have h3 : sz 1 ≤ 1 := sz_le (by decide)
        omega)
      obtain ⟨jr', hjr'⟩ : ∃ j, jr = j + 1 := ⟨jr - 1, by rw [hjr, limbs_pos (by omega)]; simp⟩
      have hjl : jr' < 1000 := by have := HRm.out; unfold sz at this; omega
      subst hjr'
      clear d1 d2 hy1 hz1 hc h0 hjr hzp
      have TX := T0
      obtain ⟨f1, f2, f3, f4, f5, f6, _⟩ := TX.cells
      clear TX T0
      go_wp2_with fail
      refine (sub_yes _ _ _ _ _ z.natAbs (y.natAbs % z.natAbs) (HT.out.mz.gives.num (Nat.le_trans hzs.out (by decide))) (HT.out.gr.num (Nat.le_trans HRm.out (by decide))) HLe.out).mono ?_
      rintro e ws ⟨vs, rfl, gs⟩
      have T1 := Lib.hid (HT.out.call gs.below)
      clear f1 f2 f3 f4 f5 f6
      go_wp2_with fail
      go_region_held3 (fun w' => w'.cell? ⟨A, 0, none⟩ = some (.bool n1) ∧ w'.cell? ⟨A, 1, none⟩ = some (.slice B1 j1 c1) ∧ w'.cell? ⟨A + 1, 0, none⟩ = some (.bool n2) ∧ w'.cell? ⟨A + 1, 1, none⟩ = some (.slice B2 j2 c2) ∧ w'.cell? ⟨Q, 0, none⟩ = some (.slice Aq jq cq) ∧ w'.cell? ⟨R, 0, none⟩ = some (.slice Ar (jr' + 1) cr) ∧ w'.cell? ⟨w.heap.size, 0, none⟩ = some (peek w' ⟨w.heap.size, 0, none⟩) ∧ w'.cell? ⟨w.heap.size, 1, none⟩ = some (peek w' ⟨w.heap.size, 1, none⟩) ∧ w'.cell? ⟨w.heap.size + 1, 0, none⟩ = some (peek w' ⟨w.heap.size + 1, 0, none⟩) ∧ w'.cell? ⟨w.heap.size + 1, 1, none⟩ = some (peek w' ⟨w.heap.size + 1, 1, none⟩) ∧ w'.frozen? ⟨w.heap.size, 0, none⟩ = false ∧ w'.frozen? ⟨w.heap.size, 1, none⟩ = false ∧ w'.frozen? ⟨w.heap.size + 1, 0, none⟩ = false ∧ w'.frozen? ⟨w.heap.size + 1, 1, none⟩ = false ∧ Tell 43 24 22 w0 w' A Q R w.heap.size n1 (.slice B1 j1 c1) n2 (.slice B2 j2 c2) (.slice Aq jq cq) (.slice Ar (jr' + 1) cr) y z)
        (first
          | with_reducible exact T1.out.drew.cells
          | with_reducible exact (T5.put1 (by decide) _ _).cells
          | with_reducible exact ((T5.put1 (by decide) _ _).put2 (by decide) _ _).cells
          | with_reducible exact T5.cells
          | with_reducible exact T4.cells
          | with_reducible exact T3.cells
          | with_reducible exact T2.cells)
        (first
          | (go_at_call 118; refine (from_any _ 1 (by decide)).mono ?_; rintro e w3 ⟨v3, rfl, g3⟩; have T2 := T1.out.drew.call g3.below)
          | (go_at_call 133; refine (add_any _ _ _ _ _ (y.natAbs / z.natAbs) 1 (T2.gq.num (Nat.le_trans HQ.out (by decide))) (g3.num (Nat.le_trans (sz_le (k := 1) (by decide)) (by decide)))).mono ?_; rintro e w4 ⟨v4, rfl, g4⟩; have T3 := T2.call g4.below)
          | (go_at_call 50; with_reducible refine (of_num _ true v4 _ _ (Int.fdiv y z) (g4.num HS2.out) HD.out.1).mono ?_; rintro e wa ⟨na, ma, rfl, ga⟩; obtain ⟨D1, k1, b1, rfl⟩ := ga.shape; have T4 := T3.call ga.below)
          | (go_at_call 50; with_reducible refine (of_num _ n2 vs _ _ (Int.fmod y z) ((((((gs.num HS1.out).drew).below g3.below).below g4.below).below ga.below)) HD.out.2).mono ?_; rintro e wb ⟨nb, mb, rfl, gb⟩; obtain ⟨D2, k2, b2, rfl⟩ := gb.shape; have T5 := T4.call gb.below))
      go_wp2_with fail
      have TZ := T5
      have M1 := (ga.after T3.below).carry gb.below
      have M2 := gb.after T4.below
      have hGg : w0.heap.size ≤ w.heap.size := by have h1 := TZ.hA; have h2 := TZ.hAG; omega
      have Z2 : Has2 _ (w.heap.size + 1) 24 := (TZ.r2.apart (h := w.heap.size) (by omega) 0 (.bool na)).apart (h := w.heap.size) (by omega) 1 (.slice D1 k1 b1)
      obtain ⟨x1, x2, X1⟩ := TZ.r1
      obtain ⟨x3, x4, X2⟩ := Z2
      have Z0 := (((X1.set0 (.bool na)).set1 (.slice D1 k1 b1)).apart (h := w.heap.size + 1) (by omega) 0 (.bool nb)).apart (h := w.heap.size + 1) (by omega) 1 (.slice D2 k2 b2)
      have Z1 := (X2.set0 (.bool nb)).set1 (.slice D2 k2 b2)
      refine bodyPost_ret (v := .tuple #[.agg #[.bool na, .slice D1 k1 b1], .agg #[.bool nb, .slice D2 k2 b2]]) (by simp [results, Tryz.results131, go_sem, Z0.c0, Z0.c1, Z1.c0, Z1.c1]) rfl ⟨_, _, _, _, rfl, ?_, ?_⟩
      · exact (M1.put' ⟨_, _, X1⟩ hGg (by decide) _ _).put' ⟨_, _, X2⟩ (Nat.le_succ_of_le hGg) (by decide) _ _
      · exact (M2.put' ⟨_, _, X1⟩ hGg (by decide) _ _).put' ⟨_, _, X2⟩ (Nat.le_succ_of_le hGg) (by decide) _ _
end Go.Proofs.YtbippecchpaleaaGreatDoor

