import Derived.Test.YtbippecchpaleaaGreatDoorGNat
import Derived.Test.YtbippecchpaleaaGreatDoorGSign
import Derived.Test.YtbippecchpaleaaGreatDoorGAr
import Derived.Deep.RegionHeld3
/- big.Of, big.made, big.Neg: what each returns. Conditions: rows of at most a hundred thousand limbs. -/
namespace Go.Proofs.YtbippecchpaleaaGreatDoor
open Go.RowKit Go.Num
attribute [local go_sem] Oper.semAt_some u64_mask

theorem btrim_num (w : World) (v : Value) (l : List Nat) (n : Nat) (h : Num w v l n) :
    Calls Tryz.prog 85 #[v] w fun e w' => ∃ v', e = .returned v' ∧ Gives 43 encU w w' v' (limbs n) := by
  have := trim_any w v l h.arg h.lim (Nat.le_trans h.len (by decide))
  rwa [h.val] at this
theorem long_limbs {w : World} {m : Value} {l : List Nat} {a : Nat} (h : Num w m l a) (h0 : 0 < a) : ∃ k, (limbs a).length = k + 1 ∧ k < 100000 := by
  obtain ⟨k, hl⟩ : ∃ k, (limbs a).length = k + 1 := ⟨(limbs a).length - 1, by rw [limbs_pos (by omega)]; simp⟩
  have h1 := sz_num h
  have h2 := h.len
  unfold sz at h1
  exact ⟨k, hl, by omega⟩

set_option maxHeartbeats 1000000 in
theorem of_any (w : World) (n : Bool) (m : Value) (l : List Nat) (a : Nat) (h : Num w m l a) :
    Calls Tryz.prog 50 #[.bool n, m] w fun e w' => ∃ n' m', e = .returned (.agg #[.bool n', m']) ∧ MadeZ 43 w w' n' m' (sg n a) := by
  have hsg := Lib.hid (sg_lt n a)
  have hab := Lib.hid (sg_natAbs n a)
  have HB := Lib.hid ((Below.refl _ w).alloc (Nat.le_refl _) (.cells #[.bool false, .slice none 0 0] 24))
  rcases Nat.eq_zero_or_pos a with h0 | h0
  · have hl : (limbs a).length = 0 := by rw [h0, limbs_zero]; rfl
    have HD := Lib.hid (show (n && decide (0 < a)) = false by rw [h0]; simp)
    clear h0
    cases n
    · go_enter Tryz.func50, Tryz.ntmps50
      go_wp2_with fail
      refine (btrim_num _ _ _ a (h.alloc _)).mono ?_
      rintro e w1 ⟨v1, rfl, g⟩
      have G := Lib.hid g
      have B := Lib.hid ((Box2.new w 24 (.bool false) (.slice none 0 0)).below g.below)
      obtain ⟨hc0, hc1, hf0, hf1⟩ := B.out.facts
      obtain ⟨A1, c1, rfl, hc1, _⟩ := g.arg.open_
      clear g
      rw [hl]
      go_wp2_with fail
      refine bodyPost_ret (v := .agg #[.bool false, .slice A1 0 c1]) (by simp [results, Tryz.results50, go_sem, (B.out.set0 _).c0, ((B.out.set0 _).set1 _).c1]) rfl ⟨_, _, rfl, ?_⟩
      have M : MadeZ 43 w w1 false (.slice A1 0 c1) (sg false a) := ⟨by rw [hsg.out]; exact HD.out.symm, by rw [hab.out, ← hl]; exact G.out.after HB.out⟩
      exact (M.set B.out (Nat.le_refl _) (by decide) 0 _).set (B.out.set0 _) (Nat.le_refl _) (by decide) 1 _
    · go_enter Tryz.func50, Tryz.ntmps50
      go_wp2_with fail
      refine (btrim_num _ _ _ a (h.alloc _)).mono ?_
      rintro e w1 ⟨v1, rfl, g⟩
      have G := Lib.hid g
      have B := Lib.hid ((Box2.new w 24 (.bool false) (.slice none 0 0)).below g.below)
      obtain ⟨hc0, hc1, hf0, hf1⟩ := B.out.facts
      obtain ⟨A1, c1, rfl, hc1, _⟩ := g.arg.open_
      clear g
      rw [hl]
      go_wp2_with fail
      refine bodyPost_ret (v := .agg #[.bool false, .slice A1 0 c1]) (by simp [results, Tryz.results50, go_sem, (B.out.set0 _).c0, ((B.out.set0 _).set1 _).c1]) rfl ⟨_, _, rfl, ?_⟩
      have M : MadeZ 43 w w1 false (.slice A1 0 c1) (sg true a) := ⟨by rw [hsg.out]; exact HD.out.symm, by rw [hab.out, ← hl]; exact G.out.after HB.out⟩
      exact (M.set B.out (Nat.le_refl _) (by decide) 0 _).set (B.out.set0 _) (Nat.le_refl _) (by decide) 1 _
  · obtain ⟨k, hl, hk⟩ := long_limbs h h0
    have HD := Lib.hid (show (n && decide (0 < a)) = n by rw [decide_eq_true h0]; simp)
    clear h0
    cases n
    · go_enter Tryz.func50, Tryz.ntmps50
      go_wp2_with fail
      refine (btrim_num _ _ _ a (h.alloc _)).mono ?_
      rintro e w1 ⟨v1, rfl, g⟩
      have G := Lib.hid g
      have B := Lib.hid ((Box2.new w 24 (.bool false) (.slice none 0 0)).below g.below)
      obtain ⟨hc0, hc1, hf0, hf1⟩ := B.out.facts
      obtain ⟨A1, c1, rfl, hc1, _⟩ := g.arg.open_
      clear g
      rw [hl]
      go_wp2_with fail
      refine bodyPost_ret (v := .agg #[.bool false, .slice A1 (k + 1) c1]) (by simp [results, Tryz.results50, go_sem, (B.out.set0 _).c0, ((B.out.set0 _).set1 _).c1]) rfl ⟨_, _, rfl, ?_⟩
      have M : MadeZ 43 w w1 false (.slice A1 (k + 1) c1) (sg false a) := ⟨by rw [hsg.out]; exact HD.out.symm, by rw [hab.out, ← hl]; exact G.out.after HB.out⟩
      exact (M.set B.out (Nat.le_refl _) (by decide) 0 _).set (B.out.set0 _) (Nat.le_refl _) (by decide) 1 _
    · go_enter Tryz.func50, Tryz.ntmps50
      go_wp2_with fail
      refine (btrim_num _ _ _ a (h.alloc _)).mono ?_
      rintro e w1 ⟨v1, rfl, g⟩
      have G := Lib.hid g
      have B := Lib.hid ((Box2.new w 24 (.bool false) (.slice none 0 0)).below g.below)
      obtain ⟨hc0, hc1, hf0, hf1⟩ := B.out.facts
      obtain ⟨A1, c1, rfl, hc1, _⟩ := g.arg.open_
      clear g
      rw [hl]
      go_wp2_with fail
      refine bodyPost_ret (v := .agg #[.bool true, .slice A1 (k + 1) c1]) (by simp [results, Tryz.results50, go_sem, (B.out.set0 _).c0, ((B.out.set0 _).set1 _).c1]) rfl ⟨_, _, rfl, ?_⟩
      have M : MadeZ 43 w w1 true (.slice A1 (k + 1) c1) (sg true a) := ⟨by rw [hsg.out]; exact HD.out.symm, by rw [hab.out, ← hl]; exact G.out.after HB.out⟩
      exact (M.set B.out (Nat.le_refl _) (by decide) 0 _).set (B.out.set0 _) (Nat.le_refl _) (by decide) 1 _

theorem of_num (w : World) (n : Bool) (m : Value) (l : List Nat) (a : Nat) (z : Int) (h : Num w m l a) (hz : sg n a = z) :
    Calls Tryz.prog 50 #[.bool n, m] w fun e w' => ∃ n' m', e = .returned (.agg #[.bool n', m']) ∧ MadeZ 43 w w' n' m' z := hz ▸ of_any w n m l a h

set_option maxHeartbeats 1000000 in
theorem made_any (w : World) (n : Bool) (m : Value) (z : Int) (h : Whole w n m z) :
    Calls Tryz.prog 107 #[.agg #[.bool n, m]] w fun e w' => ∃ n' m', e = .returned (.agg #[.bool n', m']) ∧ MadeZ 43 w w' n' m' z := by
  obtain ⟨l, a, hn, hl, hz⟩ := h
  have HZ := Lib.hid hz
  have HB := Lib.hid (((Below.refl _ w).alloc (Nat.le_refl _) (.cells #[.bool n, m] 24)).alloc (by simp) (.cells #[.bool false, .slice none 0 0] 24))
  have B0 := Lib.hid (Box2.new (w.alloc (.cells #[.bool n, m] 24)) 24 (.bool false) (.slice none 0 0))
  rw [World.size_alloc] at B0
  clear hz
  go_enter Tryz.func107, Tryz.ntmps107
  go_wp2_with fail
  refine (of_num _ n m l a z ((hn.alloc _).alloc _) HZ.out.symm).mono ?_
  rintro e w1 ⟨n1, m1, rfl, g⟩
  obtain ⟨A1, c1, rfl, _, _⟩ := g.gives.arg.open_
  have B := Lib.hid (B0.out.below g.below)
  obtain ⟨hc0, hc1, hf0, hf1⟩ := B.out.facts
  go_wp2_with fail
  refine bodyPost_ret (v := .agg #[.bool n1, .slice A1 (limbs z.natAbs).length c1]) (by simp [results, Tryz.results107, go_sem, (B.out.set0 _).c0, ((B.out.set0 _).set1 _).c1]) rfl ⟨_, _, rfl, ?_⟩
  exact ((g.after HB.out).set B.out (by omega) (by decide) 0 _).set (B.out.set0 _) (by omega) (by decide) 1 _

set_option maxHeartbeats 1000000 in
theorem neg_any (w : World) (n : Bool) (m : Value) (z : Int) (h : Whole w n m z) :
    Calls Tryz.prog 61 #[.agg #[.bool n, m]] w fun e w' => ∃ n' m', e = .returned (.agg #[.bool n', m']) ∧ MadeZ 43 w w' n' m' (-z) := by
  obtain ⟨l, a, hn, hl, hz⟩ := h
  have HZ := Lib.hid (show sg (!n) a = -z by rw [sg_not, hz])
  have HB := Lib.hid (((Below.refl _ w).alloc (Nat.le_refl _) (.cells #[.bool n, m] 24)).alloc (by simp) (.cells #[.bool false, .slice none 0 0] 24))
  have B0 := Lib.hid (Box2.new (w.alloc (.cells #[.bool n, m] 24)) 24 (.bool false) (.slice none 0 0))
  rw [World.size_alloc] at B0
  clear hz
  go_enter Tryz.func61, Tryz.ntmps61
  go_wp2_with fail
  refine (of_num _ (!n) m l a (-z) ((hn.alloc _).alloc _) HZ.out).mono ?_
  rintro e w1 ⟨n1, m1, rfl, g⟩
  obtain ⟨A1, c1, rfl, _, _⟩ := g.gives.arg.open_
  have B := Lib.hid (B0.out.below g.below)
  obtain ⟨hc0, hc1, hf0, hf1⟩ := B.out.facts
  go_wp2_with fail
  refine bodyPost_ret (v := .agg #[.bool n1, .slice A1 (limbs (-z).natAbs).length c1]) (by simp [results, Tryz.results61, go_sem, (B.out.set0 _).c0, ((B.out.set0 _).set1 _).c1]) rfl ⟨_, _, rfl, ?_⟩
  exact ((g.after HB.out).set B.out (by omega) (by decide) 0 _).set (B.out.set0 _) (by omega) (by decide) 1 _
end Go.Proofs.YtbippecchpaleaaGreatDoor
/- big.mul, big.add: what each returns. -/
namespace Go.Proofs.YtbippecchpaleaaGreatDoor
open Go.RowKit Go.Num
attribute [local go_sem] Oper.semAt_some u64_mask

set_option maxHeartbeats 1000000 in
theorem mul2_any (w : World) (n k : Bool) (m o : Value) (y z : Int) (h : Whole w n m y) (g : Whole w k o z) :
    Calls Tryz.prog 94 #[.agg #[.bool n, m], .agg #[.bool k, o]] w fun e w' => ∃ n' m', e = .returned (.agg #[.bool n', m']) ∧ MadeZ 43 w w' n' m' (y * z) := by
  obtain ⟨l, a, hn, hl, hz⟩ := h
  obtain ⟨r, b, hk, hr, hy⟩ := g
  have HZ := Lib.hid (show sg (n != k) (a * b) = y * z by rw [sg_mul, hz, hy])
  have HS := Lib.hid (Nat.le_trans (sz_mul a b) (show sz a + sz b ≤ 100000 by have h1 := sz_num hn; have h2 := sz_num hk; omega))
  have HR := Lib.hid (Reg2.start w 24 (.bool n) m (.bool k) o)
  clear hz hy
  go_enter Tryz.func94, Tryz.ntmps94
  go_wp2_with fail
  go_region_held3 (fun w' => w'.cell? ⟨w.heap.size, 0, none⟩ = some (.bool n) ∧ w'.cell? ⟨w.heap.size, 1, none⟩ = some m ∧ w'.cell? ⟨w.heap.size + 1, 0, none⟩ = some (.bool k) ∧ w'.cell? ⟨w.heap.size + 1, 1, none⟩ = some o ∧
      w'.cell? ⟨w.heap.size + 1 + 1, 0, none⟩ = some (peek w' ⟨w.heap.size + 1 + 1, 0, none⟩) ∧ w'.cell? ⟨w.heap.size + 1 + 1, 1, none⟩ = some (peek w' ⟨w.heap.size + 1 + 1, 1, none⟩) ∧
      w'.frozen? ⟨w.heap.size + 1 + 1, 0, none⟩ = false ∧ w'.frozen? ⟨w.heap.size + 1 + 1, 1, none⟩ = false ∧ Reg2 w w' 24 (.bool n) m (.bool k) o)
    (first
      | with_reducible exact (HR.out.drew).facts
      | with_reducible exact (R2.put _ _).facts
      | with_reducible exact R2.facts
      | with_reducible exact R1.facts)
    (first
      | (go_at_call 66; go_split_ands; have R0 : Reg2 w _ 24 (.bool n) m (.bool k) o := (by assumption); refine (mul_any _ _ _ _ _ a b (hn.below R0.below) (hk.below R0.below)).mono ?_; rintro e wm ⟨vm, rfl, gm⟩; have R1 := R0.call gm.below)
      | (go_at_call 50; refine (of_num _ (n != k) _ _ (a * b) (y * z) (gm.num HS.out) HZ.out).mono ?_; rintro e wo ⟨no, mo, rfl, go⟩; obtain ⟨A1, c1, rfl, _, _⟩ := go.gives.arg.open_; have R2 := R1.call go.below))
  go_wp2_with fail
  refine bodyPost_ret (v := .agg #[.bool no, .slice A1 (limbs (y * z).natAbs).length c1]) (by simp [results, Tryz.results94, go_sem, R2.res.c0', R2.res.c1']) rfl ⟨_, _, rfl, ?_⟩
  exact go.laid R1.below R2.res (by omega) (by decide) _ _
end Go.Proofs.YtbippecchpaleaaGreatDoor

