import Derived.Test.YtmajcjdhhnhmmaaDoorRefSame
import Derived.Test.YtmajcjdhhnhmmaaDoorBigCmp
/- litmusref02.Same, litmuslaw02.same, few: what each returns. -/
namespace Go.Proofs.YtmajcjdhhnhmmaaDoor
open Go.RowKit Go.Num
attribute [local go_sem] Oper.semAt_some u64_mask

set_option maxHeartbeats 1000000 in
set_option maxRecDepth 100000 in
theorem zsame_any (w : World) (n k : Bool) (m o : Value) (la lb : List Nat) (ha : Arg encU w m la) (hb : Arg encU w o lb) (hn : la.length ≤ 1000000) :
    Calls Tryd.prog 20 #[.agg #[.bool n, m], .agg #[.bool k, o]] w fun e w' => e = .returned (.bool (n == k && decide (la = lb))) ∧ Below w.heap.size w w' := by
  have HR := Lib.hid (Par2.start w 24 (.bool n) m (.bool k) o)
  cases n
  all_goals cases k
  · go_enter Tryd.func20, Tryd.ntmps20
    go_wp2_with fail
    refine (refSame_any _ _ _ la lb ((ha.alloc _).alloc _) ((hb.alloc _).alloc _) hn).mono ?_
    rintro e w1 ⟨rfl, h1⟩
    obtain ⟨d, hd⟩ : ∃ d, d = decide (la = lb) := ⟨_, rfl⟩
    rw [← hd]
    have HD := Lib.hid hd
    clear hd
    cases d
    all_goals
      go_wp2_with fail
      go_ret
      exact ⟨by rw [← HD.out]; rfl, HR.out.below.trans (h1.mono HR.out.below.size)⟩
  · go_enter Tryd.func20, Tryd.ntmps20
    go_wp2_with fail
    go_ret
    exact ⟨rfl, HR.out.below⟩
  · go_enter Tryd.func20, Tryd.ntmps20
    go_wp2_with fail
    go_ret
    exact ⟨rfl, HR.out.below⟩
  · go_enter Tryd.func20, Tryd.ntmps20
    go_wp2_with fail
    refine (refSame_any _ _ _ la lb ((ha.alloc _).alloc _) ((hb.alloc _).alloc _) hn).mono ?_
    rintro e w1 ⟨rfl, h1⟩
    obtain ⟨d, hd⟩ : ∃ d, d = decide (la = lb) := ⟨_, rfl⟩
    rw [← hd]
    have HD := Lib.hid hd
    clear hd
    cases d
    all_goals
      go_wp2_with fail
      go_ret
      exact ⟨by rw [← HD.out]; rfl, HR.out.below.trans (h1.mono HR.out.below.size)⟩

theorem limbs_inj' {a b : Int} (h : limbs a.natAbs = limbs b.natAbs) (hs : decide (a < 0) = decide (b < 0)) : a = b := by
  have h1 : a.natAbs = b.natAbs := by rw [← val_limbs a.natAbs, h, val_limbs]
  rw [← sg_own a, ← sg_own b, h1, hs]
theorem alike {a b : Int} : (decide (a < 0) == decide (b < 0) && decide (limbs a.natAbs = limbs b.natAbs)) = decide (a = b) := by
  by_cases h : a = b
  · subst h; simp
  · rw [decide_eq_false h]
    by_cases hs : decide (a < 0) = decide (b < 0)
    · have : ¬ limbs a.natAbs = limbs b.natAbs := fun e => h (limbs_inj' e hs)
      simp [this]
    · have : (decide (a < 0) == decide (b < 0)) = false := by simpa using hs
      rw [this]; rfl
theorem refsame_any (w : World) (n k : Bool) (m o : Value) (y z : Int) (h : Sound w n m y) (g : Sound w k o z) :
    Calls Tryd.prog 20 #[.agg #[.bool n, m], .agg #[.bool k, o]] w fun e w' => e = .returned (.bool (decide (y = z))) ∧ Below w.heap.size w w' := by
  refine (zsame_any w n k m o _ _ h.num.arg g.num.arg (Nat.le_trans h.short (by decide))).mono ?_
  rintro e w1 ⟨rfl, h1⟩
  exact ⟨by rw [h.sign, g.sign, alike], h1⟩

set_option maxHeartbeats 1000000 in
set_option maxRecDepth 100000 in
theorem same_any (w : World) (n k : Bool) (m o : Value) (y z : Int) (h : Sound w n m y) (g : Sound w k o z) :
    Calls Tryd.prog 26 #[.agg #[.bool n, m], .agg #[.bool k, o]] w fun e w' => e = .returned (.bool (decide (y = z))) ∧ Below w.heap.size w w' := by
  have HR := Lib.hid (Par2.start w 24 (.bool n) m (.bool k) o)
  go_enter Tryd.func26, Tryd.ntmps26
  go_wp2_with fail
  refine (refsame_any _ n k m o y z (h.below HR.out.below) (g.below HR.out.below)).mono ?_
  rintro e w1 ⟨rfl, h1⟩
  have H1 := HR.out.below.trans (h1.mono HR.out.below.size)
  obtain ⟨d, hd⟩ : ∃ d, d = decide (y = z) := ⟨_, rfl⟩
  rw [← hd]
  have HD := Lib.hid hd
  clear hd
  cases d
  all_goals
    go_wp2_with fail
    go_ret
    exact ⟨by rw [← HD.out]; rfl, H1⟩
theorem same_yes (w : World) (n k : Bool) (m o : Value) (y z : Int) (h : Sound w n m y) (g : Sound w k o z) (e : y = z) :
    Calls Tryd.prog 26 #[.agg #[.bool n, m], .agg #[.bool k, o]] w fun e w' => e = .returned (.bool true) ∧ Below w.heap.size w w' := by
  refine (same_any w n k m o y z h g).mono ?_
  rintro _ w1 ⟨rfl, h1⟩
  exact ⟨by rw [decide_eq_true e], h1⟩
set_option maxHeartbeats 1000000 in
set_option maxRecDepth 100000 in
theorem few_slice (w : World) (n : Bool) (A : Option Addr) (q c j : Nat) (_hqc : q ≤ c) (_hq : q ≤ 9223372036854775807) (_hj : j ≤ 1000) :
    Calls Tryd.prog 13 #[.agg #[.bool n, .slice A q c], .int .i64 j] w fun e w' => e = .returned (.agg #[.bool n, .slice A (min q j) c]) ∧ Below w.heap.size w w' := by
  rcases Nat.lt_or_ge j q with hj2 | hj2
  · have HM := Lib.hid (show min q j = j by omega)
    have hm : min (q : Int) (j : Int) = (j : Int) := by omega
    have hjc : j ≤ c := by omega
    have HL := Lib.hid (((Below.refl _ w).alloc (Nat.le_refl _) (.cells #[.bool n, .slice A j c] 24)).alloc (by simp) (.cells #[.bool n, .slice A j c] 24))
    go_enter Tryd.func13, Tryd.ntmps13
    go_wp2_with fail
    refine bodyPost_ret (v := .agg #[.bool n, .slice A j c]) (by simp [results, Tryd.results13, go_sem]) rfl ⟨by rw [HM.out], HL.out⟩
  · have HM := Lib.hid (show min q j = q by omega)
    have hm : min (q : Int) (j : Int) = (q : Int) := by omega
    have HL := Lib.hid (((Below.refl _ w).alloc (Nat.le_refl _) (.cells #[.bool n, .slice A q c] 24)).alloc (by simp) (.cells #[.bool n, .slice A q c] 24))
    go_enter Tryd.func13, Tryd.ntmps13
    go_wp2_with fail
    refine bodyPost_ret (v := .agg #[.bool n, .slice A q c]) (by simp [results, Tryd.results13, go_sem]) rfl ⟨by rw [HM.out], HL.out⟩
theorem few_at (w0 w : World) (n : Bool) (m : Value) (l : List Nat) (j : Nat) (ha : Arg encU w0 m l) (hl : Lim l) (hn : l.length ≤ 9223372036854775807) (hj : j ≤ 1000) :
    Calls Tryd.prog 13 #[.agg #[.bool n, m], .int .i64 j] w fun e w' => ∃ A k c, e = .returned (.agg #[.bool n, .slice A k c]) ∧ Num w0 (.slice A k c) (l.take j) (val (l.take j)) ∧ (l.take j).length ≤ j ∧ Below w.heap.size w w' := by
  obtain ⟨A, c, rfl, hc, hr⟩ := ha.open_
  refine (few_slice w n A l.length c j hc hn hj).mono ?_
  rintro e w1 ⟨rfl, hb⟩
  have hlen : (l.take j).length = min l.length j := by rw [List.length_take]; omega
  exact ⟨A, _, c, rfl, ⟨Arg.mk_ hlen.symm (by omega) (hr.take j), fun x hx => hl x (List.mem_of_mem_take hx), by omega, rfl⟩, by omega, hb⟩
end Go.Proofs.YtmajcjdhhnhmmaaDoor
