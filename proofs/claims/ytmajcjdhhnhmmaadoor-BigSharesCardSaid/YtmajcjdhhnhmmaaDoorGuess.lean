import Derived.Test.YtmajcjdhhnhmmaaDoorGNat
/- nat.guess: what it returns. Conditions: v of two limbs or more, its highest bit set; u of one limb more, below 2^32 times v. -/
namespace Go.Proofs.YtmajcjdhhnhmmaaDoor
open Go.RowKit Go.Num
attribute [local go_sem] Oper.semAt_some

/-- What the guess of a limb of a quotient keeps. -/
structure GuessLaw (U V top v1 v2 u2 : Nat) : Prop where
  first : U / V ≤ top / v1
  much : ∀ q L, q * v1 + L = top → L * 4294967296 + u2 < q * v2 → U / V < q
  fair : ∀ q L, q * v1 + L = top → q < 4294967296 → q * v2 ≤ L * 4294967296 + u2 → (q - 1) * V ≤ U
  broke : ∀ q L, q * v1 + L = top → 4294967296 ≤ L → q < 4294967296 ∧ (q - 1) * V ≤ U
  big : U / V < 4294967296
  low : ∀ q L, q * v1 + L = top → q < 8589934592

theorem val_lo_lt {l : List Nat} (h : Lim l) (k : Nat) (hk : k ≤ l.length) : val (l.take k) < 4294967296 ^ k := by
  have := val_lt (h.take k)
  rw [List.length_take, Nat.min_eq_left hk] at this
  exact this
theorem guessLaw {lu lv : List Nat} {n u0 u1 u2 v1 v2 : Nat} (hlu : Lim lu) (hlv : Lim lv) (h2 : 2 ≤ n) (hnv : lv.length = n) (hnu : lu.length = n + 1) (hu0 : lu[n]? = some u0) (hu1 : lu[n - 1]? = some u1) (hu2 : lu[n - 2]? = some u2)
    (hv1 : lv[n - 1]? = some v1) (hv2 : lv[n - 2]? = some v2) (htop : 2147483648 ≤ v1) (hlt : val lu < 4294967296 * val lv) : GuessLaw (val lu) (val lv) (u0 * 4294967296 + u1) v1 v2 u2 := by
  obtain ⟨k, rfl⟩ : ∃ k, n = k + 2 := ⟨n - 2, by omega⟩
  simp only [Nat.add_sub_cancel] at *
  rw [show k + 2 - 1 = k + 1 by omega] at *
  obtain ⟨D, hD⟩ : ∃ D, D = 4294967296 ^ k := ⟨_, rfl⟩
  have hDp : 0 < D := by rw [hD]; exact pow_pos' k
  have hv1b := hlv.get hv1
  have hv2b := hlv.get hv2
  have hu0b := hlu.get hu0
  have hu1b := hlu.get hu1
  have hu2b := hlu.get hu2
  have dv0 : lv.drop (k + 2) = [] := List.drop_eq_nil_of_le (by omega)
  have dv1 : lv.drop (k + 1) = v1 :: lv.drop (k + 2) := drop_pred (k := k + 2) (by omega) hv1
  have dv2 : lv.drop k = v2 :: lv.drop (k + 1) := drop_pred (k := k + 1) (by omega) hv2
  have du00 : lu.drop (k + 3) = [] := List.drop_eq_nil_of_le (by omega)
  have du0 : lu.drop (k + 2) = u0 :: lu.drop (k + 3) := drop_pred (k := k + 3) (by omega) hu0
  have du1 : lu.drop (k + 1) = u1 :: lu.drop (k + 2) := drop_pred (k := k + 2) (by omega) hu1
  have du2 : lu.drop k = u2 :: lu.drop (k + 1) := drop_pred (k := k + 1) (by omega) hu2
  obtain ⟨L, hL⟩ : ∃ L, L = val (lv.take k) := ⟨_, rfl⟩
  obtain ⟨M, hM⟩ : ∃ M, M = val (lu.take k) := ⟨_, rfl⟩
  have hLD : L < D := by rw [hL, hD]; exact val_lo_lt hlv k (by omega)
  have hMD : M < D := by rw [hM, hD]; exact val_lo_lt hlu k (by omega)
  have hV : val lv = (v1 * 4294967296 + v2) * D + L := by
    rw [val_take_drop lv k (by omega), ← hL, ← hD, dv2, dv1, dv0]
    simp only [val_cons, val_nil]
    rw [Nat.mul_comm D, show v2 + 4294967296 * (v1 + 4294967296 * 0) = v1 * 4294967296 + v2 by omega]
    omega
  have hU : val lu = ((u0 * 4294967296 + u1) * 4294967296 + u2) * D + M := by
    rw [val_take_drop lu k (by omega), ← hM, ← hD, du2, du1, du0, du00]
    simp only [val_cons, val_nil]
    rw [Nat.mul_comm D, show u2 + 4294967296 * (u1 + 4294967296 * (u0 + 4294967296 * 0)) = (u0 * 4294967296 + u1) * 4294967296 + u2 by omega]
    omega
  have hUl : ((u0 * 4294967296 + u1) * 4294967296 + u2) * D ≤ val lu := by omega
  have hUu : val lu < ((u0 * 4294967296 + u1) * 4294967296 + u2 + 1) * D := by rw [hU, Nat.add_mul _ 1 D]; omega
  have hVp : 0 < val lv := by
    rw [hV]
    have : 1 * D ≤ (v1 * 4294967296 + v2) * D := Nat.mul_le_mul_right _ (by omega)
    omega
  have hu0v : u0 ≤ v1 := by
    have e1 : val lv < (v1 + 1) * 4294967296 * D := by
      have h5 : (v1 * 4294967296 + v2 + 1) * D ≤ (v1 + 1) * 4294967296 * D := Nat.mul_le_mul_right _ (by omega)
      rw [Nat.add_mul _ 1 D] at h5
      omega
    have e0 : 4294967296 * (u0 * 4294967296) ≤ (u0 * 4294967296 + u1) * 4294967296 + u2 := by omega
    have e2 : 4294967296 * (u0 * 4294967296) * D ≤ ((u0 * 4294967296 + u1) * 4294967296 + u2) * D := Nat.mul_le_mul_right _ e0
    have e3 : u0 * 4294967296 * D < (v1 + 1) * 4294967296 * D := by
      rw [Nat.mul_assoc] at e2
      omega
    have e4 := Nat.lt_of_mul_lt_mul_right e3
    omega
  have hmul : ∀ q, val lu < q * val lv → val lu / val lv < q := fun q h => (Nat.div_lt_iff_lt_mul hVp).2 h
  refine ⟨?_, ?_, ?_, ?_, hmul _ hlt, ?_⟩
  · rw [Nat.le_div_iff_mul_le (by omega)]
    refine guess_first (B := 0) (V := val lv) (U := val lu) (D := 4294967296 * D) (L := v2 * D + L) ?_ ?_ (Nat.div_mul_le_self _ _) rfl
    · rw [hV, Nat.add_mul, Nat.mul_assoc]; omega
    · have : ((u0 * 4294967296 + u1) * 4294967296 + u2 + 1) * D ≤ (u0 * 4294967296 + u1 + 1) * 4294967296 * D := Nat.mul_le_mul_right _ (by omega)
      rw [← Nat.mul_assoc]
      omega
  · intro q X hq h
    exact hmul _ (guess_much hV hUu hq.symm h)
  · intro q X hq hqb h
    exact guess_fair hV hLD (by omega) hUl hq.symm hqb h
  · intro q X hq hX
    have hqb : q < 4294967296 := by
      have h1 : u0 * 4294967296 ≤ v1 * 4294967296 := Nat.mul_le_mul_right _ hu0v
      have h3 : q * v1 < 4294967296 * v1 := by omega
      exact Nat.lt_of_mul_lt_mul_right h3
    exact ⟨hqb, guess_broke hV hLD (by omega) hv2b hUl hq.symm hqb hX⟩
  · intro q X hq
    have h1 : q * 2147483648 ≤ q * v1 := Nat.mul_le_mul_left _ htop
    omega

set_option maxHeartbeats 4000000 in
set_option maxRecDepth 100000 in
theorem guess_any (w : World) (vu vv : Value) (lu lv : List Nat) (hu : Arg encU w vu lu) (hv : Arg encU w vv lv) (hlu : Lim lu) (hlv : Lim lv) (h2 : 2 ≤ lv.length) (hnu : lu.length = lv.length + 1) (hb : lv.length ≤ 200000)
    {v1 : Nat} (hv1 : lv[lv.length - 1]? = some v1) (htop : 2147483648 ≤ v1) (hlt : val lu < 4294967296 * val lv) :
    Calls Tryd.prog 93 #[vu, vv] w fun e w' => ∃ q : Nat, e = .returned (.int .u64 q) ∧ q < 4294967296 ∧ val lu / val lv ≤ q ∧ (q - 1) * val lv ≤ val lu ∧ Below w.heap.size w w' := by
  obtain ⟨A1, c1, rfl, hc1, hr1⟩ := hu.open_
  obtain ⟨A2, c2, rfl, hc2, hr2⟩ := hv.open_
  generalize hn : lv.length = n at *
  obtain ⟨u0, hu0⟩ := get_some (l := lu) (k := n) (by omega)
  obtain ⟨u1, hu1⟩ := get_some (l := lu) (k := n - 1) (by omega)
  obtain ⟨u2, hu2⟩ := get_some (l := lu) (k := n - 2) (by omega)
  obtain ⟨v2, hv2⟩ := get_some (l := lv) (k := n - 2) (by omega)
  have HG := Lib.hid (guessLaw hlu hlv h2 hn hnu hu0 hu1 hu2 hv1 hv2 htop hlt)
  obtain ⟨b1, o1, rfl, hcu0⟩ := hr1.at_ hu0
  obtain ⟨_, _, e1, hcu1⟩ := hr1.at_ hu1
  cases e1
  obtain ⟨_, _, e2, hcu2⟩ := hr1.at_ hu2
  cases e2
  obtain ⟨b2, o2, rfl, hcv1⟩ := hr2.at_ hv1
  obtain ⟨_, _, e3, hcv2⟩ := hr2.at_ hv2
  cases e3
  have hv1b := hlv.get hv1
  have hv2b := hlv.get hv2
  have hu0b := hlu.get hu0
  have hu1b := hlu.get hu1
  have hu2b := hlu.get hu2
  rw [hnu]
  obtain ⟨U, hU⟩ : ∃ U, U = val lu := ⟨_, rfl⟩
  obtain ⟨V, hV⟩ : ∃ V, V = val lv := ⟨_, rfl⟩
  rw [← hU, ← hV] at HG ⊢
  clear hU hV hr1 hr2 hu0 hu1 hu2 hv1 hv2 hlu hlv hu hv hlt hn hnu
  obtain ⟨top, hT⟩ : ∃ top, top = u0 * 4294967296 + u1 := ⟨_, rfl⟩
  have hTi : Go.bits .or .u64 ((u0 : Int) * 4294967296) (u1 : Int) = (top : Int) := by rw [u64_join u0 u1 hu0b hu1b, hT]; simp
  have hTb : top / 4294967296 < 4294967296 := by omega
  rw [← hT] at HG
  clear hT
  have hi1 : (0 : Int) ≤ (n : Int) - 1 := by omega
  have hi2 : (n : Int) - 1 < (n : Int) := by omega
  have hi3 : (n : Int) - 1 < (n : Int) + 1 := by omega
  have hi4 : (0 : Int) ≤ (n : Int) - 2 := by omega
  have hi5 : (n : Int) - 2 < (n : Int) := by omega
  have hi6 : (n : Int) - 2 < (n : Int) + 1 := by omega
  have hi7 : (n : Int) < (n : Int) + 1 := by omega
  have hv0 : (v1 : Int) ≠ 0 := by omega
  obtain ⟨q0, hq0⟩ : ∃ q0, q0 = top / v1 := ⟨_, rfl⟩
  obtain ⟨L0, hL0⟩ : ∃ L0, L0 = top % v1 := ⟨_, rfl⟩
  have hq0i : (top : Int) / (v1 : Int) = (q0 : Int) := by rw [hq0]; simp
  have hL0i : (top : Int) % (v1 : Int) = (L0 : Int) := by rw [hL0]; simp
  have hL0b : L0 < 4294967296 := by rw [hL0]; exact Nat.lt_trans (Nat.mod_lt _ (by omega)) hv1b
  have h0 : q0 * v1 + L0 = top := by rw [hq0, hL0, Nat.mul_comm]; exact Nat.div_add_mod _ _
  have H0 := Lib.hid (And.intro h0 (show U / V ≤ q0 by rw [hq0]; exact HG.out.first))
  have hq0b : q0 / 4294967296 < 4294967296 := by
    have : top / v1 ≤ top := Nat.div_le_self _ _
    rw [← hq0] at this
    omega
  have HL0 := Lib.hid hL0i
  clear hq0 hL0 h0 hL0i
  go_enter Tryd.func93, Tryd.ntmps93
  go_wp2_with fail
  go_quiet (fail)
  go_wp2_with fail
  go_quiet (fail)
  go_wp2_with fail
  clear hu0b hu1b hcu0 hcu1 hq0i hTi hi3 hi7 hv0
  have Hnn := Lib.hid hc1
  clear hc1
  go_loopw [7, 8] (fun qv lf wr => ∃ q L m : Nat, qv = .int .u64 q ∧ lf = .int .u64 L ∧ L < 4294967296 ∧ Hid (q * v1 + L = top ∧ U / V ≤ q) ∧ wr = w.drewN m) (fun qv _ _ => (intOf qv).toNat)
  case atStart => exact ⟨q0, L0, _, rfl, by rw [HL0.out], hL0b, H0, World.drewN_drewN _ _ _⟩
  case round =>
    obtain ⟨q, L, m, rfl, rfl, hL, HI, rfl⟩ := hrel
    clear H0 hL0b
    have hq33 := HG.out.low q L HI.out.1
    have hstep : ∀ p, q = p + 1 → p * v1 + (L + v1) = top := by
      intro p hp
      have := HI.out.1
      rw [hp, Nat.add_mul, Nat.one_mul] at this
      omega
    have Hstep := Lib.hid hstep
    clear hstep
    by_cases hbig : 4294967295 < q
    · have hd : decide ((4294967295 : Int) < (q : Int)) = true := decide_eq_true (by omega)
      have Hbig := Lib.hid hbig
      have hqp : 1 ≤ q := by omega
      clear hbig
      go_wp2_with fail
      go_quiet (fail)
      go_wp2_with fail
      · rename_i hbr
        go_ret
        obtain ⟨h1, h2⟩ := HG.out.broke (q - 1) (L + v1) (Hstep.out (q - 1) (by omega)) (by omega)
        exact ⟨q - 1, by go_num, h1, by have := HG.out.big; have := Hbig.out; omega, h2, below_drewN (Below.refl _ _) _⟩
      · go_roundw
        case rel => exact ⟨q - 1, L + v1, _, by go_num, by go_num, by omega, ⟨Hstep.out (q - 1) (by omega), by have := HG.out.big; have := Hbig.out; omega⟩, rfl⟩
        case measure => simp [intOf]; omega
    · obtain ⟨M, hM⟩ : ∃ M, M = q * v2 := ⟨_, rfl⟩
      obtain ⟨T, hT⟩ : ∃ T, T = L * 4294967296 + u2 := ⟨_, rfl⟩
      have hMi : (q : Int) * (v2 : Int) = (M : Int) := by rw [hM]; simp
      have hTi : Go.bits .or .u64 ((L : Int) * 4294967296) (u2 : Int) = (T : Int) := by rw [u64_join L u2 hL hu2b, hT]; simp
      have hMb : M / 4294967296 < 4294967296 := by
        have : q * v2 ≤ 4294967295 * 4294967295 := Nat.mul_le_mul (by omega) (by omega)
        omega
      have hTb : T / 4294967296 < 4294967296 := by omega
      have HM := Lib.hid (And.intro hM hT)
      have hd : decide ((4294967295 : Int) < (q : Int)) = false := decide_eq_false (by omega)
      have Hbig := Lib.hid hbig
      clear hM hT hbig
      by_cases hmuch : T < M
      · have hlt := HG.out.much q L HI.out.1 (by rw [← HM.out.1, ← HM.out.2]; exact hmuch)
        have Hlt := Lib.hid hlt
        have hqp : 1 ≤ q := Nat.lt_of_le_of_lt (Nat.zero_le _) hlt
        clear hlt
        go_wp2_with fail
        go_quiet (fail)
        go_wp2_with fail
        · rename_i hbr
          go_ret
          obtain ⟨h1, h2⟩ := HG.out.broke (q - 1) (L + v1) (Hstep.out (q - 1) (by omega)) (by omega)
          exact ⟨q - 1, by go_num, h1, by have := Hlt.out; omega, h2, below_drewN (Below.refl _ _) _⟩
        · go_roundw
          case rel => exact ⟨q - 1, L + v1, _, by go_num, by go_num, by omega, ⟨Hstep.out (q - 1) (by omega), by have := Hlt.out; omega⟩, rfl⟩
          case measure => simp [intOf]; omega
      · have hfair := HG.out.fair q L HI.out.1 (by have := Hbig.out; omega) (by rw [← HM.out.1, ← HM.out.2]; omega)
        have Hfair := Lib.hid hfair
        clear hfair
        go_wp2_with fail
        go_quiet (fail)
        go_wp2_with fail
        go_ret
        exact ⟨q, rfl, by have := Hbig.out; omega, HI.out.2, Hfair.out, below_drewN (below_drewN (Below.refl _ _) _) _⟩
end Go.Proofs.YtmajcjdhhnhmmaaDoor
