import Derived.Test.YtbippecchpaleaaGreatDoorGRParse
import Derived.Test.YtbippecchpaleaaGreatDoorGLimbs
import Derived.Deep.LoopGhost
/- litmusref01.Parse: what it returns. -/
namespace Go.Proofs.YtbippecchpaleaaGreatDoor
open Go.RowKit Go.Num
attribute [local go_sem] Oper.semAt_some
theorem digits_is (w : World) (l : List UInt8) (t : Bool) (hs : l.length ≤ 900000) (ht : goodText l = t) :
    Calls Tryz.prog 121 #[.string ⟨l.toArray⟩] w fun e w' => e = .returned (.bool t) ∧ Below w.heap.size w w' := by
  subst ht
  exact digits_any w l hs

set_option maxHeartbeats 4000000 in
theorem rparse_no (w : World) (l : List UInt8) (h : goodText l = false) (hs : l.length ≤ 900000) :
    Calls Tryz.prog 92 #[.string ⟨l.toArray⟩] w fun e w' => e = .returned (.tuple #[.slice none 0 0, .bool false]) ∧ Below w.heap.size w w' := by
  go_enter Tryz.func92, Tryz.ntmps92
  go_wp2_with fail
  refine (digits_is _ l false hs h).mono ?_
  rintro e w1 ⟨rfl, hb⟩
  go_wp2_with fail
  go_ret2
  exact ⟨rfl, hb⟩

theorem tval_pos (v : Nat) (l : List UInt8) (h : 0 < v) : 0 < tval v l := by
  induction l generalizing v with
  | nil => exact h
  | cons c l ih => exact ih _ (by omega)
theorem tval_bound (v : Nat) (l : List UInt8) (h : l.all isDig = true) : tval v l < (v + 1) * 10 ^ l.length := by
  induction l generalizing v with
  | nil => show v < (v + 1) * 10 ^ 0; rw [Nat.pow_zero]; omega
  | cons c l ih =>
    simp only [List.all_cons, Bool.and_eq_true] at h
    have h1 := ih (10 * v + (c.toNat - 48)) h.2
    have h2 := (isDig_iff c).1 h.1
    rw [List.length_cons]
    generalize l.length = m at h1
    have h3 : (10 * v + (c.toNat - 48) + 1) * 10 ^ m ≤ ((v + 1) * 10) * 10 ^ m := Nat.mul_le_mul_right _ (by omega)
    have h4 : (v + 1) * 10 ^ (m + 1) = ((v + 1) * 10) * 10 ^ m := by rw [Nat.pow_succ, Nat.mul_comm (10 ^ m) 10, Nat.mul_assoc]
    rw [h4]
    exact Nat.lt_of_lt_of_le h1 h3
theorem out_len {r : List Bool} {V V0 n : Nat} (h : bval r + 2 ^ r.length * V = V0) (hV : 0 < V) (h0 : V0 < 10 ^ n) : r.length ≤ 4 * n := by
  have h1 : 2 ^ r.length * 1 ≤ 2 ^ r.length * V := Nat.mul_le_mul_left _ hV
  have h2 : 10 ^ n ≤ 16 ^ n := Nat.pow_le_pow_left (by decide) n
  have h3 : (16 : Nat) ^ n = 2 ^ (4 * n) := by rw [Nat.pow_mul]
  exact Nat.le_of_lt ((Nat.pow_lt_pow_iff_right (a := 2) (by decide)).1 (by omega))
theorem all_set {D : List UInt8} {i : Nat} {y : UInt8} (h : D.all isDig = true) (hy : isDig y = true) : (D.set i y).all isDig = true := by
  rw [List.all_eq_true] at h ⊢
  intro x hx
  rcases List.mem_or_eq_of_mem_set hx with h1 | h1
  · exact h x h1
  · rw [h1]; exact hy
theorem OwnB.setCell_far {e : TypeId} {base g j : Nat} {w : World} {v : Value} {l : List Bool} (h : OwnB e base w v l) (hne : v.ownBlock ≠ some g) (u : Value) (_ : Unit) : OwnB e base (w.setCell ⟨g, j, none⟩ u) v l :=
  World.ownsRow.kept (row := some g) h ⟨rfl, rfl, rfl, by simp [World.setCell], fun k _ hk => Below.heap_setCell w ⟨g, j, none⟩ u k (fun e => hk (by rw [e]))⟩ (.inr hne)
theorem seg_step {D : List UInt8} {f i : Nat} {x : UInt8} (hf : f ≤ i) (h : D[i]? = some x) : (D.take (i + 1)).drop f = (D.take i).drop f ++ [x] := by
  rw [take_snoc h, List.drop_append_of_le_length (by rw [List.length_take]; have := len_of_get h; omega)]

set_option maxHeartbeats 16000000 in
set_option maxRecDepth 100000 in
theorem rparse_yes (w : World) (l : List UInt8) (h : goodText l = true) (hs : l.length ≤ 100000) :
    Calls Tryz.prog 92 #[.string ⟨l.toArray⟩] w fun e w' => ∃ v, e = .returned (.tuple #[v, .bool true]) ∧ Arg encU w' v (limbs (tval 0 l)) ∧ Below w.heap.size w w' := by
  obtain ⟨i0, hi, hz0, hz1, hz2⟩ := info_parts infoB
  obtain ⟨n, hn⟩ : ∃ n, l.length = n := ⟨_, rfl⟩
  have hall : l.all isDig = true := by
    unfold goodText at h
    simp only [Bool.and_eq_true] at h
    exact h.1.2
  have hn0 : 0 < n := by
    rw [← hn]
    cases l with
    | nil => exact absurd h (by decide)
    | cons c t => simp
  obtain ⟨V0, hV0⟩ : ∃ V0, V0 = tval 0 l := ⟨_, rfl⟩
  have HV0 := Lib.hid (show V0 = tval 0 l ∧ V0 < 10 ^ n from ⟨hV0, by rw [hV0, ← hn]; simpa using tval_bound 0 l hall⟩)
  have HL := Lib.hid (And.intro hall hn)
  have hcv : ∀ w : World, (convert 9 52 (.string ⟨l.toArray⟩)).run Tryz.prog w = .ok (.slice (some ⟨w.heap.size, 0, none⟩) n (grownCap w n 0 5)) (textRow w l) := fun w => by
    have := conv_text w l
    rwa [hn] at this
  have hstart : ∀ w1 : World, DRow (textRow w1 l) w1.heap.size n l := fun w1 => by
    have := textRow_row w1 l
    rwa [hn] at this
  have HST := Lib.hid hstart
  rw [← hV0]
  have hs : n ≤ 100000 := by omega
  clear hstart hV0 hall hn
  go_enter Tryz.func92, Tryz.ntmps92
  go_wp2_with fail
  refine (digits_is _ l true (by have := HL.out.2; omega) h).mono ?_
  rintro e w1 ⟨rfl, hb⟩
  go_wp2_with fail
  have hin0 := HST.out w1
  have hbz : Below w.heap.size w (textRow w1 l) := hb.trans ((textRow_below w1 l).mono hb.size)
  have hgb := hb.size
  generalize grownCap w1 n 0 5 = c
  generalize textRow w1 l = wz at hin0 hbz ⊢
  obtain ⟨g, hg⟩ : ∃ g, g = w1.heap.size := ⟨_, rfl⟩
  rw [← hg] at hin0 hgb ⊢
  clear hb hcv hg HST
  go_loopg [5, 6] (V0 + n) (fun gk ov fv wr => ∃ (f : Nat) (T : List UInt8) (r : List Bool), f ≤ n ∧ fv = .int .i64 f ∧ Hid (gk = tval 0 (T.drop f) + (n - f)) ∧ Hid (T.all isDig = true) ∧
      Hid (bval r + 2 ^ r.length * tval 0 (T.drop f) = V0 ∧ (tval 0 (T.drop f) = 0 → f = n ∨ r = []) ∧ r.length ≤ 4 * n + 1) ∧ OwnB 4 w.heap.size wr ov r ∧ DRow wr g n T ∧ Below w.heap.size w wr)
  case atStart =>
    refine ⟨0, l, [], Nat.zero_le _, rfl, ?_, HL.out.1, ⟨by rw [List.drop_zero, HV0.out.1]; simp, fun _ => .inr rfl, by simp⟩, OwnB.nil_ _ _ _, hin0, hbz⟩
    show V0 + n = _
    rw [List.drop_zero, ← HV0.out.1]; rfl
  case round =>
    clear hin0 hbz
    obtain ⟨f, T, r, hf, rfl, HG, HT, HI, hown, hin, hbel⟩ := hrel
    by_cases hfn : f < n
    · have HRL : Hid (r.length ≤ 4 * n) := by
        show r.length ≤ 4 * n
        rcases Nat.eq_zero_or_pos (tval 0 (T.drop f)) with h0 | h0
        · rcases HI.out.2.1 h0 with h1 | h1
          · omega
          · rw [h1]; simp
        · exact out_len HI.out.1 h0 HV0.out.2
      go_wp2_with fail
      go_loopw [7, 8] (fun rv iv wq => ∃ (i ρ : Nat) (D : List UInt8), f ≤ i ∧ i ≤ n ∧ iv = .int .i64 i ∧ rv = .int .u8 ρ ∧ ρ < 2 ∧ Hid (D.all isDig = true) ∧
        Hid (2 * tval 0 ((D.take i).drop f) + ρ = tval 0 ((T.take i).drop f) ∧ D.drop i = T.drop i) ∧ OwnB 4 w.heap.size wq u5 r ∧ DRow wq g n D ∧ Below w.heap.size w wq) (fun _ iv _ => n - (intOf iv).toNat)
      case atStart =>
        refine ⟨f, 0, T, Nat.le_refl _, hf, rfl, rfl, by decide, HT, ⟨?_, rfl⟩, hown, hin, hbel⟩
        rw [List.drop_of_length_le (by rw [List.length_take]; omega)]
        rfl
      case round =>
        clear hown hin hbel
        obtain ⟨i, ρ, D, hfi, hin9, rfl, rfl, hρ2, HD, HJ, hown, hin, hbel⟩ := hrel
        by_cases hi9 : i < n
        · obtain ⟨x, hx⟩ := get_some (l := D) (k := i) (by have := hin.len; omega)
          have hcx := hin.cell hx
          have hfz := hin.free hi9
          have hdx := (isDig_iff x).1 (List.all_eq_true.1 HD.out x (List.mem_of_getElem? hx))
          obtain ⟨m, hm⟩ : ∃ m, x.toNat = 48 + m := ⟨x.toNat - 48, by omega⟩
          have hm9 : m ≤ 9 := by omega
          have hcx2 : encY x = .int .u8 (48 + (m : Int)) := by show Value.int .u8 (x.toNat : Int) = _; rw [hm]; simp
          rw [hcx2] at hcx
          obtain ⟨d, hd⟩ : ∃ d, d = 10 * ρ + m := ⟨_, rfl⟩
          have hd19 : d ≤ 19 := by omega
          have hdi : (10 : Int) * (ρ : Int) + (48 + (m : Int)) - 48 = (d : Int) := by omega
          obtain ⟨q, hq⟩ : ∃ q, q = d / 2 := ⟨_, rfl⟩
          obtain ⟨s, hs2⟩ : ∃ s, s = d % 2 := ⟨_, rfl⟩
          have hqi : (d : Int) / 2 = (q : Int) := by omega
          have hsi : (d : Int) % 2 = (s : Int) := by omega
          have hq9 : q ≤ 9 := by omega
          have hs1 : s < 2 := by omega
          have HX := Lib.hid (And.intro hx (And.intro hm (And.intro hd (And.intro hq hs2))))
          have hgw : w.heap.size ≤ g := hgb
          clear hx hdx hm hcx2 hd hq hs2
          go_wp2_with fail
          go_roundw
          case rel =>
            obtain ⟨e1, e2, e3, e4, e5⟩ := HX.out
            have hby : encY (Num.byteOf q) = .int .u8 (48 + (q : Int)) := by
              show Value.int .u8 ((Num.byteOf q).toNat : Int) = _
              rw [Num.byteOf_toNat (by omega)]; simp
            have hin2 : DRow (wr.setCell ⟨g, i, none⟩ (.int .u8 (48 + (q : Int)))) g n (D.set i (Num.byteOf q)) := by rw [← hby]; exact hin.set i (Num.byteOf q)
            have hiD : i < D.length := len_of_get e1
            have hset : (D.set i (Num.byteOf q))[i]? = some (Num.byteOf q) := by rw [List.getElem?_set]; simp [hiD]
            have hTx : T[i]? = some x := by
              have h1 := congrArg (fun l => l[0]?) HJ.out.2
              simp only [List.getElem?_drop, Nat.add_zero] at h1
              rw [← h1]; exact e1
            refine ⟨i + 1, s, D.set i (Num.byteOf q), by omega, by omega, by go_num, by simp; exact hsi, hs1, ?_, ⟨?_, ?_⟩, hown.setCell_far (hin.apart hown.row (by decide)) _ (), hin2, hbel.setCell (p := ⟨g, i, none⟩) hgw _⟩
            · exact all_set HD.out (by rw [isDig_iff, Num.byteOf_toNat (by omega)]; omega)
            · rw [seg_step hfi hset, seg_step hfi hTx, tval_snoc, tval_snoc, take_set_same, Num.byteOf_toNat (by omega)]
              have h1 := HJ.out.1
              omega
            · rw [List.drop_set, if_pos (by omega)]
              have h1 := congrArg (List.drop 1) HJ.out.2
              simpa [List.drop_drop] using h1
          case measure => simp [intOf]; omega
        · have hie : i = n := by omega
          subst hie
          have HE : Hid (2 * tval 0 (D.drop f) + ρ = tval 0 (T.drop f)) := by
            have h1 := HJ.out.1
            rw [List.take_of_length_le (by rw [hin.len]; exact Nat.le_refl _), List.take_of_length_le (by have := congrArg List.length HJ.out.2; simp [hin.len] at this; omega)] at h1
            exact h1
          have hρ01 : ρ = 0 ∨ ρ = 1 := by omega
          clear hin9 hi9 hfi HJ
          rcases hρ01 with hρ | hρ
          · have hr0 : ρ = 0 := hρ
            subst hr0
            go_wp2_with (at_builtin; refine wpList_append_own _ rfl _ _ 93 rfl w.heap.size 4 i0 (.bool false) 1 1 Tryz.underlying93 hi hz0 hz1 hz2 rfl (by decide) _ _ _ rfl (World.ownsRow.alloc hown.row _) ⟨wr.heap.size, 0, none⟩ 1 1 [.bool false] rfl rfl (cell_one_new _ _ _) (by simp [Value.oneCell']) ?c3 ?c4 ?c5 ?_)
            case c3 => have := HRL.out; unfold maxLen; omega
            case c4 => have := HRL.out; omega
            case c5 => have := hbel.size; simp; omega
            intro v' w2 h1 hg1 _
            obtain ⟨hown1, hb1⟩ := hown.pushed hbel h1 hg1 (d := false) rfl
            have hin1 : DRow w2 g i D := (hin.alloc _).grown hg1 (hin.apart hown.row (by decide))
            clear h1 hg1 hown hbel hin
            go_wp2_with fail
            go_loopw [6] (fun fv wq => ∃ f' : Nat, f ≤ f' ∧ f' ≤ i ∧ fv = .int .i64 f' ∧ Hid (tval 0 (D.drop f') = tval 0 (D.drop f)) ∧ wq = w2) (fun fv _ => i - (intOf fv).toNat)
            case atStart => exact ⟨f, Nat.le_refl _, Nat.le_of_lt hfn, rfl, rfl, rfl⟩
            case round =>
              obtain ⟨f', hff, hf'n, rfl, HF, hwq⟩ := hrel
              subst hwq
              have HV : Hid (bval (r ++ [false]) + 2 ^ (r.length + 1) * tval 0 (D.drop f') = V0) := by
                show bval (r ++ [false]) + 2 ^ (r.length + 1) * tval 0 (D.drop f') = V0
                rw [HF.out, bval_snoc, Nat.pow_succ, Nat.mul_assoc, Nat.add_assoc, ← Nat.mul_add]
                have e1 := HE.out
                have e2 := HI.out.1
                rw [← e1, Nat.mul_add] at e2
                rw [Nat.mul_add]
                simp only [Bool.toNat_false]
                omega
              have HVL : Hid (tval 0 (D.drop f') ≤ tval 0 (T.drop f) / 2) := by
                show tval 0 (D.drop f') ≤ tval 0 (T.drop f) / 2
                rw [HF.out]; have := HE.out; omega
              by_cases hf9 : f' < i
              · obtain ⟨y, hy⟩ := get_some (l := D) (k := f') (by have := hin1.len; omega)
                have hcy := hin1.cell hy
                have HY := Lib.hid hy
                clear hy
                by_cases hy48 : (y.toNat : Int) = 48
                · have h48 : Hid (y.toNat = 48) := by show y.toNat = 48; omega
                  have hcy2 : encY y = .int .u8 48 := by show Value.int .u8 (y.toNat : Int) = _; rw [hy48]
                  rw [hcy2] at hcy
                  clear hcy2 hy48
                  go_wp2_with fail
                  go_roundw
                  case rel =>
                    refine ⟨f' + 1, by omega, by omega, by go_num, ?_, by first | rfl | trivial⟩
                    show tval 0 (D.drop (f' + 1)) = _
                    rw [← HF.out, drop_get HY.out]
                    show _ = tval (10 * 0 + (y.toNat - 48)) (D.drop (f' + 1))
                    rw [h48.out]
                  case measure => simp [intOf]; omega
                · have hyd : Hid (48 < y.toNat) := by
                    show 48 < y.toNat
                    have := (isDig_iff y).1 (List.all_eq_true.1 HD.out y (List.mem_of_getElem? HY.out))
                    omega
                  have hpos : Hid (0 < tval 0 (D.drop f')) := by
                    show 0 < tval 0 (D.drop f')
                    rw [drop_get HY.out]
                    show 0 < tval (10 * 0 + (y.toNat - 48)) (D.drop (f' + 1))
                    exact tval_pos _ _ (by have := hyd.out; omega)
                  go_wp2_with fail
                  go_roundg (tval 0 (D.drop f') + (i - f'))
                  case measure =>
                    have h1 := HVL.out
                    have h2 := hpos.out
                    have h3 := HG.out
                    omega
                  case rel =>
                    exact ⟨f', D, r ++ [false], hf'n, rfl, rfl, HD, ⟨by simpa using HV.out, fun h => absurd h (by have := hpos.out; omega), by simp; have := HRL.out; omega⟩, hown1, hin1, hb1⟩
              · have hfe : f' = i := by omega
                subst hfe
                go_wp2_with fail
                go_roundg (tval 0 (D.drop f') + (f' - f'))
                case measure =>
                  have h1 := HVL.out
                  have h3 := HG.out
                  omega
                case rel =>
                  exact ⟨f', D, r ++ [false], Nat.le_refl _, rfl, rfl, HD, ⟨by simpa using HV.out, fun _ => .inl rfl, by simp; have := HRL.out; omega⟩, hown1, hin1, hb1⟩
          · have hr1 : ρ = 1 := hρ
            subst hr1
            go_wp2_with (at_builtin; refine wpList_append_own _ rfl _ _ 93 rfl w.heap.size 4 i0 (.bool false) 1 1 Tryz.underlying93 hi hz0 hz1 hz2 rfl (by decide) _ _ _ rfl (World.ownsRow.alloc hown.row _) ⟨wr.heap.size, 0, none⟩ 1 1 [.bool true] rfl rfl (cell_one_new _ _ _) (by simp [Value.oneCell']) ?c3 ?c4 ?c5 ?_)
            case c3 => have := HRL.out; unfold maxLen; omega
            case c4 => have := HRL.out; omega
            case c5 => have := hbel.size; simp; omega
            intro v' w2 h1 hg1 _
            obtain ⟨hown1, hb1⟩ := hown.pushed hbel h1 hg1 (d := true) rfl
            have hin1 : DRow w2 g i D := (hin.alloc _).grown hg1 (hin.apart hown.row (by decide))
            clear h1 hg1 hown hbel hin
            go_wp2_with fail
            go_loopw [6] (fun fv wq => ∃ f' : Nat, f ≤ f' ∧ f' ≤ i ∧ fv = .int .i64 f' ∧ Hid (tval 0 (D.drop f') = tval 0 (D.drop f)) ∧ wq = w2) (fun fv _ => i - (intOf fv).toNat)
            case atStart => exact ⟨f, Nat.le_refl _, Nat.le_of_lt hfn, rfl, rfl, rfl⟩
            case round =>
              obtain ⟨f', hff, hf'n, rfl, HF, hwq⟩ := hrel
              subst hwq
              have HV : Hid (bval (r ++ [true]) + 2 ^ (r.length + 1) * tval 0 (D.drop f') = V0) := by
                show bval (r ++ [true]) + 2 ^ (r.length + 1) * tval 0 (D.drop f') = V0
                rw [HF.out, bval_snoc, Nat.pow_succ, Nat.mul_assoc, Nat.add_assoc, ← Nat.mul_add]
                have e1 := HE.out
                have e2 := HI.out.1
                rw [← e1, Nat.mul_add] at e2
                rw [Nat.mul_add]
                simp only [Bool.toNat_true]
                omega
              have HVL : Hid (tval 0 (D.drop f') ≤ tval 0 (T.drop f) / 2) := by
                show tval 0 (D.drop f') ≤ tval 0 (T.drop f) / 2
                rw [HF.out]; have := HE.out; omega
              by_cases hf9 : f' < i
              · obtain ⟨y, hy⟩ := get_some (l := D) (k := f') (by have := hin1.len; omega)
                have hcy := hin1.cell hy
                have HY := Lib.hid hy
                clear hy
                by_cases hy48 : (y.toNat : Int) = 48
                · have h48 : Hid (y.toNat = 48) := by show y.toNat = 48; omega
                  have hcy2 : encY y = .int .u8 48 := by show Value.int .u8 (y.toNat : Int) = _; rw [hy48]
                  rw [hcy2] at hcy
                  clear hcy2 hy48
                  go_wp2_with fail
                  go_roundw
                  case rel =>
                    refine ⟨f' + 1, by omega, by omega, by go_num, ?_, by first | rfl | trivial⟩
                    show tval 0 (D.drop (f' + 1)) = _
                    rw [← HF.out, drop_get HY.out]
                    show _ = tval (10 * 0 + (y.toNat - 48)) (D.drop (f' + 1))
                    rw [h48.out]
                  case measure => simp [intOf]; omega
                · have hyd : Hid (48 < y.toNat) := by
                    show 48 < y.toNat
                    have := (isDig_iff y).1 (List.all_eq_true.1 HD.out y (List.mem_of_getElem? HY.out))
                    omega
                  have hpos : Hid (0 < tval 0 (D.drop f')) := by
                    show 0 < tval 0 (D.drop f')
                    rw [drop_get HY.out]
                    show 0 < tval (10 * 0 + (y.toNat - 48)) (D.drop (f' + 1))
                    exact tval_pos _ _ (by have := hyd.out; omega)
                  go_wp2_with fail
                  go_roundg (tval 0 (D.drop f') + (i - f'))
                  case measure =>
                    have h1 := HVL.out
                    have h2 := hpos.out
                    have h3 := HG.out
                    omega
                  case rel =>
                    exact ⟨f', D, r ++ [true], hf'n, rfl, rfl, HD, ⟨by simpa using HV.out, fun h => absurd h (by have := hpos.out; omega), by simp; have := HRL.out; omega⟩, hown1, hin1, hb1⟩
              · have hfe : f' = i := by omega
                subst hfe
                go_wp2_with fail
                go_roundg (tval 0 (D.drop f') + (f' - f'))
                case measure =>
                  have h1 := HVL.out
                  have h3 := HG.out
                  omega
                case rel =>
                  exact ⟨f', D, r ++ [true], Nat.le_refl _, rfl, rfl, HD, ⟨by simpa using HV.out, fun _ => .inl rfl, by simp; have := HRL.out; omega⟩, hown1, hin1, hb1⟩
    · have hfe : f = n := by omega
      have hval : bval r = V0 := by
        have h1 := HI.out.1
        rw [List.drop_of_length_le (by rw [hin.len]; omega)] at h1
        have h2 : tval 0 ([] : List UInt8) = 0 := rfl
        rw [h2, Nat.mul_zero, Nat.add_zero] at h1
        exact h1
      have HVV := Lib.hid hval
      have HRL : Hid (r.length ≤ 30000000) := by show r.length ≤ 30000000; have := HI.out.2.2; omega
      have hra := hown.arg
      clear hval hown hin
      go_wp2_with fail
      refine (rlimbs_any _ _ r hra HRL.out).mono ?_
      rintro e w5 ⟨v5, rfl, g5, b5⟩
      rw [HVV.out] at g5
      go_wp2_with fail
      go_ret2
      exact ⟨_, rfl, g5, hbel.trans (b5.mono hbel.size)⟩
end Go.Proofs.YtbippecchpaleaaGreatDoor

