import Derived.Test.YtbippecchpaleaaGreatDoorGRatF
import Derived.Test.YtbippecchpaleaaGreatDoorGRefQ3
/- litmuslaw03.RatMakes returns true. -/
namespace Go.Num
open Go Go.RowKit Go.Kp Go.Proofs.YtbippecchpaleaaGreatDoor
theorem qp_whole {w : World} {n : Bool} {A : Option Addr} {k c : Nat} {z : Int} (h : Whole w n (.slice A k c) z) : QP w (.agg #[.bool n, .slice A k c, .slice none 0 0]) z 0 := ⟨n, A, k, c, none, 0, 0, [], rfl, h, by have h := (Sound.nil_ w 0).num; rwa [show (0 : Int).natAbs = 0 from rfl, limbs_zero] at h, by decide⟩
theorem qv_whole {w : World} {n : Bool} {A : Option Addr} {k c : Nat} {z : Int} (h : Whole w n (.slice A k c) z) : QV w (.agg #[.bool n, .slice A k c, .slice none 0 0]) (z : Rat) := by
  have h1 := (qp_whole h).qv
  rwa [show mkRat z (dn 0) = (z : Rat) from Rat.mkRat_one z] at h1
theorem lit_64 (w : World) (T : TypeId) (a : Nat) (h : a < 18446744073709551616) : LV (w.alloc (.cells #[.int .u32 ((a : Int) % 4294967296), .int .u32 ((a : Int) / 4294967296)] T)) (.slice (some ⟨w.heap.size, 0, none⟩) 2 2) [a % 4294967296, a / 4294967296] a :=
  Num.lv ⟨arg_lit w _ _ 2 _ rfl (by simp), Lim.cons (by omega) (Lim.one (by omega)), by simp, by simp [val]; omega⟩
end Go.Num
namespace Go.Proofs.YtbippecchpaleaaGreatDoor
open Go.RowKit Go.Num Go.Kp
theorem qofA_v (w : World) {u v : Value} {z y : Int} {q : Rat} {k : Int} (h0 : WV w u z) (h1 : WV w v y) (hz : y = 0 → q = 0 ∧ k = 3) (hn : y ≠ 0 → q = Rat.divInt z y ∧ k = 0) : Calls Tryz.prog 41 #[u, v] w fun e w' => ∃ r, e = .returned r ∧ (∃ x, r = .tuple #[x, .int .i64 k] ∧ RV w' x q) ∧ Grows w w' := by
  rcases Int.lt_trichotomy y 0 with h | h | h
  · obtain ⟨rfl, rfl⟩ := hn (Int.ne_of_lt h)
    exact qof_neg w h0 h1 h
  · obtain ⟨rfl, rfl⟩ := hz h
    exact qof0_v w h0 h1 h
  · obtain ⟨rfl, rfl⟩ := hn (Int.ne_of_gt h)
    exact qof_pos w h0 h1 h
section
attribute [local go_sem] Oper.semAt_some u64_mask ev_const ev_func ev_global
theorem op_ratN {a : Act} {w : World} {d : Option Tmp} {ty : TypeId} {pos : String} {af : Array Edge} {gu : Option (Nat × Bool)} (t : Nat) {n : Bool} {A : Option Addr} {k c : Nat} (he : ev a (.tmp t) = .agg #[.bool n, .slice A k c]) :
    (execOp (ev a) ⟨d, .build 26 #[(0, .tmp t)], ty, pos, af, gu⟩).run Tryz.prog w = .ok (.value (.agg #[.bool n, .slice A k c, .slice none 0 0])) w := by
  have h := run_build (P := Tryz.prog) w 26 #[(0, .agg #[.bool n, .slice A k c])] #[.bool n, .slice A k c, .slice none 0 0] (by kernel_rfl)
  simp only [execOp, List.map_toArray, List.map_cons, List.map_nil, he, go_sem]
  go_simp
end
end Go.Proofs.YtbippecchpaleaaGreatDoor
namespace Go.Proofs.YtbippecchpaleaaGreatDoor
open Go.RowKit Go.Num Go.Kp
attribute [local go_sem] Oper.semAt_some u64_mask ev_const ev_func ev_global
set_option maxHeartbeats 16000000 in
set_option maxRecDepth 100000 in
theorem ratMakes_any (w : World) (nP0 : Bool) (mP0 : Value) (lP0 : List Nat) (nP1 : Bool) (mP1 : Value) (lP1 : List Nat) (k : Int) (hlen : HasLen w) (hP0 : Arg encU w mP0 lP0) (hL0 : Lim lP0) (hN0 : lP0.length ≤ 9223372036854775807) (hP1 : Arg encU w mP1 lP1) (hL1 : Lim lP1) (hN1 : lP1.length ≤ 9223372036854775807) (hk2 : -9223372036854775808 ≤ k) (hk3 : k ≤ 9223372036854775807) : Calls Tryz.prog 5 #[.agg #[.bool nP0, mP0], .agg #[.bool nP1, mP1], .int .i64 k] w fun e w' => e = .returned (.bool true) ∧ Below w.heap.size w w' := by
  obtain ⟨fP0, hf0⟩ : ∃ f, lP0.take 5 = f := ⟨_, rfl⟩
  obtain ⟨x, hq0⟩ : ∃ z, sg nP0 (val fP0) = z := ⟨_, rfl⟩
  have hks0 : szz x ≤ 5 := hq0 ▸ hf0 ▸ few_szz nP0 5 hL0
  obtain ⟨AP0, cP0, eP0, hlc0, hC0⟩ := hP0.open_
  subst eP0
  have hnf0 : Num w (.slice AP0 fP0.length cP0) fP0 (val fP0) := hf0 ▸ ⟨Arg.mk_ rfl (by rw [List.length_take]; omega) (hC0.take 5), fun x hx => hL0 x (List.mem_of_mem_take hx), by rw [List.length_take]; omega, rfl⟩
  have hfl0 : fP0.length ≤ 5 := by rw [← hf0, List.length_take]; omega
  have hmn0 : min lP0.length 5 = fP0.length := by rw [← hf0, List.length_take]; omega
  have hfc0 : fP0.length ≤ lP0.length := by rw [← hf0, List.length_take]; omega
  have hfd0 : fP0.length ≤ cP0 := Nat.le_trans hfc0 hlc0
  clear hP0 hC0 hf0 hL0
  obtain ⟨fP1, hf1⟩ : ∃ f, lP1.take 5 = f := ⟨_, rfl⟩
  obtain ⟨y, hq1⟩ : ∃ z, sg nP1 (val fP1) = z := ⟨_, rfl⟩
  have hks1 : szz y ≤ 5 := hq1 ▸ hf1 ▸ few_szz nP1 5 hL1
  obtain ⟨AP1, cP1, eP1, hlc1, hC1⟩ := hP1.open_
  subst eP1
  have hnf1 : Num w (.slice AP1 fP1.length cP1) fP1 (val fP1) := hf1 ▸ ⟨Arg.mk_ rfl (by rw [List.length_take]; omega) (hC1.take 5), fun x hx => hL1 x (List.mem_of_mem_take hx), by rw [List.length_take]; omega, rfl⟩
  have hfl1 : fP1.length ≤ 5 := by rw [← hf1, List.length_take]; omega
  have hmn1 : min lP1.length 5 = fP1.length := by rw [← hf1, List.length_take]; omega
  have hfc1 : fP1.length ≤ lP1.length := by rw [← hf1, List.length_take]; omega
  have hfd1 : fP1.length ≤ cP1 := Nat.le_trans hfc1 hlc1
  clear hP1 hC1 hf1 hL1
  go_enter Tryz.func5, Tryz.ntmps5
  go_upto_region 1 with fail
  obtain ⟨x0, ex0, HB, D0, D1⟩ := st_22 w 24 (.bool nP0) (.slice AP0 lP0.length cP0) 24 (.bool nP1) (.slice AP1 lP1.length cP1)
  rw [ex0]
  clear ex0
  obtain ⟨c00, c01, f00, f01⟩ := D0.facts
  obtain ⟨c10, c11, f10, f11⟩ := D1.facts
  have Da := D0.set1 (.slice AP0 fP0.length cP0)
  have Db := D1.apart (h := w.heap.size) (by omega) 1 (.slice AP0 fP0.length cP0)
  obtain ⟨a00, a01, g00, g01⟩ := Da.facts
  obtain ⟨a10, a11, g10, g11⟩ := Db.facts
  have HX := Lib.hid (show Box2 ((x0.setCell ⟨w.heap.size, 1, none⟩ (.slice AP0 fP0.length cP0)).setCell ⟨w.heap.size + 1, 1, none⟩ (.slice AP1 fP1.length cP1)) w.heap.size 24 (.bool nP0) (.slice AP0 fP0.length cP0) ∧ Box2 ((x0.setCell ⟨w.heap.size, 1, none⟩ (.slice AP0 fP0.length cP0)).setCell ⟨w.heap.size + 1, 1, none⟩ (.slice AP1 fP1.length cP1)) (w.heap.size + 1) 24 (.bool nP1) (.slice AP1 fP1.length cP1) ∧ Below w.heap.size w ((x0.setCell ⟨w.heap.size, 1, none⟩ (.slice AP0 fP0.length cP0)).setCell ⟨w.heap.size + 1, 1, none⟩ (.slice AP1 fP1.length cP1)) from ⟨Da.apart (by omega) 1 _, Db.set1 _, (HB.setCell (p := ⟨w.heap.size, 1, none⟩) (Nat.le_refl _) _).setCell (p := ⟨w.heap.size + 1, 1, none⟩) (Nat.le_succ _) _⟩)
  clear Da Db D0 D1 HB
  have hl5 := Lib.hid (And.intro hfl0 hfl1)
  have hk9 := Lib.hid (And.intro hks0 hks1)
  have hn9 := Lib.hid (And.intro hnf0 hnf1)
  have hq9 := Lib.hid (And.intro hq0 hq1)
  clear hks0 hks1 hnf0 hnf1 hq0 hq1
  go_region
  clear c00 c01 f00 f01 c10 c11 f10 f11 a00 a01 g00 g01 a10 a11 g10 g11
  rw [show (min (lP0.length : Int) 5).toNat = fP0.length by omega, show (min (lP1.length : Int) 5).toNat = fP1.length by omega]
  obtain ⟨D0, D1, HB⟩ : Box2 ((x0.setCell ⟨w.heap.size, 1, none⟩ (.slice AP0 fP0.length cP0)).setCell ⟨w.heap.size + 1, 1, none⟩ (.slice AP1 fP1.length cP1)).drew w.heap.size 24 (.bool nP0) (.slice AP0 fP0.length cP0) ∧ Box2 ((x0.setCell ⟨w.heap.size, 1, none⟩ (.slice AP0 fP0.length cP0)).setCell ⟨w.heap.size + 1, 1, none⟩ (.slice AP1 fP1.length cP1)).drew (w.heap.size + 1) 24 (.bool nP1) (.slice AP1 fP1.length cP1) ∧ Below w.heap.size w ((x0.setCell ⟨w.heap.size, 1, none⟩ (.slice AP0 fP0.length cP0)).setCell ⟨w.heap.size + 1, 1, none⟩ (.slice AP1 fP1.length cP1)).drew := ⟨HX.out.1, HX.out.2.1, HX.out.2.2.drew⟩
  obtain ⟨hks0, hks1⟩ := hk9.out
  obtain ⟨hnf0, hnf1⟩ := hn9.out
  obtain ⟨hq0, hq1⟩ := hq9.out
  obtain ⟨hfl0, hfl1⟩ := hl5.out
  clear HX hk9 hn9 hq9 hl5 hmn0 hmn1 hfc0 hfc1 hfd0 hfd1 hlc0 hlc1
  generalize ((x0.setCell ⟨w.heap.size, 1, none⟩ (.slice AP0 fP0.length cP0)).setCell ⟨w.heap.size + 1, 1, none⟩ (.slice AP1 fP1.length cP1)).drew = y0 at *
  replace HB := Lib.hid HB
  replace D0 := Lib.hid D0
  replace D1 := Lib.hid D1
  have hk0 : szz x ≤ 1000 := Nat.le_trans hks0 (by decide)
  have hk1 : szz y ≤ 1000 := Nat.le_trans hks1 (by decide)
  have SN0 : Hid (Whole y0 nP0 (.slice AP0 fP0.length cP0) x) := Lib.hid ⟨_, _, hnf0.below HB.out, Nat.le_trans hfl0 (by decide), hq0.symm⟩
  have SN1 : Hid (Whole y0 nP1 (.slice AP1 fP1.length cP1) y) := Lib.hid ⟨_, _, hnf1.below HB.out, Nat.le_trans hfl1 (by decide), hq1.symm⟩
  have HL := Lib.hid hlen
  clear hlen hks0 hks1 hnf0 hnf1 hq0 hq1 hfl0 hfl1
  obtain ⟨q9, k9, hz9, hn9⟩ : ∃ (q : Rat) (j : Int), (y = 0 → q = 0 ∧ j = 3) ∧ (y ≠ 0 → q = Rat.divInt x y ∧ j = 0) := by
    rcases Decidable.em (y = 0) with h | h
    · exact ⟨0, 3, fun _ => ⟨rfl, rfl⟩, fun h2 => absurd h h2⟩
    · exact ⟨Rat.divInt x y, 0, fun h2 => absurd h2 h, fun _ => ⟨rfl, rfl⟩⟩
  obtain ⟨tz, htz⟩ : ∃ t, decide (y = 0) = t := ⟨_, rfl⟩
  replace hz9 := Lib.hid hz9
  replace hn9 := Lib.hid hn9
  replace htz := Lib.hid htz
  go_upto_region 2 with fail
  have lw0 := D0.out.lt
  have lw1 := D1.out.lt
  refine wp_region_calm 7 [6] ([fun vq wq => WV wq vq x,
      fun vq wq => WV wq vq y,
      fun vq wq => ∃ u0, vq = .tuple #[u0, .int .i64 k9] ∧ RV wq u0 q9,
      fun vq wq => ∃ u0, vq = .tuple #[u0, .int .i64 k9] ∧ RV wq u0 q9,
      fun vq wq => RV wq vq q9,
      fun vq _ => vq = .int .i64 k9,
      fun vq wq => ∃ bq, vq = .pointer (some ⟨bq, 0, none⟩) ∧ BoxN wq bq 26 #[.bool false, .slice none 0 0, .slice none 0 0] ∧ (y0).heap.size ≤ bq]) (by kernel_rfl) (by decide) ?_ ?_ ?_
  · intro j hj v w h
    simp only [List.mem_cons, List.not_mem_nil, or_false] at hj
    subst hj
    all_goals (obtain ⟨b, rfl, hB, _⟩ := h; exact hB.lt)
  · refine po rfl (fun lq aq wq hk hr K hK => ?_) ?_
    · have B3 : ev aq (.tmp 3) = .pointer (some ⟨w.heap.size, 0, none⟩) := hk.base 3 (by kernel_rfl) rfl
      have hb : Below _ _ _ := hk.ext
      exact vc hK (op_load 3 _ B3 (D0.out.below hb)) (fun w2 h2 => ⟨_, _, _, _, rfl, (SN0.out.below hb).below h2⟩)
    refine po rfl (fun lq aq wq hk hr K hK => ?_) ?_
    · have B4 : ev aq (.tmp 4) = .pointer (some ⟨w.heap.size + 1, 0, none⟩) := hk.base 4 (by kernel_rfl) rfl
      have hb : Below _ _ _ := hk.ext
      exact vc hK (op_load 4 _ B4 (D1.out.below hb)) (fun w2 h2 => ⟨_, _, _, _, rfl, (SN1.out.below hb).below h2⟩)
    refine po rfl (fun lq aq wq hk hr K hK => ?_) ?_
    · obtain ⟨v0, E0, r0⟩ := hk.dp hr 0 28 (by kernel_rfl)
      have r0 : WV wq v0 x := r0
      obtain ⟨v1, E1, r1⟩ := hk.dp hr 1 29 (by kernel_rfl)
      have r1 : WV wq v1 y := r1
      exact yc hK (by go_simp) (qofA_v wq r0 r1 hz9.out hn9.out) (fun u w1 hu w2 h2 => (let ⟨u0, e0, h0⟩ := hu; ⟨u0, e0, (h0).grow h2⟩))
    refine po rfl (fun lq aq wq hk hr K hK => ?_) ?_
    · obtain ⟨v2, E2, r2⟩ := hk.dp hr 2 30 (by kernel_rfl)
      have r2 : ∃ u0, v2 = .tuple #[u0, .int .i64 k9] ∧ RV wq u0 q9 := r2
      exact vc hK (by go_simp) (fun w2 h2 => (let ⟨u0, e0, h0⟩ := r2; ⟨u0, e0, (h0).grow h2⟩))
    refine po rfl (fun lq aq wq hk hr K hK => ?_) ?_
    · obtain ⟨v3, E3, r3⟩ := hk.dp hr 3 27 (by kernel_rfl)
      have r3 : ∃ u0, v3 = .tuple #[u0, .int .i64 k9] ∧ RV wq u0 q9 := r3
      obtain ⟨u0, rfl, h0⟩ := r3
      exact vc hK (by go_simp) (fun w2 h2 => (h0).grow h2)
    refine po rfl (fun lq aq wq hk hr K hK => ?_) ?_
    · obtain ⟨v3, E3, r3⟩ := hk.dp hr 3 27 (by kernel_rfl)
      have r3 : ∃ u0, v3 = .tuple #[u0, .int .i64 k9] ∧ RV wq u0 q9 := r3
      obtain ⟨u0, rfl, h0⟩ := r3
      exact vc hK (by go_simp) (fun w2 h2 => rfl)
    refine po rfl (fun lq aq wq hk hr K hK => ?_) ?_
    · exact wp_of_value (by go_simp) (hK.out _ _ ((Grows.refl _).alloc _) (fun w2 h2 => ⟨_, rfl, (BoxN.new wq 26 _).below h2, hk.ext.size⟩) (fun _ => Nat.le_refl _))
    exact AllOps.nil
  intro V x1 hG hV hap
  have r4 : RV x1 (V 4) q9 := hV 4 (by decide)
  have r5 : (V 5) = .int .i64 k9 := hV 5 (by decide)
  have r6 : ∃ bq, (V 6) = .pointer (some ⟨bq, 0, none⟩) ∧ BoxN x1 bq 26 #[.bool false, .slice none 0 0, .slice none 0 0] ∧ (y0).heap.size ≤ bq := hV 6 (by decide)
  clear hV
  simp only [List.take_succ_cons, List.take_zero, List.drop_succ_cons, List.drop_zero, putAll, Act.put, List.setIfInBounds_toArray, List.set_cons_zero, List.set_cons_succ]
  have hb := (show Below _ _ _ from hG)
  obtain ⟨bq, eq, Dq, gq⟩ := r6
  obtain ⟨nq, Aq, kq, cq, Bq, jq, dq, eq9, sq, tq, hdq⟩ := r4
  simp only [eq, eq9, r5]
  clear eq eq9 hap hG r5
  replace Dq : Box3 _ bq 26 (.bool false) (.slice none 0 0) (.slice none 0 0) := Dq
  refine wpList_of_skip rfl (op_store3 7 31 _ rfl rfl Dq) ?_
  have hB := put3_below (x' := .bool nq) (y' := .slice Aq kq cq) (z' := .slice Bq jq dq) hb gq
  replace sq := sq.put3 Dq (.bool nq) (.slice Aq kq cq) (.slice Bq jq dq)
  replace tq := tq.put3 Dq (.bool nq) (.slice Aq kq cq) (.slice Bq jq dq)
  replace Dq := put3_own (x' := .bool nq) (y' := .slice Aq kq cq) (z' := .slice Bq jq dq) Dq
  clear hb
  generalize put3 x1 bq (.bool nq) (.slice Aq kq cq) (.slice Bq jq dq) = y2 at *
  replace D0 := Lib.hid (D0.out.below hB)
  replace SN0 := Lib.hid (SN0.out.below hB)
  replace D1 := Lib.hid (D1.out.below hB)
  replace SN1 := Lib.hid (SN1.out.below hB)
  replace HB := Lib.hid (HB.out.trans (Below.mono hB HB.out.size))
  replace lw0 := Nat.lt_of_lt_of_le lw0 gq
  replace lw1 := Nat.lt_of_lt_of_le lw1 gq
  replace Dq := Lib.hid Dq
  have SNq := Lib.hid sq
  have SDq := Lib.hid tq
  clear hB gq sq tq
  go_upto_region 3 with fail
  refine wp_region_calm 3 [] ([fun vq wq => WV wq vq y,
      fun vq wq => QP wq vq y 0,
      fun vq _ => vq = .bool tz]) (by kernel_rfl) (by decide) ?_ ?_ ?_
  · intro j hj; cases hj
  · refine po rfl (fun lq aq wq hk hr K hK => ?_) ?_
    · have B4 : ev aq (.tmp 4) = .pointer (some ⟨w.heap.size + 1, 0, none⟩) := hk.base 4 (by kernel_rfl) rfl
      have hb : Below _ _ _ := hk.ext
      exact vc hK (op_load 4 _ B4 (D1.out.below hb)) (fun w2 h2 => ⟨_, _, _, _, rfl, (SN1.out.below hb).below h2⟩)
    refine po rfl (fun lq aq wq hk hr K hK => ?_) ?_
    · obtain ⟨v0, E0, r0⟩ := hk.dp hr 0 33 (by kernel_rfl)
      obtain ⟨n0, A0, k0, c0, rfl, s0⟩ := r0
      exact vc hK (op_ratN 33 E0) (fun w2 h2 => (qp_whole s0).grow h2)
    refine po rfl (fun lq aq wq hk hr K hK => ?_) ?_
    · obtain ⟨v1, E1, r1⟩ := hk.dp hr 1 34 (by kernel_rfl)
      have r1 : QP wq v1 y 0 := r1
      exact yc hK (by go_simp) (rzero_v wq r1 htz.out) (fun u w1 hu w2 h2 => hu)
    exact AllOps.nil
  intro V x3 hG hV hap
  have r2 : (V 2) = .bool tz := hV 2 (by decide)
  clear hV hap
  simp only [List.take_succ_cons, List.take_nil, List.drop_succ_cons, List.drop_nil, putAll, Act.put, List.setIfInBounds_toArray, List.set_cons_zero, List.set_cons_succ]
  have hb := (show Below _ _ _ from hG)
  replace D0 := Lib.hid (D0.out.below hb)
  replace SN0 := Lib.hid (SN0.out.below hb)
  replace D1 := Lib.hid (D1.out.below hb)
  replace SN1 := Lib.hid (SN1.out.below hb)
  replace Dq := Lib.hid (Dq.out.below hb)
  replace SNq := Lib.hid (SNq.out.below hb)
  replace SDq := Lib.hid (SDq.out.below hb)
  replace HB := Lib.hid (HB.out.trans (Below.mono hb HB.out.size))
  clear hb hG
  rw [r2]
  clear r2
  go_upto_if 35 with fail
  go_cut [] from 9 (fun wx => Hid (Below x3.heap.size x3 wx))
  case first =>
    have HB0 := HB
    replace HB := Lib.hid (Below.refl x3.heap.size x3)
    rcases tz with _ | _
    · skip
      have hy := of_decide_eq_false htz.out
      obtain ⟨hq9, hk9⟩ := hn9.out hy
      subst hk9
      clear hz9 hn9
      replace hq9 := Lib.hid hq9
      go_upto_region 6 with fail
      refine wp_region_going 10 [] ([fun vq _ => vq = .int .i64 0,
          fun vq _ => vq = .bool false,
          fun vq _ => vq = .bool false,
          fun vq wq => RV wq vq q9,
          fun vq wq => WV wq vq x,
          fun vq wq => WV wq vq y,
          fun vq wq => RV wq vq ((Rat.divInt x y)),
          fun vq _ => vq = .bool true,
          fun vq _ => vq = .bool false,
          fun vq _ => vq = .bool false]) (by kernel_rfl) (by kernel_rfl) (by decide) (by kernel_rfl) (by kernel_rfl) ?_ ?_ ?_
      · intro j hj; cases hj
      · refine po rfl (fun lq aq wq hk hr K hK => ?_) ?_
        · have B8 : ev aq (.tmp 8) = .int .i64 0 := hk.base 8 (by kernel_rfl) rfl
          exact vc hK (by go_simp) (fun w2 h2 => rfl)
        refine po rfl (fun lq aq wq hk hr K hK => ?_) ?_
        · have E0 : ev aq (.tmp 45) = .int .i64 0 := hk.dc hr 0 (by kernel_rfl) fun _ _ h => h
          exact vc hK (by go_simp) (fun w2 h2 => rfl)
        refine po rfl (fun lq aq wq hk hr K hK => ?_) ?_
        · have E1 : ev aq (.tmp 46) = .bool false := hk.dc hr 1 (by kernel_rfl) fun _ _ h => h
          exact vc hK (by go_simp) (fun w2 h2 => rfl)
        refine pl 2 47 false rfl (by kernel_rfl) (fun _ _ h => h) (fun lq aq wq hk hr K hK => ?_) ?_
        · have B7 : ev aq (.tmp 7) = .pointer (some ⟨bq, 0, none⟩) := hk.base 7 (by kernel_rfl) rfl
          have hb := grows_of hk.ext
          exact vc hK (op_load3 7 _ B7 (Dq.out.below hb)) (fun w2 h2 => RV.grow ⟨_, _, _, _, _, _, _, rfl, (SNq.out.below hb), (SDq.out.below hb), hdq⟩ h2)
        refine pl 2 47 false rfl (by kernel_rfl) (fun _ _ h => h) (fun lq aq wq hk hr K hK => ?_) ?_
        · have B3 : ev aq (.tmp 3) = .pointer (some ⟨w.heap.size, 0, none⟩) := hk.base 3 (by kernel_rfl) rfl
          have hb := grows_of hk.ext
          exact vc hK (op_load 3 _ B3 (D0.out.below hb)) (fun w2 h2 => ⟨_, _, _, _, rfl, (SN0.out.below hb).below h2⟩)
        refine pl 2 47 false rfl (by kernel_rfl) (fun _ _ h => h) (fun lq aq wq hk hr K hK => ?_) ?_
        · have B4 : ev aq (.tmp 4) = .pointer (some ⟨w.heap.size + 1, 0, none⟩) := hk.base 4 (by kernel_rfl) rfl
          have hb := grows_of hk.ext
          exact vc hK (op_load 4 _ B4 (D1.out.below hb)) (fun w2 h2 => ⟨_, _, _, _, rfl, (SN1.out.below hb).below h2⟩)
        refine pl 2 47 false rfl (by kernel_rfl) (fun _ _ h => h) (fun lq aq wq hk hr K hK => ?_) ?_
        · obtain ⟨v4, E4, r4⟩ := hk.dp hr 4 49 (by kernel_rfl)
          have r4 : WV wq v4 x := r4
          obtain ⟨v5, E5, r5⟩ := hk.dp hr 5 50 (by kernel_rfl)
          have r5 : WV wq v5 y := r5
          exact yc hK (by go_simp) (rof_v wq r4 r5 hy) (fun u w1 hu w2 h2 => (hu).grow h2)
        refine pl 2 47 false rfl (by kernel_rfl) (fun _ _ h => h) (fun lq aq wq hk hr K hK => ?_) ?_
        · obtain ⟨v3, E3, r3⟩ := hk.dp hr 3 48 (by kernel_rfl)
          have r3 : RV wq v3 q9 := r3
          obtain ⟨v6, E6, r6⟩ := hk.dp hr 6 51 (by kernel_rfl)
          have r6 : RV wq v6 ((Rat.divInt x y)) := r6
          exact yc hK (by go_simp) (lsameR_v wq r3 r6 (t := true) (decide_eq_true hq9.out)) (fun u w1 hu w2 h2 => hu)
        refine pl 2 47 false rfl (by kernel_rfl) (fun _ _ h => h) (fun lq aq wq hk hr K hK => ?_) ?_
        · have E7 : ev aq (.tmp 52) = .bool true := hk.dc hr 7 (by kernel_rfl) fun _ _ h => h
          exact vc hK (by go_simp) (fun w2 h2 => rfl)
        refine po rfl (fun lq aq wq hk hr K hK => ?_) ?_
        · have E2 : ev aq (.tmp 47) = .bool false := hk.dc hr 2 (by kernel_rfl) fun _ _ h => h
          have E8 : ev aq (.tmp 53) = .bool false := hk.dc hr 8 (by kernel_rfl) fun _ _ h => h
          exact vc hK (by go_simp) (fun w2 h2 => rfl)
        exact AllOps.nil
      intro V x4 hG hV hap
      have r9 : (V 9) = .bool false := hV 9 (by decide)
      clear hV hap
      simp only [List.take_succ_cons, List.take_nil, List.drop_succ_cons, List.drop_nil, putAll, Act.put, List.setIfInBounds_toArray, List.set_cons_zero, List.set_cons_succ]
      have hb := grows_of hG
      replace D0 := Lib.hid (D0.out.below hb)
      replace SN0 := Lib.hid (SN0.out.below hb)
      replace D1 := Lib.hid (D1.out.below hb)
      replace SN1 := Lib.hid (SN1.out.below hb)
      replace Dq := Lib.hid (Dq.out.below hb)
      replace SNq := Lib.hid (SNq.out.below hb)
      replace SDq := Lib.hid (SDq.out.below hb)
      replace HB := Lib.hid (HB.out.trans (Below.mono hb HB.out.size))
      clear hb hG
      rw [r9]
      clear r9
      go_wp2_with fail
      go_meet
      exact HB
    · skip
      have hy := of_decide_eq_true htz.out
      obtain ⟨hq9, hk9⟩ := hz9.out hy
      subst hk9
      clear hz9 hn9
      replace hq9 := Lib.hid hq9
      go_upto_region 4 with fail
      refine wp_region_going 9 [] ([fun vq _ => vq = .int .i64 3,
          fun vq _ => vq = .bool false,
          fun vq _ => vq = .bool false,
          fun vq wq => RV wq vq q9,
          fun vq wq => QV wq vq ((0 : Rat)),
          fun vq wq => RV wq vq ((0 : Rat)),
          fun vq _ => vq = .bool true,
          fun vq _ => vq = .bool false,
          fun vq _ => vq = .bool false]) (by kernel_rfl) (by kernel_rfl) (by decide) (by kernel_rfl) (by kernel_rfl) ?_ ?_ ?_
      · intro j hj; cases hj
      · refine po rfl (fun lq aq wq hk hr K hK => ?_) ?_
        · have B8 : ev aq (.tmp 8) = .int .i64 3 := hk.base 8 (by kernel_rfl) rfl
          exact vc hK (by go_simp) (fun w2 h2 => rfl)
        refine po rfl (fun lq aq wq hk hr K hK => ?_) ?_
        · have E0 : ev aq (.tmp 36) = .int .i64 3 := hk.dc hr 0 (by kernel_rfl) fun _ _ h => h
          exact vc hK (by go_simp) (fun w2 h2 => rfl)
        refine po rfl (fun lq aq wq hk hr K hK => ?_) ?_
        · have E1 : ev aq (.tmp 37) = .bool false := hk.dc hr 1 (by kernel_rfl) fun _ _ h => h
          exact vc hK (by go_simp) (fun w2 h2 => rfl)
        refine pl 2 38 false rfl (by kernel_rfl) (fun _ _ h => h) (fun lq aq wq hk hr K hK => ?_) ?_
        · have B7 : ev aq (.tmp 7) = .pointer (some ⟨bq, 0, none⟩) := hk.base 7 (by kernel_rfl) rfl
          have hb := grows_of hk.ext
          exact vc hK (op_load3 7 _ B7 (Dq.out.below hb)) (fun w2 h2 => RV.grow ⟨_, _, _, _, _, _, _, rfl, (SNq.out.below hb), (SDq.out.below hb), hdq⟩ h2)
        refine pl 2 38 false rfl (by kernel_rfl) (fun _ _ h => h) (fun lq aq wq hk hr K hK => ?_) ?_
        · exact vc hK (by go_simp) (fun w2 h2 => (QV.zero _).grow h2)
        refine pl 2 38 false rfl (by kernel_rfl) (fun _ _ h => h) (fun lq aq wq hk hr K hK => ?_) ?_
        · obtain ⟨v4, E4, r4⟩ := hk.dp hr 4 40 (by kernel_rfl)
          have r4 : QV wq v4 ((0 : Rat)) := r4
          exact yc hK (by go_simp) (rmadeQ_v wq r4) (fun u w1 hu w2 h2 => (hu).grow h2)
        refine pl 2 38 false rfl (by kernel_rfl) (fun _ _ h => h) (fun lq aq wq hk hr K hK => ?_) ?_
        · obtain ⟨v3, E3, r3⟩ := hk.dp hr 3 39 (by kernel_rfl)
          have r3 : RV wq v3 q9 := r3
          obtain ⟨v5, E5, r5⟩ := hk.dp hr 5 41 (by kernel_rfl)
          have r5 : RV wq v5 ((0 : Rat)) := r5
          exact yc hK (by go_simp) (lsameR_v wq r3 r5 (t := true) (decide_eq_true hq9.out)) (fun u w1 hu w2 h2 => hu)
        refine pl 2 38 false rfl (by kernel_rfl) (fun _ _ h => h) (fun lq aq wq hk hr K hK => ?_) ?_
        · have E6 : ev aq (.tmp 42) = .bool true := hk.dc hr 6 (by kernel_rfl) fun _ _ h => h
          exact vc hK (by go_simp) (fun w2 h2 => rfl)
        refine po rfl (fun lq aq wq hk hr K hK => ?_) ?_
        · have E2 : ev aq (.tmp 38) = .bool false := hk.dc hr 2 (by kernel_rfl) fun _ _ h => h
          have E7 : ev aq (.tmp 43) = .bool false := hk.dc hr 7 (by kernel_rfl) fun _ _ h => h
          exact vc hK (by go_simp) (fun w2 h2 => rfl)
        exact AllOps.nil
      intro V x4 hG hV hap
      have r8 : (V 8) = .bool false := hV 8 (by decide)
      clear hV hap
      simp only [List.take_succ_cons, List.take_nil, List.drop_succ_cons, List.drop_nil, putAll, Act.put, List.setIfInBounds_toArray, List.set_cons_zero, List.set_cons_succ]
      have hb := grows_of hG
      replace D0 := Lib.hid (D0.out.below hb)
      replace SN0 := Lib.hid (SN0.out.below hb)
      replace D1 := Lib.hid (D1.out.below hb)
      replace SN1 := Lib.hid (SN1.out.below hb)
      replace Dq := Lib.hid (Dq.out.below hb)
      replace SNq := Lib.hid (SNq.out.below hb)
      replace SDq := Lib.hid (SDq.out.below hb)
      replace HB := Lib.hid (HB.out.trans (Below.mono hb HB.out.size))
      clear hb hG
      rw [r8]
      clear r8
      go_wp2_with fail
      go_meet
      exact HB
  case rest =>
    have hcb := hcut.out
    clear hcut hz9 hn9 htz
    replace D0 := Lib.hid (D0.out.below hcb)
    replace SN0 := Lib.hid (SN0.out.below hcb)
    replace D1 := Lib.hid (D1.out.below hcb)
    replace SN1 := Lib.hid (SN1.out.below hcb)
    replace Dq := Lib.hid (Dq.out.below hcb)
    replace SNq := Lib.hid (SNq.out.below hcb)
    replace SDq := Lib.hid (SDq.out.below hcb)
    replace HB := Lib.hid (HB.out.trans (Below.mono hcb HB.out.size))
    clear hcb
    have hkk : szz k ≤ 2 := szz_i64 hk2 hk3
    rcases Int.lt_or_le k 0 with hx | hx
    · skip
      obtain ⟨a, ha⟩ : ∃ a : Nat, a = k.natAbs := ⟨_, rfl⟩
      have hlt : a < 18446744073709551616 := by omega
      have hz : k = -(a : Int) := by omega
      have HZ := Lib.hid (show sg true a = k by rw [sg_true, hz])
      have hw1 := Lib.hid (show IntKind.u64.wrap k = ((18446744073709551616 - a : Nat) : Int) by rw [IntKind.wrap_u64]; omega)
      have hw2 := Lib.hid (show IntKind.u64.wrap (-((18446744073709551616 - a : Nat) : Int)) = (a : Int) by rw [IntKind.wrap_u64]; omega)
      clear hz
      have hm5 := Lib.hid (show ((a : Int) / 4294967296) % 4294967296 = (a : Int) / 4294967296 by omega)
      have hlt9 := Lib.hid hlt
      clear ha hlt
      replace hkk := Lib.hid hkk
      obtain ⟨m0, hm0⟩ : ∃ m0 : Int, ((18446744073709551616 - a : Nat) : Int) = m0 := ⟨_, rfl⟩
      rw [hm0] at hw1 hw2
      clear hm0
      go_upto_region 8 with fail
      refine wp_region_calm 2 [] ([fun vq _ => vq = .int .i64 k,
          fun vq _ => vq = .int .u64 m0]) (by kernel_rfl) (by decide) ?_ ?_ ?_
      · intro j hj; cases hj
      · refine po rfl (fun lq aq wq hk hr K hK => ?_) ?_
        · have B2 : ev aq (.tmp 2) = .int .i64 k := hk.base 2 (by kernel_rfl) rfl
          exact vc hK (by go_simp) (fun w2 h2 => rfl)
        refine po rfl (fun lq aq wq hk hr K hK => ?_) ?_
        · have E0 : ev aq (.tmp 55) = .int .i64 k := hk.dc hr 0 (by kernel_rfl) fun _ _ h => h
          exact vc hK (by first | (go_simp; done) | (have h9 := hw1.out; go_simp; done) | (have h9 := hw1.out; go_simp; exact h9)) (fun w2 h2 => rfl)
        exact AllOps.nil
      intro V x4 hG hV hap
      have r1 : (V 1) = .int .u64 m0 := hV 1 (by decide)
      clear hV hap
      simp only [List.take_succ_cons, List.take_zero, List.drop_succ_cons, List.drop_zero, putAll, Act.put, List.setIfInBounds_toArray, List.set_cons_zero, List.set_cons_succ]
      have hb := (show Below _ _ _ from hG)
      replace D0 := Lib.hid (D0.out.below hb)
      replace SN0 := Lib.hid (SN0.out.below hb)
      replace D1 := Lib.hid (D1.out.below hb)
      replace SN1 := Lib.hid (SN1.out.below hb)
      replace Dq := Lib.hid (Dq.out.below hb)
      replace SNq := Lib.hid (SNq.out.below hb)
      replace SDq := Lib.hid (SDq.out.below hb)
      replace HB := Lib.hid (HB.out.trans (Below.mono hb HB.out.size))
      clear hb hG
      rw [r1]
      clear r1
      go_upto_region 9 with fail
      refine wp_region_calm 2 [] ([fun vq _ => vq = .int .i64 k,
          fun vq _ => vq = .bool true]) (by kernel_rfl) (by decide) ?_ ?_ ?_
      · intro j hj; cases hj
      · refine po rfl (fun lq aq wq hk hr K hK => ?_) ?_
        · have B2 : ev aq (.tmp 2) = .int .i64 k := hk.base 2 (by kernel_rfl) rfl
          exact vc hK (by go_simp) (fun w2 h2 => rfl)
        refine po rfl (fun lq aq wq hk hr K hK => ?_) ?_
        · have E0 : ev aq (.tmp 57) = .int .i64 k := hk.dc hr 0 (by kernel_rfl) fun _ _ h => h
          exact vc hK (by first | (go_simp; done) | (go_simp; omega)) (fun w2 h2 => rfl)
        exact AllOps.nil
      intro V x5 hG hV hap
      have r1 : (V 1) = .bool true := hV 1 (by decide)
      clear hV hap
      simp only [List.take_succ_cons, List.take_nil, List.drop_succ_cons, List.drop_nil, putAll, Act.put, List.setIfInBounds_toArray, List.set_cons_zero, List.set_cons_succ]
      have hb := (show Below _ _ _ from hG)
      replace D0 := Lib.hid (D0.out.below hb)
      replace SN0 := Lib.hid (SN0.out.below hb)
      replace D1 := Lib.hid (D1.out.below hb)
      replace SN1 := Lib.hid (SN1.out.below hb)
      replace Dq := Lib.hid (Dq.out.below hb)
      replace SNq := Lib.hid (SNq.out.below hb)
      replace SDq := Lib.hid (SDq.out.below hb)
      replace HB := Lib.hid (HB.out.trans (Below.mono hb HB.out.size))
      clear hb hG
      rw [r1]
      clear r1
      go_upto_region 10 with fail
      refine wp_region_calm 2 [] ([fun vq _ => vq = .int .u64 m0,
          fun vq _ => vq = .int .u64 (a : Int)]) (by kernel_rfl) (by decide) ?_ ?_ ?_
      · intro j hj; cases hj
      · refine po rfl (fun lq aq wq hk hr K hK => ?_) ?_
        · have B9 : ev aq (.tmp 9) = .int .u64 m0 := hk.base 9 (by kernel_rfl) rfl
          exact vc hK (by go_simp) (fun w2 h2 => rfl)
        refine po rfl (fun lq aq wq hk hr K hK => ?_) ?_
        · have E0 : ev aq (.tmp 59) = .int .u64 m0 := hk.dc hr 0 (by kernel_rfl) fun _ _ h => h
          exact vc hK (by first | (go_simp; done) | (have h9 := hw2.out; go_simp; done) | (have h9 := hw2.out; go_simp; exact h9)) (fun w2 h2 => rfl)
        exact AllOps.nil
      intro V x6 hG hV hap
      have r1 : (V 1) = .int .u64 (a : Int) := hV 1 (by decide)
      clear hV hap
      simp only [List.take_succ_cons, List.take_zero, List.drop_succ_cons, List.drop_zero, putAll, Act.put, List.setIfInBounds_toArray, List.set_cons_zero, List.set_cons_succ]
      have hb := (show Below _ _ _ from hG)
      replace D0 := Lib.hid (D0.out.below hb)
      replace SN0 := Lib.hid (SN0.out.below hb)
      replace D1 := Lib.hid (D1.out.below hb)
      replace SN1 := Lib.hid (SN1.out.below hb)
      replace Dq := Lib.hid (Dq.out.below hb)
      replace SNq := Lib.hid (SNq.out.below hb)
      replace SDq := Lib.hid (SDq.out.below hb)
      replace HB := Lib.hid (HB.out.trans (Below.mono hb HB.out.size))
      clear hb hG
      rw [r1]
      clear r1
      go_upto_region 11 with fail
      have lw0 := D0.out.lt
      have lw1 := D1.out.lt
      have lwq := Dq.out.lt
      refine wp_region_calm 11 [10] ([fun vq _ => vq = .int .i64 k,
          fun vq _ => vq = .bool true,
          fun vq _ => vq = .int .u64 (a : Int),
          fun vq _ => vq = .int .u32 ((a : Int) % 4294967296),
          fun vq _ => vq = .int .u64 (a : Int),
          fun vq _ => vq = .int .u64 ((a : Int) / 4294967296),
          fun vq _ => vq = .int .u32 ((a : Int) / 4294967296),
          fun vq wq => LV wq vq ([a % 4294967296, a / 4294967296]) a,
          fun vq wq => WV wq vq k,
          fun vq wq => QV wq vq (((k : Int) : Rat)),
          fun vq wq => ∃ bq, vq = .pointer (some ⟨bq, 0, none⟩) ∧ BoxN wq bq 26 #[.bool false, .slice none 0 0, .slice none 0 0] ∧ (x6).heap.size ≤ bq]) (by kernel_rfl) (by decide) ?_ ?_ ?_
      · intro j hj v w h
        simp only [List.mem_cons, List.not_mem_nil, or_false] at hj
        subst hj
        all_goals (obtain ⟨b, rfl, hB, _⟩ := h; exact hB.lt)
      · refine po rfl (fun lq aq wq hk hr K hK => ?_) ?_
        · have B2 : ev aq (.tmp 2) = .int .i64 k := hk.base 2 (by kernel_rfl) rfl
          exact vc hK (by go_simp) (fun w2 h2 => rfl)
        refine po rfl (fun lq aq wq hk hr K hK => ?_) ?_
        · have E0 : ev aq (.tmp 61) = .int .i64 k := hk.dc hr 0 (by kernel_rfl) fun _ _ h => h
          exact vc hK (by first | (go_simp; done) | (go_simp; omega)) (fun w2 h2 => rfl)
        refine po rfl (fun lq aq wq hk hr K hK => ?_) ?_
        · have B9 : ev aq (.tmp 9) = .int .u64 (a : Int) := hk.base 9 (by kernel_rfl) rfl
          exact vc hK (by go_simp) (fun w2 h2 => rfl)
        refine po rfl (fun lq aq wq hk hr K hK => ?_) ?_
        · have E2 : ev aq (.tmp 63) = .int .u64 (a : Int) := hk.dc hr 2 (by kernel_rfl) fun _ _ h => h
          exact vc hK (by first | (go_simp; done) | (go_simp; exact IntKind.wrap_u32 _)) (fun w2 h2 => rfl)
        refine po rfl (fun lq aq wq hk hr K hK => ?_) ?_
        · have B9 : ev aq (.tmp 9) = .int .u64 (a : Int) := hk.base 9 (by kernel_rfl) rfl
          exact vc hK (by go_simp) (fun w2 h2 => rfl)
        refine po rfl (fun lq aq wq hk hr K hK => ?_) ?_
        · have E4 : ev aq (.tmp 65) = .int .u64 (a : Int) := hk.dc hr 4 (by kernel_rfl) fun _ _ h => h
          exact vc hK (by first | (go_simp; done) | (have h9 := hm5.out; go_simp; done) | (have h9 := hm5.out; go_simp; exact h9)) (fun w2 h2 => rfl)
        refine po rfl (fun lq aq wq hk hr K hK => ?_) ?_
        · have E5 : ev aq (.tmp 66) = .int .u64 ((a : Int) / 4294967296) := hk.dc hr 5 (by kernel_rfl) fun _ _ h => h
          exact vc hK (by first | (go_simp; done) | (have h9 := hm5.out; go_simp; done) | (have h9 := hm5.out; go_simp; exact h9)) (fun w2 h2 => rfl)
        refine po rfl (fun lq aq wq hk hr K hK => ?_) ?_
        · have E3 : ev aq (.tmp 64) = .int .u32 ((a : Int) % 4294967296) := hk.dc hr 3 (by kernel_rfl) fun _ _ h => h
          have E6 : ev aq (.tmp 67) = .int .u32 ((a : Int) / 4294967296) := hk.dc hr 6 (by kernel_rfl) fun _ _ h => h
          exact wp_of_value (by go_simp) (hK.out _ _ ((Grows.refl _).alloc _) (fun w2 h2 => (lit_64 wq 43 a hlt9.out).grow h2) (fun h => absurd h (by decide)))
        refine po rfl (fun lq aq wq hk hr K hK => ?_) ?_
        · have E1 : ev aq (.tmp 62) = .bool true := hk.dc hr 1 (by kernel_rfl) fun _ _ h => h
          obtain ⟨v7, E7, r7⟩ := hk.dp hr 7 68 (by kernel_rfl)
          have r7 : LV wq v7 ([a % 4294967296, a / 4294967296]) a := r7
          obtain ⟨A7, c7, rfl, hnd⟩ := r7
          exact vc hK (by go_simp) (fun w2 h2 => (wv_lit true hnd (Nat.le_of_ble_eq_true rfl) HZ.out).grow h2)
        refine po rfl (fun lq aq wq hk hr K hK => ?_) ?_
        · obtain ⟨v8, E8, r8⟩ := hk.dp hr 8 69 (by kernel_rfl)
          obtain ⟨n8, A8, k8, c8, rfl, s8⟩ := r8
          exact vc hK (op_ratN 69 E8) (fun w2 h2 => (qv_whole s8).grow h2)
        refine po rfl (fun lq aq wq hk hr K hK => ?_) ?_
        · exact wp_of_value (by go_simp) (hK.out _ _ ((Grows.refl _).alloc _) (fun w2 h2 => ⟨_, rfl, (BoxN.new wq 26 _).below h2, hk.ext.size⟩) (fun _ => Nat.le_refl _))
        exact AllOps.nil
      intro V x7 hG hV hap
      have r9 : QV x7 (V 9) (((k : Int) : Rat)) := hV 9 (by decide)
      have r10 : ∃ bq, (V 10) = .pointer (some ⟨bq, 0, none⟩) ∧ BoxN x7 bq 26 #[.bool false, .slice none 0 0, .slice none 0 0] ∧ (x6).heap.size ≤ bq := hV 10 (by decide)
      clear hV
      simp only [List.take_succ_cons, List.take_zero, List.drop_succ_cons, List.drop_zero, putAll, Act.put, List.setIfInBounds_toArray, List.set_cons_zero, List.set_cons_succ]
      have hb := (show Below _ _ _ from hG)
      obtain ⟨bs1, es1, Ds1, gs1⟩ := r10
      obtain ⟨ns1, As1, ks1, cs1, Bs1, js1, ds1, es19, zs1, ls1, as1, ss1, ts1, hls1, es18⟩ := r9
      simp only [es1, es19]
      clear es1 es19 hap hG
      have hks1 : szz zs1 ≤ 1000 := ss1.size
      replace Ds1 : Box3 _ bs1 26 (.bool false) (.slice none 0 0) (.slice none 0 0) := Ds1
      refine wpList_of_skip rfl (op_store3 10 70 _ rfl rfl Ds1) ?_
      have hB := put3_below (x' := .bool ns1) (y' := .slice As1 ks1 cs1) (z' := .slice Bs1 js1 ds1) hb gs1
      replace ss1 := ss1.put3 Ds1 (.bool ns1) (.slice As1 ks1 cs1) (.slice Bs1 js1 ds1)
      replace ts1 := ts1.put3 Ds1 (.bool ns1) (.slice As1 ks1 cs1) (.slice Bs1 js1 ds1)
      replace Ds1 := put3_own (x' := .bool ns1) (y' := .slice As1 ks1 cs1) (z' := .slice Bs1 js1 ds1) Ds1
      clear hb
      generalize put3 x7 bs1 (.bool ns1) (.slice As1 ks1 cs1) (.slice Bs1 js1 ds1) = y8 at *
      replace D0 := Lib.hid (D0.out.below hB)
      replace SN0 := Lib.hid (SN0.out.below hB)
      replace D1 := Lib.hid (D1.out.below hB)
      replace SN1 := Lib.hid (SN1.out.below hB)
      replace Dq := Lib.hid (Dq.out.below hB)
      replace SNq := Lib.hid (SNq.out.below hB)
      replace SDq := Lib.hid (SDq.out.below hB)
      replace HB := Lib.hid (HB.out.trans (Below.mono hB HB.out.size))
      replace lw0 := Nat.lt_of_lt_of_le lw0 gs1
      replace lw1 := Nat.lt_of_lt_of_le lw1 gs1
      replace lwq := Nat.lt_of_lt_of_le lwq gs1
      replace Ds1 := Lib.hid Ds1
      have SNs1 := Lib.hid ss1
      have SDs1 := Lib.hid ts1
      clear hB gs1 ss1 ts1
      go_upto_region 12 with fail
      refine wp_region_going 16 [] ([fun vq wq => WV wq vq x,
          fun vq wq => RV wq vq (((x : Int) : Rat)),
          fun vq wq => WV wq vq x,
          fun vq wq => QV wq vq (((x : Int) : Rat)),
          fun vq wq => RV wq vq (((x : Int) : Rat)),
          fun vq _ => vq = .bool true,
          fun vq _ => vq = .bool true,
          fun vq _ => vq = .int .i64 k,
          fun vq wq => RV wq vq (((k : Int) : Rat)),
          fun vq wq => QV wq vq (((k : Int) : Rat)),
          fun vq wq => RV wq vq (((k : Int) : Rat)),
          fun vq _ => vq = .bool true,
          fun vq _ => vq = .bool true,
          fun vq _ => vq = .bool true,
          fun vq _ => vq = .bool true,
          fun vq _ => vq = .bool true]) (by kernel_rfl) (by kernel_rfl) (by decide) (by kernel_rfl) (by kernel_rfl) ?_ ?_ ?_
      · intro j hj; cases hj
      · refine po rfl (fun lq aq wq hk hr K hK => ?_) ?_
        · have B3 : ev aq (.tmp 3) = .pointer (some ⟨w.heap.size, 0, none⟩) := hk.base 3 (by kernel_rfl) rfl
          have hb := grows_of hk.ext
          exact vc hK (op_load 3 _ B3 (D0.out.below hb)) (fun w2 h2 => ⟨_, _, _, _, rfl, (SN0.out.below hb).below h2⟩)
        refine po rfl (fun lq aq wq hk hr K hK => ?_) ?_
        · obtain ⟨v0, E0, r0⟩ := hk.dp hr 0 71 (by kernel_rfl)
          have r0 : WV wq v0 x := r0
          exact yc hK (by go_simp) (int_v wq r0) (fun u w1 hu w2 h2 => (hu).grow h2)
        refine po rfl (fun lq aq wq hk hr K hK => ?_) ?_
        · have B3 : ev aq (.tmp 3) = .pointer (some ⟨w.heap.size, 0, none⟩) := hk.base 3 (by kernel_rfl) rfl
          have hb := grows_of hk.ext
          exact vc hK (op_load 3 _ B3 (D0.out.below hb)) (fun w2 h2 => ⟨_, _, _, _, rfl, (SN0.out.below hb).below h2⟩)
        refine po rfl (fun lq aq wq hk hr K hK => ?_) ?_
        · obtain ⟨v2, E2, r2⟩ := hk.dp hr 2 73 (by kernel_rfl)
          obtain ⟨n2, A2, k2, c2, rfl, s2⟩ := r2
          exact vc hK (op_ratN 73 E2) (fun w2 h2 => (qv_whole s2).grow h2)
        refine po rfl (fun lq aq wq hk hr K hK => ?_) ?_
        · obtain ⟨v3, E3, r3⟩ := hk.dp hr 3 74 (by kernel_rfl)
          have r3 : QV wq v3 (((x : Int) : Rat)) := r3
          exact yc hK (by go_simp) (rmadeQ_v wq r3) (fun u w1 hu w2 h2 => (hu).grow h2)
        refine po rfl (fun lq aq wq hk hr K hK => ?_) ?_
        · obtain ⟨v1, E1, r1⟩ := hk.dp hr 1 72 (by kernel_rfl)
          have r1 : RV wq v1 (((x : Int) : Rat)) := r1
          obtain ⟨v4, E4, r4⟩ := hk.dp hr 4 75 (by kernel_rfl)
          have r4 : RV wq v4 (((x : Int) : Rat)) := r4
          exact yc hK (by go_simp) (lsameR_v wq r1 r4 (t := true) (decide_eq_true rfl)) (fun u w1 hu w2 h2 => hu)
        refine po rfl (fun lq aq wq hk hr K hK => ?_) ?_
        · have E5 : ev aq (.tmp 76) = .bool true := hk.dc hr 5 (by kernel_rfl) fun _ _ h => h
          exact vc hK (by go_simp) (fun w2 h2 => rfl)
        refine pl 6 77 true rfl (by kernel_rfl) (fun _ _ h => h) (fun lq aq wq hk hr K hK => ?_) ?_
        · have B2 : ev aq (.tmp 2) = .int .i64 k := hk.base 2 (by kernel_rfl) rfl
          exact vc hK (by go_simp) (fun w2 h2 => rfl)
        refine pl 6 77 true rfl (by kernel_rfl) (fun _ _ h => h) (fun lq aq wq hk hr K hK => ?_) ?_
        · have E7 : ev aq (.tmp 78) = .int .i64 k := hk.dc hr 7 (by kernel_rfl) fun _ _ h => h
          exact yc hK (by go_simp) (rfrom_v wq k hk2 hk3) (fun u w1 hu w2 h2 => (hu).grow h2)
        refine pl 6 77 true rfl (by kernel_rfl) (fun _ _ h => h) (fun lq aq wq hk hr K hK => ?_) ?_
        · have B10 : ev aq (.tmp 10) = .pointer (some ⟨bs1, 0, none⟩) := hk.base 10 (by kernel_rfl) rfl
          have hb := grows_of hk.ext
          exact vc hK (op_load3 10 _ B10 (Ds1.out.below hb)) (fun w2 h2 => QV.grow ⟨_, _, _, _, _, _, _, rfl, _, _, _, (SNs1.out.below hb), (SDs1.out.below hb), hls1, es18⟩ h2)
        refine pl 6 77 true rfl (by kernel_rfl) (fun _ _ h => h) (fun lq aq wq hk hr K hK => ?_) ?_
        · obtain ⟨v9, E9, r9⟩ := hk.dp hr 9 80 (by kernel_rfl)
          have r9 : QV wq v9 (((k : Int) : Rat)) := r9
          exact yc hK (by go_simp) (rmadeQ_v wq r9) (fun u w1 hu w2 h2 => (hu).grow h2)
        refine pl 6 77 true rfl (by kernel_rfl) (fun _ _ h => h) (fun lq aq wq hk hr K hK => ?_) ?_
        · obtain ⟨v8, E8, r8⟩ := hk.dp hr 8 79 (by kernel_rfl)
          have r8 : RV wq v8 (((k : Int) : Rat)) := r8
          obtain ⟨v10, E10, r10⟩ := hk.dp hr 10 81 (by kernel_rfl)
          have r10 : RV wq v10 (((k : Int) : Rat)) := r10
          exact yc hK (by go_simp) (lsameR_v wq r8 r10 (t := true) (decide_eq_true rfl)) (fun u w1 hu w2 h2 => hu)
        refine po rfl (fun lq aq wq hk hr K hK => ?_) ?_
        · have E6 : ev aq (.tmp 77) = .bool true := hk.dc hr 6 (by kernel_rfl) fun _ _ h => h
          have E11 : ev aq (.tmp 82) = .bool true := hk.dc hr 11 (by kernel_rfl) fun _ _ h => h
          exact vc hK (by go_simp) (fun w2 h2 => rfl)
        refine po rfl (fun lq aq wq hk hr K hK => ?_) ?_
        · have E12 : ev aq (.tmp 83) = .bool true := hk.dc hr 12 (by kernel_rfl) fun _ _ h => h
          exact vc hK (by go_simp) (fun w2 h2 => rfl)
        refine pl 13 84 true rfl (by kernel_rfl) (fun _ _ h => h) (fun lq aq wq hk hr K hK => ?_) ?_
        · exact yc hK (by go_simp) (qworks_v wq (HL.out.below (HB.out.trans (Below.mono (grows_of hk.ext) HB.out.size)))) (fun u w1 hu w2 h2 => hu)
        refine po rfl (fun lq aq wq hk hr K hK => ?_) ?_
        · have E13 : ev aq (.tmp 84) = .bool true := hk.dc hr 13 (by kernel_rfl) fun _ _ h => h
          have E14 : ev aq (.tmp 85) = .bool true := hk.dc hr 14 (by kernel_rfl) fun _ _ h => h
          exact vc hK (by go_simp) (fun w2 h2 => rfl)
        exact AllOps.nil
      intro V x9 hG hV hap
      have r15 : (V 15) = .bool true := hV 15 (by decide)
      clear hV hap
      simp only [List.take_succ_cons, List.take_zero, List.drop_succ_cons, List.drop_zero, putAll, Act.put, List.setIfInBounds_toArray, List.set_cons_zero, List.set_cons_succ]
      have hb := grows_of hG
      replace D0 := Lib.hid (D0.out.below hb)
      replace SN0 := Lib.hid (SN0.out.below hb)
      replace D1 := Lib.hid (D1.out.below hb)
      replace SN1 := Lib.hid (SN1.out.below hb)
      replace Dq := Lib.hid (Dq.out.below hb)
      replace SNq := Lib.hid (SNq.out.below hb)
      replace SDq := Lib.hid (SDq.out.below hb)
      replace Ds1 := Lib.hid (Ds1.out.below hb)
      replace SNs1 := Lib.hid (SNs1.out.below hb)
      replace SDs1 := Lib.hid (SDs1.out.below hb)
      replace HB := Lib.hid (HB.out.trans (Below.mono hb HB.out.size))
      clear hb hG
      rw [r15]
      clear r15
      go_wp2_with fail
      go_ret
      exact ⟨rfl, HB.out⟩
    · skip
      obtain ⟨a, ha⟩ : ∃ a : Nat, a = k.natAbs := ⟨_, rfl⟩
      have hlt : a < 18446744073709551616 := by omega
      have hz : k = (a : Int) := by omega
      have HZ := Lib.hid (show sg false a = k by rw [sg_false, hz])
      have hw1 := Lib.hid (show IntKind.u64.wrap k = (a : Int) by rw [IntKind.wrap_u64]; omega)
      clear hz
      have hm5 := Lib.hid (show ((a : Int) / 4294967296) % 4294967296 = (a : Int) / 4294967296 by omega)
      have hlt9 := Lib.hid hlt
      clear ha hlt
      replace hkk := Lib.hid hkk
      go_upto_region 8 with fail
      refine wp_region_calm 2 [] ([fun vq _ => vq = .int .i64 k,
          fun vq _ => vq = .int .u64 (a : Int)]) (by kernel_rfl) (by decide) ?_ ?_ ?_
      · intro j hj; cases hj
      · refine po rfl (fun lq aq wq hk hr K hK => ?_) ?_
        · have B2 : ev aq (.tmp 2) = .int .i64 k := hk.base 2 (by kernel_rfl) rfl
          exact vc hK (by go_simp) (fun w2 h2 => rfl)
        refine po rfl (fun lq aq wq hk hr K hK => ?_) ?_
        · have E0 : ev aq (.tmp 55) = .int .i64 k := hk.dc hr 0 (by kernel_rfl) fun _ _ h => h
          exact vc hK (by first | (go_simp; done) | (have h9 := hw1.out; go_simp; done) | (have h9 := hw1.out; go_simp; exact h9)) (fun w2 h2 => rfl)
        exact AllOps.nil
      intro V x4 hG hV hap
      have r1 : (V 1) = .int .u64 (a : Int) := hV 1 (by decide)
      clear hV hap
      simp only [List.take_succ_cons, List.take_zero, List.drop_succ_cons, List.drop_zero, putAll, Act.put, List.setIfInBounds_toArray, List.set_cons_zero, List.set_cons_succ]
      have hb := (show Below _ _ _ from hG)
      replace D0 := Lib.hid (D0.out.below hb)
      replace SN0 := Lib.hid (SN0.out.below hb)
      replace D1 := Lib.hid (D1.out.below hb)
      replace SN1 := Lib.hid (SN1.out.below hb)
      replace Dq := Lib.hid (Dq.out.below hb)
      replace SNq := Lib.hid (SNq.out.below hb)
      replace SDq := Lib.hid (SDq.out.below hb)
      replace HB := Lib.hid (HB.out.trans (Below.mono hb HB.out.size))
      clear hb hG
      rw [r1]
      clear r1
      go_upto_region 9 with fail
      refine wp_region_calm 2 [] ([fun vq _ => vq = .int .i64 k,
          fun vq _ => vq = .bool false]) (by kernel_rfl) (by decide) ?_ ?_ ?_
      · intro j hj; cases hj
      · refine po rfl (fun lq aq wq hk hr K hK => ?_) ?_
        · have B2 : ev aq (.tmp 2) = .int .i64 k := hk.base 2 (by kernel_rfl) rfl
          exact vc hK (by go_simp) (fun w2 h2 => rfl)
        refine po rfl (fun lq aq wq hk hr K hK => ?_) ?_
        · have E0 : ev aq (.tmp 57) = .int .i64 k := hk.dc hr 0 (by kernel_rfl) fun _ _ h => h
          exact vc hK (by first | (go_simp; done) | (go_simp; omega)) (fun w2 h2 => rfl)
        exact AllOps.nil
      intro V x5 hG hV hap
      have r1 : (V 1) = .bool false := hV 1 (by decide)
      clear hV hap
      simp only [List.take_succ_cons, List.take_nil, List.drop_succ_cons, List.drop_nil, putAll, Act.put, List.setIfInBounds_toArray, List.set_cons_zero, List.set_cons_succ]
      have hb := (show Below _ _ _ from hG)
      replace D0 := Lib.hid (D0.out.below hb)
      replace SN0 := Lib.hid (SN0.out.below hb)
      replace D1 := Lib.hid (D1.out.below hb)
      replace SN1 := Lib.hid (SN1.out.below hb)
      replace Dq := Lib.hid (Dq.out.below hb)
      replace SNq := Lib.hid (SNq.out.below hb)
      replace SDq := Lib.hid (SDq.out.below hb)
      replace HB := Lib.hid (HB.out.trans (Below.mono hb HB.out.size))
      clear hb hG
      rw [r1]
      clear r1
      go_upto_region 11 with fail
      have lw0 := D0.out.lt
      have lw1 := D1.out.lt
      have lwq := Dq.out.lt
      refine wp_region_calm 11 [10] ([fun vq _ => vq = .int .i64 k,
          fun vq _ => vq = .bool false,
          fun vq _ => vq = .int .u64 (a : Int),
          fun vq _ => vq = .int .u32 ((a : Int) % 4294967296),
          fun vq _ => vq = .int .u64 (a : Int),
          fun vq _ => vq = .int .u64 ((a : Int) / 4294967296),
          fun vq _ => vq = .int .u32 ((a : Int) / 4294967296),
          fun vq wq => LV wq vq ([a % 4294967296, a / 4294967296]) a,
          fun vq wq => WV wq vq k,
          fun vq wq => QV wq vq (((k : Int) : Rat)),
          fun vq wq => ∃ bq, vq = .pointer (some ⟨bq, 0, none⟩) ∧ BoxN wq bq 26 #[.bool false, .slice none 0 0, .slice none 0 0] ∧ (x5).heap.size ≤ bq]) (by kernel_rfl) (by decide) ?_ ?_ ?_
      · intro j hj v w h
        simp only [List.mem_cons, List.not_mem_nil, or_false] at hj
        subst hj
        all_goals (obtain ⟨b, rfl, hB, _⟩ := h; exact hB.lt)
      · refine po rfl (fun lq aq wq hk hr K hK => ?_) ?_
        · have B2 : ev aq (.tmp 2) = .int .i64 k := hk.base 2 (by kernel_rfl) rfl
          exact vc hK (by go_simp) (fun w2 h2 => rfl)
        refine po rfl (fun lq aq wq hk hr K hK => ?_) ?_
        · have E0 : ev aq (.tmp 61) = .int .i64 k := hk.dc hr 0 (by kernel_rfl) fun _ _ h => h
          exact vc hK (by first | (go_simp; done) | (go_simp; omega)) (fun w2 h2 => rfl)
        refine po rfl (fun lq aq wq hk hr K hK => ?_) ?_
        · have B9 : ev aq (.tmp 9) = .int .u64 (a : Int) := hk.base 9 (by kernel_rfl) rfl
          exact vc hK (by go_simp) (fun w2 h2 => rfl)
        refine po rfl (fun lq aq wq hk hr K hK => ?_) ?_
        · have E2 : ev aq (.tmp 63) = .int .u64 (a : Int) := hk.dc hr 2 (by kernel_rfl) fun _ _ h => h
          exact vc hK (by first | (go_simp; done) | (go_simp; exact IntKind.wrap_u32 _)) (fun w2 h2 => rfl)
        refine po rfl (fun lq aq wq hk hr K hK => ?_) ?_
        · have B9 : ev aq (.tmp 9) = .int .u64 (a : Int) := hk.base 9 (by kernel_rfl) rfl
          exact vc hK (by go_simp) (fun w2 h2 => rfl)
        refine po rfl (fun lq aq wq hk hr K hK => ?_) ?_
        · have E4 : ev aq (.tmp 65) = .int .u64 (a : Int) := hk.dc hr 4 (by kernel_rfl) fun _ _ h => h
          exact vc hK (by first | (go_simp; done) | (have h9 := hm5.out; go_simp; done) | (have h9 := hm5.out; go_simp; exact h9)) (fun w2 h2 => rfl)
        refine po rfl (fun lq aq wq hk hr K hK => ?_) ?_
        · have E5 : ev aq (.tmp 66) = .int .u64 ((a : Int) / 4294967296) := hk.dc hr 5 (by kernel_rfl) fun _ _ h => h
          exact vc hK (by first | (go_simp; done) | (have h9 := hm5.out; go_simp; done) | (have h9 := hm5.out; go_simp; exact h9)) (fun w2 h2 => rfl)
        refine po rfl (fun lq aq wq hk hr K hK => ?_) ?_
        · have E3 : ev aq (.tmp 64) = .int .u32 ((a : Int) % 4294967296) := hk.dc hr 3 (by kernel_rfl) fun _ _ h => h
          have E6 : ev aq (.tmp 67) = .int .u32 ((a : Int) / 4294967296) := hk.dc hr 6 (by kernel_rfl) fun _ _ h => h
          exact wp_of_value (by go_simp) (hK.out _ _ ((Grows.refl _).alloc _) (fun w2 h2 => (lit_64 wq 43 a hlt9.out).grow h2) (fun h => absurd h (by decide)))
        refine po rfl (fun lq aq wq hk hr K hK => ?_) ?_
        · have E1 : ev aq (.tmp 62) = .bool false := hk.dc hr 1 (by kernel_rfl) fun _ _ h => h
          obtain ⟨v7, E7, r7⟩ := hk.dp hr 7 68 (by kernel_rfl)
          have r7 : LV wq v7 ([a % 4294967296, a / 4294967296]) a := r7
          obtain ⟨A7, c7, rfl, hnd⟩ := r7
          exact vc hK (by go_simp) (fun w2 h2 => (wv_lit false hnd (Nat.le_of_ble_eq_true rfl) HZ.out).grow h2)
        refine po rfl (fun lq aq wq hk hr K hK => ?_) ?_
        · obtain ⟨v8, E8, r8⟩ := hk.dp hr 8 69 (by kernel_rfl)
          obtain ⟨n8, A8, k8, c8, rfl, s8⟩ := r8
          exact vc hK (op_ratN 69 E8) (fun w2 h2 => (qv_whole s8).grow h2)
        refine po rfl (fun lq aq wq hk hr K hK => ?_) ?_
        · exact wp_of_value (by go_simp) (hK.out _ _ ((Grows.refl _).alloc _) (fun w2 h2 => ⟨_, rfl, (BoxN.new wq 26 _).below h2, hk.ext.size⟩) (fun _ => Nat.le_refl _))
        exact AllOps.nil
      intro V x6 hG hV hap
      have r9 : QV x6 (V 9) (((k : Int) : Rat)) := hV 9 (by decide)
      have r10 : ∃ bq, (V 10) = .pointer (some ⟨bq, 0, none⟩) ∧ BoxN x6 bq 26 #[.bool false, .slice none 0 0, .slice none 0 0] ∧ (x5).heap.size ≤ bq := hV 10 (by decide)
      clear hV
      simp only [List.take_succ_cons, List.take_zero, List.drop_succ_cons, List.drop_zero, putAll, Act.put, List.setIfInBounds_toArray, List.set_cons_zero, List.set_cons_succ]
      have hb := (show Below _ _ _ from hG)
      obtain ⟨bs1, es1, Ds1, gs1⟩ := r10
      obtain ⟨ns1, As1, ks1, cs1, Bs1, js1, ds1, es19, zs1, ls1, as1, ss1, ts1, hls1, es18⟩ := r9
      simp only [es1, es19]
      clear es1 es19 hap hG
      have hks1 : szz zs1 ≤ 1000 := ss1.size
      replace Ds1 : Box3 _ bs1 26 (.bool false) (.slice none 0 0) (.slice none 0 0) := Ds1
      refine wpList_of_skip rfl (op_store3 10 70 _ rfl rfl Ds1) ?_
      have hB := put3_below (x' := .bool ns1) (y' := .slice As1 ks1 cs1) (z' := .slice Bs1 js1 ds1) hb gs1
      replace ss1 := ss1.put3 Ds1 (.bool ns1) (.slice As1 ks1 cs1) (.slice Bs1 js1 ds1)
      replace ts1 := ts1.put3 Ds1 (.bool ns1) (.slice As1 ks1 cs1) (.slice Bs1 js1 ds1)
      replace Ds1 := put3_own (x' := .bool ns1) (y' := .slice As1 ks1 cs1) (z' := .slice Bs1 js1 ds1) Ds1
      clear hb
      generalize put3 x6 bs1 (.bool ns1) (.slice As1 ks1 cs1) (.slice Bs1 js1 ds1) = y7 at *
      replace D0 := Lib.hid (D0.out.below hB)
      replace SN0 := Lib.hid (SN0.out.below hB)
      replace D1 := Lib.hid (D1.out.below hB)
      replace SN1 := Lib.hid (SN1.out.below hB)
      replace Dq := Lib.hid (Dq.out.below hB)
      replace SNq := Lib.hid (SNq.out.below hB)
      replace SDq := Lib.hid (SDq.out.below hB)
      replace HB := Lib.hid (HB.out.trans (Below.mono hB HB.out.size))
      replace lw0 := Nat.lt_of_lt_of_le lw0 gs1
      replace lw1 := Nat.lt_of_lt_of_le lw1 gs1
      replace lwq := Nat.lt_of_lt_of_le lwq gs1
      replace Ds1 := Lib.hid Ds1
      have SNs1 := Lib.hid ss1
      have SDs1 := Lib.hid ts1
      clear hB gs1 ss1 ts1
      go_upto_region 12 with fail
      refine wp_region_going 16 [] ([fun vq wq => WV wq vq x,
          fun vq wq => RV wq vq (((x : Int) : Rat)),
          fun vq wq => WV wq vq x,
          fun vq wq => QV wq vq (((x : Int) : Rat)),
          fun vq wq => RV wq vq (((x : Int) : Rat)),
          fun vq _ => vq = .bool true,
          fun vq _ => vq = .bool true,
          fun vq _ => vq = .int .i64 k,
          fun vq wq => RV wq vq (((k : Int) : Rat)),
          fun vq wq => QV wq vq (((k : Int) : Rat)),
          fun vq wq => RV wq vq (((k : Int) : Rat)),
          fun vq _ => vq = .bool true,
          fun vq _ => vq = .bool true,
          fun vq _ => vq = .bool true,
          fun vq _ => vq = .bool true,
          fun vq _ => vq = .bool true]) (by kernel_rfl) (by kernel_rfl) (by decide) (by kernel_rfl) (by kernel_rfl) ?_ ?_ ?_
      · intro j hj; cases hj
      · refine po rfl (fun lq aq wq hk hr K hK => ?_) ?_
        · have B3 : ev aq (.tmp 3) = .pointer (some ⟨w.heap.size, 0, none⟩) := hk.base 3 (by kernel_rfl) rfl
          have hb := grows_of hk.ext
          exact vc hK (op_load 3 _ B3 (D0.out.below hb)) (fun w2 h2 => ⟨_, _, _, _, rfl, (SN0.out.below hb).below h2⟩)
        refine po rfl (fun lq aq wq hk hr K hK => ?_) ?_
        · obtain ⟨v0, E0, r0⟩ := hk.dp hr 0 71 (by kernel_rfl)
          have r0 : WV wq v0 x := r0
          exact yc hK (by go_simp) (int_v wq r0) (fun u w1 hu w2 h2 => (hu).grow h2)
        refine po rfl (fun lq aq wq hk hr K hK => ?_) ?_
        · have B3 : ev aq (.tmp 3) = .pointer (some ⟨w.heap.size, 0, none⟩) := hk.base 3 (by kernel_rfl) rfl
          have hb := grows_of hk.ext
          exact vc hK (op_load 3 _ B3 (D0.out.below hb)) (fun w2 h2 => ⟨_, _, _, _, rfl, (SN0.out.below hb).below h2⟩)
        refine po rfl (fun lq aq wq hk hr K hK => ?_) ?_
        · obtain ⟨v2, E2, r2⟩ := hk.dp hr 2 73 (by kernel_rfl)
          obtain ⟨n2, A2, k2, c2, rfl, s2⟩ := r2
          exact vc hK (op_ratN 73 E2) (fun w2 h2 => (qv_whole s2).grow h2)
        refine po rfl (fun lq aq wq hk hr K hK => ?_) ?_
        · obtain ⟨v3, E3, r3⟩ := hk.dp hr 3 74 (by kernel_rfl)
          have r3 : QV wq v3 (((x : Int) : Rat)) := r3
          exact yc hK (by go_simp) (rmadeQ_v wq r3) (fun u w1 hu w2 h2 => (hu).grow h2)
        refine po rfl (fun lq aq wq hk hr K hK => ?_) ?_
        · obtain ⟨v1, E1, r1⟩ := hk.dp hr 1 72 (by kernel_rfl)
          have r1 : RV wq v1 (((x : Int) : Rat)) := r1
          obtain ⟨v4, E4, r4⟩ := hk.dp hr 4 75 (by kernel_rfl)
          have r4 : RV wq v4 (((x : Int) : Rat)) := r4
          exact yc hK (by go_simp) (lsameR_v wq r1 r4 (t := true) (decide_eq_true rfl)) (fun u w1 hu w2 h2 => hu)
        refine po rfl (fun lq aq wq hk hr K hK => ?_) ?_
        · have E5 : ev aq (.tmp 76) = .bool true := hk.dc hr 5 (by kernel_rfl) fun _ _ h => h
          exact vc hK (by go_simp) (fun w2 h2 => rfl)
        refine pl 6 77 true rfl (by kernel_rfl) (fun _ _ h => h) (fun lq aq wq hk hr K hK => ?_) ?_
        · have B2 : ev aq (.tmp 2) = .int .i64 k := hk.base 2 (by kernel_rfl) rfl
          exact vc hK (by go_simp) (fun w2 h2 => rfl)
        refine pl 6 77 true rfl (by kernel_rfl) (fun _ _ h => h) (fun lq aq wq hk hr K hK => ?_) ?_
        · have E7 : ev aq (.tmp 78) = .int .i64 k := hk.dc hr 7 (by kernel_rfl) fun _ _ h => h
          exact yc hK (by go_simp) (rfrom_v wq k hk2 hk3) (fun u w1 hu w2 h2 => (hu).grow h2)
        refine pl 6 77 true rfl (by kernel_rfl) (fun _ _ h => h) (fun lq aq wq hk hr K hK => ?_) ?_
        · have B10 : ev aq (.tmp 10) = .pointer (some ⟨bs1, 0, none⟩) := hk.base 10 (by kernel_rfl) rfl
          have hb := grows_of hk.ext
          exact vc hK (op_load3 10 _ B10 (Ds1.out.below hb)) (fun w2 h2 => QV.grow ⟨_, _, _, _, _, _, _, rfl, _, _, _, (SNs1.out.below hb), (SDs1.out.below hb), hls1, es18⟩ h2)
        refine pl 6 77 true rfl (by kernel_rfl) (fun _ _ h => h) (fun lq aq wq hk hr K hK => ?_) ?_
        · obtain ⟨v9, E9, r9⟩ := hk.dp hr 9 80 (by kernel_rfl)
          have r9 : QV wq v9 (((k : Int) : Rat)) := r9
          exact yc hK (by go_simp) (rmadeQ_v wq r9) (fun u w1 hu w2 h2 => (hu).grow h2)
        refine pl 6 77 true rfl (by kernel_rfl) (fun _ _ h => h) (fun lq aq wq hk hr K hK => ?_) ?_
        · obtain ⟨v8, E8, r8⟩ := hk.dp hr 8 79 (by kernel_rfl)
          have r8 : RV wq v8 (((k : Int) : Rat)) := r8
          obtain ⟨v10, E10, r10⟩ := hk.dp hr 10 81 (by kernel_rfl)
          have r10 : RV wq v10 (((k : Int) : Rat)) := r10
          exact yc hK (by go_simp) (lsameR_v wq r8 r10 (t := true) (decide_eq_true rfl)) (fun u w1 hu w2 h2 => hu)
        refine po rfl (fun lq aq wq hk hr K hK => ?_) ?_
        · have E6 : ev aq (.tmp 77) = .bool true := hk.dc hr 6 (by kernel_rfl) fun _ _ h => h
          have E11 : ev aq (.tmp 82) = .bool true := hk.dc hr 11 (by kernel_rfl) fun _ _ h => h
          exact vc hK (by go_simp) (fun w2 h2 => rfl)
        refine po rfl (fun lq aq wq hk hr K hK => ?_) ?_
        · have E12 : ev aq (.tmp 83) = .bool true := hk.dc hr 12 (by kernel_rfl) fun _ _ h => h
          exact vc hK (by go_simp) (fun w2 h2 => rfl)
        refine pl 13 84 true rfl (by kernel_rfl) (fun _ _ h => h) (fun lq aq wq hk hr K hK => ?_) ?_
        · exact yc hK (by go_simp) (qworks_v wq (HL.out.below (HB.out.trans (Below.mono (grows_of hk.ext) HB.out.size)))) (fun u w1 hu w2 h2 => hu)
        refine po rfl (fun lq aq wq hk hr K hK => ?_) ?_
        · have E13 : ev aq (.tmp 84) = .bool true := hk.dc hr 13 (by kernel_rfl) fun _ _ h => h
          have E14 : ev aq (.tmp 85) = .bool true := hk.dc hr 14 (by kernel_rfl) fun _ _ h => h
          exact vc hK (by go_simp) (fun w2 h2 => rfl)
        exact AllOps.nil
      intro V x8 hG hV hap
      have r15 : (V 15) = .bool true := hV 15 (by decide)
      clear hV hap
      simp only [List.take_succ_cons, List.take_zero, List.drop_succ_cons, List.drop_zero, putAll, Act.put, List.setIfInBounds_toArray, List.set_cons_zero, List.set_cons_succ]
      have hb := grows_of hG
      replace D0 := Lib.hid (D0.out.below hb)
      replace SN0 := Lib.hid (SN0.out.below hb)
      replace D1 := Lib.hid (D1.out.below hb)
      replace SN1 := Lib.hid (SN1.out.below hb)
      replace Dq := Lib.hid (Dq.out.below hb)
      replace SNq := Lib.hid (SNq.out.below hb)
      replace SDq := Lib.hid (SDq.out.below hb)
      replace Ds1 := Lib.hid (Ds1.out.below hb)
      replace SNs1 := Lib.hid (SNs1.out.below hb)
      replace SDs1 := Lib.hid (SDs1.out.below hb)
      replace HB := Lib.hid (HB.out.trans (Below.mono hb HB.out.size))
      clear hb hG
      rw [r15]
      clear r15
      go_wp2_with fail
      go_ret
      exact ⟨rfl, HB.out⟩
end Go.Proofs.YtbippecchpaleaaGreatDoor
