import Derived.Test.YtbippecchpaleaaGreatDoorGRatF
import Derived.Test.YtbippecchpaleaaGreatDoorKept3
/- litmuslaw03.RatKnown returns true. -/
namespace Go.Num
open Go Go.RowKit Go.Kp Go.Proofs.YtbippecchpaleaaGreatDoor
/-- A whole number by its rows. -/
def IL (w : World) (v : Value) (n : Bool) (l : List Nat) : Prop := ∃ A c, v = .agg #[.bool n, .slice A l.length c] ∧ Num w (.slice A l.length c) l (val l)
theorem IL.grow {w w' : World} {v : Value} {n : Bool} {l : List Nat} (h : IL w v n l) (hb : Grows w w') : IL w' v n l := by
  obtain ⟨A, c, e, q⟩ := h
  exact ⟨A, c, e, q.below hb⟩
theorem wv_none (w : World) (n : Bool) : WV w (.agg #[.bool n, .slice none 0 0]) 0 := ⟨n, none, 0, 0, rfl, [], 0, by have h := (Sound.nil_ w 0).num; rwa [show (0 : Int).natAbs = 0 from rfl, limbs_zero] at h, by decide, (sg_zero n).symm⟩
theorem not_z1 {t : List UInt8} (h : goodText t = false ∨ tval 0 t = 0) (z : Int) : 45 :: t ≠ ztext z := fun e => by
  by_cases hz : z < 0
  · rw [ztext_neg hz] at e
    have e1 : t = dec z.natAbs := by simpa using e
    subst e1
    rcases h with h | h
    · rw [goodText_dec] at h; cases h
    · rw [tval_dec] at h; omega
  · rw [ztext_pos hz] at e
    exact good_head (goodText_dec z.natAbs) (by rw [← e]; rfl)
theorem not_z2 {l : List UInt8} (h0 : l.head? ≠ some 45) (h : goodText l = false) (z : Int) : l ≠ ztext z := fun e => by
  subst e
  by_cases hz : z < 0
  · rw [ztext_neg hz] at h0; exact h0 rfl
  · rw [ztext_pos hz, goodText_dec] at h; cases h
theorem not_n {l : List UInt8} (h : goodText l = false) (a : Nat) : l ≠ dec a := fun e => by
  subst e; rw [goodText_dec] at h; cases h
end Go.Num
namespace Go.Proofs.YtbippecchpaleaaGreatDoor
open Go.RowKit Go.Num Go.Kp
attribute [local go_sem] Oper.semAt_some u64_mask ev_const ev_func ev_global
theorem kf1 : Qsz (lrat true [0] [0, 0]) 1 := Qsz.lit (by decide +kernel) (by decide +kernel)
theorem kf2 : Qsz (lrat false [0, 2] [0, 4]) 1 := Qsz.lit (by decide +kernel) (by decide +kernel)
theorem kf3 : ReadsZ [45, 48] 0 false := .inr ⟨rfl, rfl, not_z1 (.inr (by decide))⟩
theorem kf4 : ReadsQ [45, 48] 0 false := reads_no1 kf3 (by decide) (fun h => absurd h (by decide))
theorem kf5 : ((mkRat (1) (dn 0)) : Rat).num = 1 := by decide +kernel
theorem kf6 : ((mkRat (1) (dn 0)) : Rat).den = 1 := by decide +kernel
theorem kf7 : qtext (mkRat (1) (dn 0)) = [49] := by rw [qtext_lit (1) 1 kf5 kf6]; first | rfl | simp [ztext, dec, decs, vdig_pos, vdig_zero, Num.byteOf]
theorem kf8 : ByteArray.mk (qtext (mkRat (1) (dn 0))).toArray = ⟨#[49]⟩ := congrArg (fun l : List UInt8 => ByteArray.mk l.toArray) kf7
theorem kf9 : ReadsZ [49] (1) true := .inl ⟨rfl, by first | rfl | simp [ztext, dec, decs, vdig_pos, vdig_zero, Num.byteOf], sz_le (Nat.lt_of_lt_of_le (show _ < 4294967296 ^ 1 by decide) (by decide))⟩
theorem kf10 : ReadsN [48] 0 true := .inl ⟨rfl, by first | rfl | simp [dec, decs, vdig_pos, vdig_zero, Num.byteOf], sz_le (Nat.lt_of_lt_of_le (show _ < 4294967296 ^ 1 by decide) (by decide))⟩
theorem kf11 : ReadsQ [49, 47, 48] 0 false := reads_no2 (h := [49]) (t := [48]) kf9 kf10 (by decide) (fun _ _ => by rw [kf7]; decide)
theorem kf12 : ReadsN [45, 50] 0 false := .inr ⟨rfl, rfl, not_n (by decide)⟩
theorem kf13 : ReadsQ [49, 47, 45, 50] 0 false := reads_no2 (h := [49]) (t := [45, 50]) kf9 kf12 (by decide) (fun _ h => absurd h (by decide))
theorem kf14 : ReadsZ [] 0 false := .inr ⟨rfl, rfl, not_z2 (by decide) (by decide)⟩
theorem kf15 : ReadsQ [] 0 false := reads_no1 kf14 (by decide) (fun h => absurd h (by decide))
theorem kf16 : ReadsN [50] 2 true := .inl ⟨rfl, by first | rfl | simp [dec, decs, vdig_pos, vdig_zero, Num.byteOf], sz_le (Nat.lt_of_lt_of_le (show _ < 4294967296 ^ 1 by decide) (by decide))⟩
theorem kf17 : ReadsQ [47, 50] 0 false := reads_no2 (h := []) (t := [50]) kf14 kf16 (by decide) (fun h => absurd h (by decide))
theorem kf18 : ((mkRat (0) (dn 1)) : Rat).num = 0 := by decide +kernel
theorem kf19 : ((mkRat (0) (dn 1)) : Rat).den = 1 := by decide +kernel
theorem kf20 : qtext (mkRat (0) (dn 1)) = [48] := by rw [qtext_lit (0) 1 kf18 kf19]; first | rfl | simp [ztext, dec, decs, vdig_pos, vdig_zero, Num.byteOf]
theorem kf21 : ByteArray.mk (qtext (mkRat (0) (dn 1))).toArray = ⟨#[48]⟩ := congrArg (fun l : List UInt8 => ByteArray.mk l.toArray) kf20
theorem kf22 : ReadsZ [48] (0) true := .inl ⟨rfl, by first | rfl | simp [ztext, dec, decs, vdig_pos, vdig_zero, Num.byteOf], sz_le (Nat.lt_of_lt_of_le (show _ < 4294967296 ^ 1 by decide) (by decide))⟩
theorem kf23 : ReadsN [49] 1 true := .inl ⟨rfl, by first | rfl | simp [dec, decs, vdig_pos, vdig_zero, Num.byteOf], sz_le (Nat.lt_of_lt_of_le (show _ < 4294967296 ^ 1 by decide) (by decide))⟩
theorem kf24 : ReadsQ [48] (mkRat (0) (dn 1)) true := reads_yes kf22.sz kf23.sz kf20
theorem kf25 : Qsz (mkRat (0) (dn 1)) 1 := Qsz.lit (by decide +kernel) (by decide +kernel)
theorem kf26 : lright true [0] [0, 0] = false := by unfold lright; rw [show (lrat true [0] [0, 0]).num = 0 from by decide +kernel]; rfl
theorem kf27 : lright false [0, 2] [0, 4] = false := by unfold lright; rw [show (lrat false [0, 2] [0, 4]).num = 1 from by decide +kernel]; simp [limbs_pos, limbs_zero]
theorem kf28 : lright false [] [] = false := by unfold lright; rw [show (lrat false [] []).num = 0 from by decide +kernel, show (lrat false [] []).den = 1 from by decide +kernel]; simp [limbs_pos, limbs_zero]
theorem kf29 : Int.sign (lrat true [0] [0, 0]).num = 0 := by decide +kernel
theorem kf30 : ((lrat true [0] [0, 0]) : Rat).num = 0 := by decide +kernel
theorem kf31 : ((lrat true [0] [0, 0]) : Rat).den = 1 := by decide +kernel
theorem kf32 : qtext (lrat true [0] [0, 0]) = [48] := by rw [qtext_lit (0) 1 kf30 kf31]; first | rfl | simp [ztext, dec, decs, vdig_pos, vdig_zero, Num.byteOf]
theorem kf33 : ByteArray.mk (qtext (lrat true [0] [0, 0])).toArray = ⟨#[48]⟩ := congrArg (fun l : List UInt8 => ByteArray.mk l.toArray) kf32
theorem kf34 : ((lrat false [0, 2] [0, 4]) : Rat).num = 1 := by decide +kernel
theorem kf35 : ((lrat false [0, 2] [0, 4]) : Rat).den = 2 := by decide +kernel
theorem kf36 : qtext (lrat false [0, 2] [0, 4]) = [49, 47, 50] := by rw [qtext_lit (1) 2 kf34 kf35]; first | rfl | simp [ztext, dec, decs, vdig_pos, vdig_zero, Num.byteOf]
theorem kf37 : ByteArray.mk (qtext (lrat false [0, 2] [0, 4])).toArray = ⟨#[49, 47, 50]⟩ := congrArg (fun l : List UInt8 => ByteArray.mk l.toArray) kf36
theorem kf38 : ((-(lrat false [0, 2] [0, 4])) : Rat).num = -1 := by decide +kernel
theorem kf39 : ((-(lrat false [0, 2] [0, 4])) : Rat).den = 2 := by decide +kernel
theorem kf40 : qtext (-(lrat false [0, 2] [0, 4])) = [45, 49, 47, 50] := by rw [qtext_lit (-1) 2 kf38 kf39]; first | rfl | simp [ztext, dec, decs, vdig_pos, vdig_zero, Num.byteOf]
theorem kf41 : ByteArray.mk (qtext (-(lrat false [0, 2] [0, 4]))).toArray = ⟨#[45, 49, 47, 50]⟩ := congrArg (fun l : List UInt8 => ByteArray.mk l.toArray) kf40
theorem kf42 : Int.sign (mkRat (0) (dn 1)).num = 0 := by decide +kernel
theorem kf43 : ((((-9223372036854775808) : Int) : Rat) : Rat).num = -9223372036854775808 := by decide +kernel
theorem kf44 : ((((-9223372036854775808) : Int) : Rat) : Rat).den = 1 := by decide +kernel
theorem kf45 : qtext (((-9223372036854775808) : Int) : Rat) = [45, 57, 50, 50, 51, 51, 55, 50, 48, 51, 54, 56, 53, 52, 55, 55, 53, 56, 48, 56] := by rw [qtext_lit (-9223372036854775808) 1 kf43 kf44]; first | rfl | simp [ztext, dec, decs, vdig_pos, vdig_zero, Num.byteOf]
theorem kf46 : ByteArray.mk (qtext (((-9223372036854775808) : Int) : Rat)).toArray = ⟨#[45, 57, 50, 50, 51, 51, 55, 50, 48, 51, 54, 56, 53, 52, 55, 55, 53, 56, 48, 56]⟩ := congrArg (fun l : List UInt8 => ByteArray.mk l.toArray) kf45
theorem kf47 : (((((-9223372036854775808) : Int) : Rat) - ((1 : Int) : Rat)) : Rat).num = -9223372036854775809 := by decide +kernel
theorem kf48 : (((((-9223372036854775808) : Int) : Rat) - ((1 : Int) : Rat)) : Rat).den = 1 := by decide +kernel
theorem kf49 : qtext ((((-9223372036854775808) : Int) : Rat) - ((1 : Int) : Rat)) = [45, 57, 50, 50, 51, 51, 55, 50, 48, 51, 54, 56, 53, 52, 55, 55, 53, 56, 48, 57] := by rw [qtext_lit (-9223372036854775809) 1 kf47 kf48]; first | rfl | simp [ztext, dec, decs, vdig_pos, vdig_zero, Num.byteOf]
theorem kf50 : ByteArray.mk (qtext ((((-9223372036854775808) : Int) : Rat) - ((1 : Int) : Rat))).toArray = ⟨#[45, 57, 50, 50, 51, 51, 55, 50, 48, 51, 54, 56, 53, 52, 55, 55, 53, 56, 48, 57]⟩ := congrArg (fun l : List UInt8 => ByteArray.mk l.toArray) kf49
set_option maxHeartbeats 16000000 in
set_option maxRecDepth 100000 in
theorem ratKnown_any (w : World)  (hlen : HasLen w)  : Calls Tryz.prog 4 #[] w fun e w' => e = .returned (.bool true) ∧ Below w.heap.size w w' := by
  go_enter Tryz.func4, Tryz.ntmps4
  go_upto_region 1 with fail
  have HB := Lib.hid (Below.refl w.heap.size w)
  have HL := Lib.hid hlen
  clear hlen
  refine wp_region_calm 2 [1] ([fun vq wq => RV wq vq (((0 : Int) : Rat)),
      fun vq wq => ∃ bq, vq = .pointer (some ⟨bq, 0, none⟩) ∧ BoxN wq bq 26 #[.bool false, .slice none 0 0, .slice none 0 0] ∧ (w).heap.size ≤ bq]) (by kernel_rfl) (by decide) ?_ ?_ ?_
  · intro j hj v w h
    simp only [List.mem_cons, List.not_mem_nil, or_false] at hj
    subst hj
    all_goals (obtain ⟨b, rfl, hB, _⟩ := h; exact hB.lt)
  · refine po rfl (fun lq aq wq hk hr K hK => ?_) ?_
    · exact cc hK (by go_simp) (rfrom_v wq 0 (by decide) (by decide)) (fun u w1 hu w2 h2 => (hu).grow h2)
    refine po rfl (fun lq aq wq hk hr K hK => ?_) ?_
    · exact wp_of_value (by go_simp) (hK.out _ _ ((Grows.refl _).alloc _) (fun w2 h2 => ⟨_, rfl, (BoxN.new wq 26 _).below h2, hk.ext.size⟩) (fun _ => Nat.le_refl _))
    exact AllOps.nil
  intro V x1 hG hV hap
  have r0 : RV x1 (V 0) (((0 : Int) : Rat)) := hV 0 (by decide)
  have r1 : ∃ bq, (V 1) = .pointer (some ⟨bq, 0, none⟩) ∧ BoxN x1 bq 26 #[.bool false, .slice none 0 0, .slice none 0 0] ∧ (w).heap.size ≤ bq := hV 1 (by decide)
  clear hV
  simp only [List.take_succ_cons, List.take_zero, List.drop_succ_cons, List.drop_zero, putAll, Act.put, List.setIfInBounds_toArray, List.set_cons_zero, List.set_cons_succ]
  have hb := (show Below _ _ _ from hG)
  obtain ⟨bz, ez, Dz, gz⟩ := r1
  obtain ⟨nz, Az, kz, cz, Bz, jz, dz, ez9, sz, tz, hdz⟩ := r0
  simp only [ez, ez9]
  clear ez ez9 hap hG
  replace Dz : Box3 _ bz 26 (.bool false) (.slice none 0 0) (.slice none 0 0) := Dz
  refine wpList_of_skip rfl (op_store3 1 21 _ rfl rfl Dz) ?_
  have hB := put3_below (x' := .bool nz) (y' := .slice Az kz cz) (z' := .slice Bz jz dz) hb gz
  replace sz := sz.put3 Dz (.bool nz) (.slice Az kz cz) (.slice Bz jz dz)
  replace tz := tz.put3 Dz (.bool nz) (.slice Az kz cz) (.slice Bz jz dz)
  replace Dz := put3_own (x' := .bool nz) (y' := .slice Az kz cz) (z' := .slice Bz jz dz) Dz
  clear hb
  generalize put3 x1 bz (.bool nz) (.slice Az kz cz) (.slice Bz jz dz) = y2 at *
  replace HB := Lib.hid (HB.out.trans (Below.mono hB HB.out.size))
  replace Dz := Lib.hid Dz
  have SNz := Lib.hid sz
  have SDz := Lib.hid tz
  clear hB gz sz tz
  go_upto_region 2 with fail
  have lwz := Dz.out.lt
  refine wp_region_calm 8 [7] ([fun vq wq => LV wq vq ([1]) 1,
      fun vq wq => WV wq vq 1,
      fun vq wq => WV wq vq 0,
      fun vq wq => ∃ u0, vq = .tuple #[u0, .int .i64 3] ∧ RV wq u0 (((0 : Int) : Rat)),
      fun vq wq => ∃ u0, vq = .tuple #[u0, .int .i64 3] ∧ RV wq u0 (((0 : Int) : Rat)),
      fun vq wq => RV wq vq (((0 : Int) : Rat)),
      fun vq _ => vq = .int .i64 3,
      fun vq wq => ∃ bq, vq = .pointer (some ⟨bq, 0, none⟩) ∧ BoxN wq bq 26 #[.bool false, .slice none 0 0, .slice none 0 0] ∧ (y2).heap.size ≤ bq]) (by kernel_rfl) (by decide) ?_ ?_ ?_
  · intro j hj v w h
    simp only [List.mem_cons, List.not_mem_nil, or_false] at hj
    subst hj
    all_goals (obtain ⟨b, rfl, hB, _⟩ := h; exact hB.lt)
  · refine po rfl (fun lq aq wq hk hr K hK => ?_) ?_
    · exact wp_of_value (by go_simp) (hK.out _ _ ((Grows.refl _).alloc _) (fun w2 h2 => (lit_lv wq 43 (cs := #[.int .u32 1]) (n := 1) [1] 1 rfl rfl (by decide) (by decide)).grow h2) (fun h => absurd h (by decide)))
    refine po rfl (fun lq aq wq hk hr K hK => ?_) ?_
    · obtain ⟨v0, E0, r0⟩ := hk.dp hr 0 23 (by kernel_rfl)
      have r0 : LV wq v0 ([1]) 1 := r0 wq (Grows.refl wq)
      obtain ⟨A0, c0, rfl, hnd⟩ := r0
      exact vc hK (by go_simp) (fun w2 h2 => (wv_lit false hnd (by decide) (by decide)).grow h2)
    refine po rfl (fun lq aq wq hk hr K hK => ?_) ?_
    · exact vc hK (by go_simp) (fun w2 h2 => (wv_none _ true).grow h2)
    refine po rfl (fun lq aq wq hk hr K hK => ?_) ?_
    · obtain ⟨v1, E1, r1⟩ := hk.dp hr 1 24 (by kernel_rfl)
      have r1 : WV wq v1 1 := r1 wq (Grows.refl wq)
      obtain ⟨v2, E2, r2⟩ := hk.dp hr 2 25 (by kernel_rfl)
      have r2 : WV wq v2 0 := r2 wq (Grows.refl wq)
      exact cc hK (by go_simp) (qof0_v wq r1 r2 rfl) (fun u w1 hu w2 h2 => (let ⟨u0, e0, h0⟩ := hu; ⟨u0, e0, (h0).grow h2⟩))
    refine po rfl (fun lq aq wq hk hr K hK => ?_) ?_
    · obtain ⟨v3, E3, r3⟩ := hk.dp hr 3 26 (by kernel_rfl)
      have r3 : ∃ u0, v3 = .tuple #[u0, .int .i64 3] ∧ RV wq u0 (((0 : Int) : Rat)) := r3 wq (Grows.refl wq)
      exact vc hK (by go_simp) (fun w2 h2 => (let ⟨u0, e0, h0⟩ := r3; ⟨u0, e0, (h0).grow h2⟩))
    refine po rfl (fun lq aq wq hk hr K hK => ?_) ?_
    · obtain ⟨v4, E4, r4⟩ := hk.dp hr 4 22 (by kernel_rfl)
      have r4 : ∃ u0, v4 = .tuple #[u0, .int .i64 3] ∧ RV wq u0 (((0 : Int) : Rat)) := r4 wq (Grows.refl wq)
      obtain ⟨u0, rfl, h0⟩ := r4
      exact vc hK (by go_simp) (fun w2 h2 => (h0).grow h2)
    refine po rfl (fun lq aq wq hk hr K hK => ?_) ?_
    · obtain ⟨v4, E4, r4⟩ := hk.dp hr 4 22 (by kernel_rfl)
      have r4 : ∃ u0, v4 = .tuple #[u0, .int .i64 3] ∧ RV wq u0 (((0 : Int) : Rat)) := r4 wq (Grows.refl wq)
      obtain ⟨u0, rfl, h0⟩ := r4
      exact vc hK (by go_simp) (fun w2 h2 => rfl)
    refine po rfl (fun lq aq wq hk hr K hK => ?_) ?_
    · exact wp_of_value (by go_simp) (hK.out _ _ ((Grows.refl _).alloc _) (fun w2 h2 => ⟨_, rfl, (BoxN.new wq 26 _).below h2, hk.ext.size⟩) (fun _ => Nat.le_refl _))
    exact AllOps.nil
  intro V x3 hG hV hap
  have r5 : RV x3 (V 5) (((0 : Int) : Rat)) := hV 5 (by decide)
  have r6 : (V 6) = .int .i64 3 := hV 6 (by decide)
  have r7 : ∃ bq, (V 7) = .pointer (some ⟨bq, 0, none⟩) ∧ BoxN x3 bq 26 #[.bool false, .slice none 0 0, .slice none 0 0] ∧ (y2).heap.size ≤ bq := hV 7 (by decide)
  clear hV
  simp only [List.take_succ_cons, List.take_zero, List.drop_succ_cons, List.drop_zero, putAll, Act.put, List.setIfInBounds_toArray, List.set_cons_zero, List.set_cons_succ]
  have hb := (show Below _ _ _ from hG)
  obtain ⟨bx, ex, Dx, gx⟩ := r7
  obtain ⟨nx, Ax, kx, cx, Bx, jx, dx, ex9, sx, tx, hdx⟩ := r5
  simp only [ex, ex9, r6]
  clear ex ex9 hap hG r6
  replace Dx : Box3 _ bx 26 (.bool false) (.slice none 0 0) (.slice none 0 0) := Dx
  refine wpList_of_skip rfl (op_store3 2 27 _ rfl rfl Dx) ?_
  have hB := put3_below (x' := .bool nx) (y' := .slice Ax kx cx) (z' := .slice Bx jx dx) hb gx
  replace sx := sx.put3 Dx (.bool nx) (.slice Ax kx cx) (.slice Bx jx dx)
  replace tx := tx.put3 Dx (.bool nx) (.slice Ax kx cx) (.slice Bx jx dx)
  replace Dx := put3_own (x' := .bool nx) (y' := .slice Ax kx cx) (z' := .slice Bx jx dx) Dx
  clear hb
  generalize put3 x3 bx (.bool nx) (.slice Ax kx cx) (.slice Bx jx dx) = y4 at *
  replace Dz := Lib.hid (Dz.out.below hB)
  replace SNz := Lib.hid (SNz.out.below hB)
  replace SDz := Lib.hid (SDz.out.below hB)
  replace HB := Lib.hid (HB.out.trans (Below.mono hB HB.out.size))
  replace lwz := Nat.lt_of_lt_of_le lwz gx
  replace Dx := Lib.hid Dx
  have SNx := Lib.hid sx
  have SDx := Lib.hid tx
  clear hB gx sx tx
  go_upto_region 3 with fail
  have lwz := Dz.out.lt
  have lwx := Dx.out.lt
  refine wp_region_calm 7 [6] ([fun vq wq => RV wq vq (((0 : Int) : Rat)),
      fun vq wq => QV wq vq ((0 : Rat)),
      fun vq wq => ∃ u0, vq = .tuple #[u0, .int .i64 3] ∧ RV wq u0 (((0 : Int) : Rat)),
      fun vq wq => ∃ u0, vq = .tuple #[u0, .int .i64 3] ∧ RV wq u0 (((0 : Int) : Rat)),
      fun vq wq => RV wq vq (((0 : Int) : Rat)),
      fun vq _ => vq = .int .i64 3,
      fun vq wq => ∃ bq, vq = .pointer (some ⟨bq, 0, none⟩) ∧ BoxN wq bq 26 #[.bool false, .slice none 0 0, .slice none 0 0] ∧ (y4).heap.size ≤ bq]) (by kernel_rfl) (by decide) ?_ ?_ ?_
  · intro j hj v w h
    simp only [List.mem_cons, List.not_mem_nil, or_false] at hj
    subst hj
    all_goals (obtain ⟨b, rfl, hB, _⟩ := h; exact hB.lt)
  · refine po rfl (fun lq aq wq hk hr K hK => ?_) ?_
    · have B1 : ev aq (.tmp 1) = .pointer (some ⟨bz, 0, none⟩) := hk.base 1 (by kernel_rfl) rfl
      have hb : Below _ _ _ := hk.ext
      exact vc hK (op_load3 1 _ B1 (Dz.out.below hb)) (fun w2 h2 => RV.grow ⟨_, _, _, _, _, _, _, rfl, (SNz.out.below hb), (SDz.out.below hb), hdz⟩ h2)
    refine po rfl (fun lq aq wq hk hr K hK => ?_) ?_
    · exact vc hK (by go_simp) (fun w2 h2 => (QV.zero _).grow h2)
    refine po rfl (fun lq aq wq hk hr K hK => ?_) ?_
    · obtain ⟨v0, E0, r0⟩ := hk.dp hr 0 30 (by kernel_rfl)
      have r0 : RV wq v0 (((0 : Int) : Rat)) := r0 wq (Grows.refl wq)
      obtain ⟨v1, E1, r1⟩ := hk.dp hr 1 31 (by kernel_rfl)
      have r1 : QV wq v1 ((0 : Rat)) := r1 wq (Grows.refl wq)
      exact cc hK (by go_simp) (qdiv0_v wq (r0).qv r1 ((Qsz.int (szz_i64 (by decide) (by decide)) (by decide)).mono (by decide)) ((Qsz.zero).mono (by decide)) rfl) (fun u w1 hu w2 h2 => (let ⟨u0, e0, h0⟩ := hu; ⟨u0, e0, (h0).grow h2⟩))
    refine po rfl (fun lq aq wq hk hr K hK => ?_) ?_
    · obtain ⟨v2, E2, r2⟩ := hk.dp hr 2 32 (by kernel_rfl)
      have r2 : ∃ u0, v2 = .tuple #[u0, .int .i64 3] ∧ RV wq u0 (((0 : Int) : Rat)) := r2 wq (Grows.refl wq)
      exact vc hK (by go_simp) (fun w2 h2 => (let ⟨u0, e0, h0⟩ := r2; ⟨u0, e0, (h0).grow h2⟩))
    refine po rfl (fun lq aq wq hk hr K hK => ?_) ?_
    · obtain ⟨v3, E3, r3⟩ := hk.dp hr 3 29 (by kernel_rfl)
      have r3 : ∃ u0, v3 = .tuple #[u0, .int .i64 3] ∧ RV wq u0 (((0 : Int) : Rat)) := r3 wq (Grows.refl wq)
      obtain ⟨u0, rfl, h0⟩ := r3
      exact vc hK (by go_simp) (fun w2 h2 => (h0).grow h2)
    refine po rfl (fun lq aq wq hk hr K hK => ?_) ?_
    · obtain ⟨v3, E3, r3⟩ := hk.dp hr 3 29 (by kernel_rfl)
      have r3 : ∃ u0, v3 = .tuple #[u0, .int .i64 3] ∧ RV wq u0 (((0 : Int) : Rat)) := r3 wq (Grows.refl wq)
      obtain ⟨u0, rfl, h0⟩ := r3
      exact vc hK (by go_simp) (fun w2 h2 => rfl)
    refine po rfl (fun lq aq wq hk hr K hK => ?_) ?_
    · exact wp_of_value (by go_simp) (hK.out _ _ ((Grows.refl _).alloc _) (fun w2 h2 => ⟨_, rfl, (BoxN.new wq 26 _).below h2, hk.ext.size⟩) (fun _ => Nat.le_refl _))
    exact AllOps.nil
  intro V x5 hG hV hap
  have r4 : RV x5 (V 4) (((0 : Int) : Rat)) := hV 4 (by decide)
  have r5 : (V 5) = .int .i64 3 := hV 5 (by decide)
  have r6 : ∃ bq, (V 6) = .pointer (some ⟨bq, 0, none⟩) ∧ BoxN x5 bq 26 #[.bool false, .slice none 0 0, .slice none 0 0] ∧ (y4).heap.size ≤ bq := hV 6 (by decide)
  clear hV
  simp only [List.take_succ_cons, List.take_zero, List.drop_succ_cons, List.drop_zero, putAll, Act.put, List.setIfInBounds_toArray, List.set_cons_zero, List.set_cons_succ]
  have hb := (show Below _ _ _ from hG)
  obtain ⟨bv, ev, Dv, gv⟩ := r6
  obtain ⟨nv, Av, kv, cv, Bv, jv, dv, ev9, sv, tv, hdv⟩ := r4
  simp only [ev, ev9, r5]
  clear ev ev9 hap hG r5
  replace Dv : Box3 _ bv 26 (.bool false) (.slice none 0 0) (.slice none 0 0) := Dv
  refine wpList_of_skip rfl (op_store3 4 33 _ rfl rfl Dv) ?_
  have hB := put3_below (x' := .bool nv) (y' := .slice Av kv cv) (z' := .slice Bv jv dv) hb gv
  replace sv := sv.put3 Dv (.bool nv) (.slice Av kv cv) (.slice Bv jv dv)
  replace tv := tv.put3 Dv (.bool nv) (.slice Av kv cv) (.slice Bv jv dv)
  replace Dv := put3_own (x' := .bool nv) (y' := .slice Av kv cv) (z' := .slice Bv jv dv) Dv
  clear hb
  generalize put3 x5 bv (.bool nv) (.slice Av kv cv) (.slice Bv jv dv) = y6 at *
  replace Dz := Lib.hid (Dz.out.below hB)
  replace SNz := Lib.hid (SNz.out.below hB)
  replace SDz := Lib.hid (SDz.out.below hB)
  replace Dx := Lib.hid (Dx.out.below hB)
  replace SNx := Lib.hid (SNx.out.below hB)
  replace SDx := Lib.hid (SDx.out.below hB)
  replace HB := Lib.hid (HB.out.trans (Below.mono hB HB.out.size))
  replace lwz := Nat.lt_of_lt_of_le lwz gv
  replace lwx := Nat.lt_of_lt_of_le lwx gv
  replace Dv := Lib.hid Dv
  have SNv := Lib.hid sv
  have SDv := Lib.hid tv
  clear hB gv sv tv
  go_upto_region 4 with fail
  have lwz := Dz.out.lt
  have lwx := Dx.out.lt
  have lwv := Dv.out.lt
  refine wp_region_calm 5 [4] ([fun vq wq => LV wq vq ([0]) 0,
      fun vq wq => IL wq vq true [0],
      fun vq wq => LV wq vq ([0, 0]) 0,
      fun vq wq => QL wq vq true [0] [0, 0],
      fun vq wq => ∃ bq, vq = .pointer (some ⟨bq, 0, none⟩) ∧ BoxN wq bq 26 #[.bool false, .slice none 0 0, .slice none 0 0] ∧ (y6).heap.size ≤ bq]) (by kernel_rfl) (by decide) ?_ ?_ ?_
  · intro j hj v w h
    simp only [List.mem_cons, List.not_mem_nil, or_false] at hj
    subst hj
    all_goals (obtain ⟨b, rfl, hB, _⟩ := h; exact hB.lt)
  · refine po rfl (fun lq aq wq hk hr K hK => ?_) ?_
    · exact wp_of_value (by go_simp) (hK.out _ _ ((Grows.refl _).alloc _) (fun w2 h2 => (lit_lv wq 43 (cs := #[.int .u32 0]) (n := 1) [0] 0 rfl rfl (by decide) (by decide)).grow h2) (fun h => absurd h (by decide)))
    refine po rfl (fun lq aq wq hk hr K hK => ?_) ?_
    · obtain ⟨v0, E0, r0⟩ := hk.dp hr 0 35 (by kernel_rfl)
      have r0 : LV wq v0 ([0]) 0 := r0 wq (Grows.refl wq)
      obtain ⟨A0, c0, rfl, hnd⟩ := r0
      exact vc hK (by go_simp) (fun w2 h2 => IL.grow (⟨_, _, rfl, hnd⟩) h2)
    refine po rfl (fun lq aq wq hk hr K hK => ?_) ?_
    · exact wp_of_value (by go_simp) (hK.out _ _ ((Grows.refl _).alloc _) (fun w2 h2 => (lit_lv wq 43 (cs := #[.int .u32 0, .int .u32 0]) (n := 2) [0, 0] 0 rfl rfl (by decide) (by decide)).grow h2) (fun h => absurd h (by decide)))
    refine po rfl (fun lq aq wq hk hr K hK => ?_) ?_
    · obtain ⟨v1, E1, r1⟩ := hk.dp hr 1 36 (by kernel_rfl)
      have r1 : IL wq v1 true [0] := r1 wq (Grows.refl wq)
      obtain ⟨v2, E2, r2⟩ := hk.dp hr 2 37 (by kernel_rfl)
      have r2 : LV wq v2 ([0, 0]) 0 := r2 wq (Grows.refl wq)
      obtain ⟨A1, c1, rfl, s1⟩ := r1
      obtain ⟨A2, c2, rfl, hnd⟩ := r2
      have hsl : ∃ B j e, Value.slice A2 ([0, 0]).length c2 = Value.slice B j e := ⟨_, _, _, rfl⟩
      exact vc hK (op_rat 36 37 E1 E2 hsl) (fun w2 h2 => QL.grow ⟨_, _, _, _, rfl, s1, hnd, (by decide), (by decide)⟩ h2)
    refine po rfl (fun lq aq wq hk hr K hK => ?_) ?_
    · exact wp_of_value (by go_simp) (hK.out _ _ ((Grows.refl _).alloc _) (fun w2 h2 => ⟨_, rfl, (BoxN.new wq 26 _).below h2, hk.ext.size⟩) (fun _ => Nat.le_refl _))
    exact AllOps.nil
  intro V x7 hG hV hap
  have r3 : QL x7 (V 3) true [0] [0, 0] := hV 3 (by decide)
  have r4 : ∃ bq, (V 4) = .pointer (some ⟨bq, 0, none⟩) ∧ BoxN x7 bq 26 #[.bool false, .slice none 0 0, .slice none 0 0] ∧ (y6).heap.size ≤ bq := hV 4 (by decide)
  clear hV
  simp only [List.take_succ_cons, List.take_zero, List.drop_succ_cons, List.drop_zero, putAll, Act.put, List.setIfInBounds_toArray, List.set_cons_zero, List.set_cons_succ]
  have hb := (show Below _ _ _ from hG)
  obtain ⟨by1, ey1, Dy1, gy1⟩ := r4
  obtain ⟨Ay1, cy1, By1, dy1, ey19, sy1, ty1, hly1, hmy1⟩ := r3
  simp only [ey1, ey19]
  clear ey1 ey19 hap hG
  have hky1 : szz (sg true (val [0])) ≤ 1000 := by unfold szz; rw [sg_natAbs]; exact Nat.le_trans (sz_num sy1) hly1
  replace Dy1 : Box3 _ by1 26 (.bool false) (.slice none 0 0) (.slice none 0 0) := Dy1
  refine wpList_of_skip rfl (op_store3 6 38 _ rfl rfl Dy1) ?_
  have hB := put3_below (x' := .bool true) (y' := .slice Ay1 [0].length cy1) (z' := .slice By1 [0, 0].length dy1) hb gy1
  replace sy1 := sy1.put3 Dy1 (.bool true) (.slice Ay1 [0].length cy1) (.slice By1 [0, 0].length dy1)
  replace ty1 := ty1.put3 Dy1 (.bool true) (.slice Ay1 [0].length cy1) (.slice By1 [0, 0].length dy1)
  replace Dy1 := put3_own (x' := .bool true) (y' := .slice Ay1 [0].length cy1) (z' := .slice By1 [0, 0].length dy1) Dy1
  clear hb
  generalize put3 x7 by1 (.bool true) (.slice Ay1 [0].length cy1) (.slice By1 [0, 0].length dy1) = y8 at *
  replace Dz := Lib.hid (Dz.out.below hB)
  replace SNz := Lib.hid (SNz.out.below hB)
  replace SDz := Lib.hid (SDz.out.below hB)
  replace Dx := Lib.hid (Dx.out.below hB)
  replace SNx := Lib.hid (SNx.out.below hB)
  replace SDx := Lib.hid (SDx.out.below hB)
  replace Dv := Lib.hid (Dv.out.below hB)
  replace SNv := Lib.hid (SNv.out.below hB)
  replace SDv := Lib.hid (SDv.out.below hB)
  replace HB := Lib.hid (HB.out.trans (Below.mono hB HB.out.size))
  replace lwz := Nat.lt_of_lt_of_le lwz gy1
  replace lwx := Nat.lt_of_lt_of_le lwx gy1
  replace lwv := Nat.lt_of_lt_of_le lwv gy1
  replace Dy1 := Lib.hid Dy1
  have SNy1 := Lib.hid sy1
  have SDy1 := Lib.hid ty1
  clear hB gy1 sy1 ty1
  go_upto_region 5 with fail
  have lwz := Dz.out.lt
  have lwx := Dx.out.lt
  have lwv := Dv.out.lt
  have lwy1 := Dy1.out.lt
  refine wp_region_calm 5 [4] ([fun vq wq => LV wq vq ([0, 2]) 8589934592,
      fun vq wq => IL wq vq false [0, 2],
      fun vq wq => LV wq vq ([0, 4]) 17179869184,
      fun vq wq => QL wq vq false [0, 2] [0, 4],
      fun vq wq => ∃ bq, vq = .pointer (some ⟨bq, 0, none⟩) ∧ BoxN wq bq 26 #[.bool false, .slice none 0 0, .slice none 0 0] ∧ (y8).heap.size ≤ bq]) (by kernel_rfl) (by decide) ?_ ?_ ?_
  · intro j hj v w h
    simp only [List.mem_cons, List.not_mem_nil, or_false] at hj
    subst hj
    all_goals (obtain ⟨b, rfl, hB, _⟩ := h; exact hB.lt)
  · refine po rfl (fun lq aq wq hk hr K hK => ?_) ?_
    · exact wp_of_value (by go_simp) (hK.out _ _ ((Grows.refl _).alloc _) (fun w2 h2 => (lit_lv wq 43 (cs := #[.int .u32 0, .int .u32 2]) (n := 2) [0, 2] 8589934592 rfl rfl (by decide) (by decide)).grow h2) (fun h => absurd h (by decide)))
    refine po rfl (fun lq aq wq hk hr K hK => ?_) ?_
    · obtain ⟨v0, E0, r0⟩ := hk.dp hr 0 39 (by kernel_rfl)
      have r0 : LV wq v0 ([0, 2]) 8589934592 := r0 wq (Grows.refl wq)
      obtain ⟨A0, c0, rfl, hnd⟩ := r0
      exact vc hK (by go_simp) (fun w2 h2 => IL.grow (⟨_, _, rfl, hnd⟩) h2)
    refine po rfl (fun lq aq wq hk hr K hK => ?_) ?_
    · exact wp_of_value (by go_simp) (hK.out _ _ ((Grows.refl _).alloc _) (fun w2 h2 => (lit_lv wq 43 (cs := #[.int .u32 0, .int .u32 4]) (n := 2) [0, 4] 17179869184 rfl rfl (by decide) (by decide)).grow h2) (fun h => absurd h (by decide)))
    refine po rfl (fun lq aq wq hk hr K hK => ?_) ?_
    · obtain ⟨v1, E1, r1⟩ := hk.dp hr 1 40 (by kernel_rfl)
      have r1 : IL wq v1 false [0, 2] := r1 wq (Grows.refl wq)
      obtain ⟨v2, E2, r2⟩ := hk.dp hr 2 41 (by kernel_rfl)
      have r2 : LV wq v2 ([0, 4]) 17179869184 := r2 wq (Grows.refl wq)
      obtain ⟨A1, c1, rfl, s1⟩ := r1
      obtain ⟨A2, c2, rfl, hnd⟩ := r2
      have hsl : ∃ B j e, Value.slice A2 ([0, 4]).length c2 = Value.slice B j e := ⟨_, _, _, rfl⟩
      exact vc hK (op_rat 40 41 E1 E2 hsl) (fun w2 h2 => QL.grow ⟨_, _, _, _, rfl, s1, hnd, (by decide), (by decide)⟩ h2)
    refine po rfl (fun lq aq wq hk hr K hK => ?_) ?_
    · exact wp_of_value (by go_simp) (hK.out _ _ ((Grows.refl _).alloc _) (fun w2 h2 => ⟨_, rfl, (BoxN.new wq 26 _).below h2, hk.ext.size⟩) (fun _ => Nat.le_refl _))
    exact AllOps.nil
  intro V x9 hG hV hap
  have r3 : QL x9 (V 3) false [0, 2] [0, 4] := hV 3 (by decide)
  have r4 : ∃ bq, (V 4) = .pointer (some ⟨bq, 0, none⟩) ∧ BoxN x9 bq 26 #[.bool false, .slice none 0 0, .slice none 0 0] ∧ (y8).heap.size ≤ bq := hV 4 (by decide)
  clear hV
  simp only [List.take_succ_cons, List.take_zero, List.drop_succ_cons, List.drop_zero, putAll, Act.put, List.setIfInBounds_toArray, List.set_cons_zero, List.set_cons_succ]
  have hb := (show Below _ _ _ from hG)
  obtain ⟨bg1, eg1, Dg1, gg1⟩ := r4
  obtain ⟨Ag1, cg1, Bg1, dg1, eg19, sg1, tg1, hlg1, hmg1⟩ := r3
  simp only [eg1, eg19]
  clear eg1 eg19 hap hG
  have hkg1 : szz (sg false (val [0, 2])) ≤ 1000 := by unfold szz; rw [sg_natAbs]; exact Nat.le_trans (sz_num sg1) hlg1
  replace Dg1 : Box3 _ bg1 26 (.bool false) (.slice none 0 0) (.slice none 0 0) := Dg1
  refine wpList_of_skip rfl (op_store3 7 42 _ rfl rfl Dg1) ?_
  have hB := put3_below (x' := .bool false) (y' := .slice Ag1 [0, 2].length cg1) (z' := .slice Bg1 [0, 4].length dg1) hb gg1
  replace sg1 := sg1.put3 Dg1 (.bool false) (.slice Ag1 [0, 2].length cg1) (.slice Bg1 [0, 4].length dg1)
  replace tg1 := tg1.put3 Dg1 (.bool false) (.slice Ag1 [0, 2].length cg1) (.slice Bg1 [0, 4].length dg1)
  replace Dg1 := put3_own (x' := .bool false) (y' := .slice Ag1 [0, 2].length cg1) (z' := .slice Bg1 [0, 4].length dg1) Dg1
  clear hb
  generalize put3 x9 bg1 (.bool false) (.slice Ag1 [0, 2].length cg1) (.slice Bg1 [0, 4].length dg1) = y10 at *
  replace Dz := Lib.hid (Dz.out.below hB)
  replace SNz := Lib.hid (SNz.out.below hB)
  replace SDz := Lib.hid (SDz.out.below hB)
  replace Dx := Lib.hid (Dx.out.below hB)
  replace SNx := Lib.hid (SNx.out.below hB)
  replace SDx := Lib.hid (SDx.out.below hB)
  replace Dv := Lib.hid (Dv.out.below hB)
  replace SNv := Lib.hid (SNv.out.below hB)
  replace SDv := Lib.hid (SDv.out.below hB)
  replace Dy1 := Lib.hid (Dy1.out.below hB)
  replace SNy1 := Lib.hid (SNy1.out.below hB)
  replace SDy1 := Lib.hid (SDy1.out.below hB)
  replace HB := Lib.hid (HB.out.trans (Below.mono hB HB.out.size))
  replace lwz := Nat.lt_of_lt_of_le lwz gg1
  replace lwx := Nat.lt_of_lt_of_le lwx gg1
  replace lwv := Nat.lt_of_lt_of_le lwv gg1
  replace lwy1 := Nat.lt_of_lt_of_le lwy1 gg1
  replace Dg1 := Lib.hid Dg1
  have SNg1 := Lib.hid sg1
  have SDg1 := Lib.hid tg1
  clear hB gg1 sg1 tg1
  go_upto_region 6 with fail
  have lwz := Dz.out.lt
  have lwx := Dx.out.lt
  have lwv := Dv.out.lt
  have lwy1 := Dy1.out.lt
  have lwg1 := Dg1.out.lt
  refine wp_region_calm 5 [4] ([fun vq wq => ∃ u0, vq = .tuple #[u0, .bool false] ∧ RV wq u0 ((0 : Rat)),
      fun vq wq => ∃ u0, vq = .tuple #[u0, .bool false] ∧ RV wq u0 ((0 : Rat)),
      fun vq wq => RV wq vq ((0 : Rat)),
      fun vq _ => vq = .bool false,
      fun vq wq => ∃ bq, vq = .pointer (some ⟨bq, 0, none⟩) ∧ BoxN wq bq 26 #[.bool false, .slice none 0 0, .slice none 0 0] ∧ (y10).heap.size ≤ bq]) (by kernel_rfl) (by decide) ?_ ?_ ?_
  · intro j hj v w h
    simp only [List.mem_cons, List.not_mem_nil, or_false] at hj
    subst hj
    all_goals (obtain ⟨b, rfl, hB, _⟩ := h; exact hB.lt)
  · refine po rfl (fun lq aq wq hk hr K hK => ?_) ?_
    · exact cc hK (by go_simp) (qparse_v wq (HL.out.below (HB.out.trans (Below.mono hk.ext HB.out.size))) kf4 (by decide) rfl) (fun u w1 hu w2 h2 => (let ⟨u0, e0, h0⟩ := hu; ⟨u0, e0, (h0).grow h2⟩))
    refine po rfl (fun lq aq wq hk hr K hK => ?_) ?_
    · obtain ⟨v0, E0, r0⟩ := hk.dp hr 0 44 (by kernel_rfl)
      have r0 : ∃ u0, v0 = .tuple #[u0, .bool false] ∧ RV wq u0 ((0 : Rat)) := r0 wq (Grows.refl wq)
      exact vc hK (by go_simp) (fun w2 h2 => (let ⟨u0, e0, h0⟩ := r0; ⟨u0, e0, (h0).grow h2⟩))
    refine po rfl (fun lq aq wq hk hr K hK => ?_) ?_
    · obtain ⟨v1, E1, r1⟩ := hk.dp hr 1 43 (by kernel_rfl)
      have r1 : ∃ u0, v1 = .tuple #[u0, .bool false] ∧ RV wq u0 ((0 : Rat)) := r1 wq (Grows.refl wq)
      obtain ⟨u0, rfl, h0⟩ := r1
      exact vc hK (by go_simp) (fun w2 h2 => (h0).grow h2)
    refine po rfl (fun lq aq wq hk hr K hK => ?_) ?_
    · obtain ⟨v1, E1, r1⟩ := hk.dp hr 1 43 (by kernel_rfl)
      have r1 : ∃ u0, v1 = .tuple #[u0, .bool false] ∧ RV wq u0 ((0 : Rat)) := r1 wq (Grows.refl wq)
      obtain ⟨u0, rfl, h0⟩ := r1
      exact vc hK (by go_simp) (fun w2 h2 => rfl)
    refine po rfl (fun lq aq wq hk hr K hK => ?_) ?_
    · exact wp_of_value (by go_simp) (hK.out _ _ ((Grows.refl _).alloc _) (fun w2 h2 => ⟨_, rfl, (BoxN.new wq 26 _).below h2, hk.ext.size⟩) (fun _ => Nat.le_refl _))
    exact AllOps.nil
  intro V x11 hG hV hap
  have r2 : RV x11 (V 2) ((0 : Rat)) := hV 2 (by decide)
  have r3 : (V 3) = .bool false := hV 3 (by decide)
  have r4 : ∃ bq, (V 4) = .pointer (some ⟨bq, 0, none⟩) ∧ BoxN x11 bq 26 #[.bool false, .slice none 0 0, .slice none 0 0] ∧ (y10).heap.size ≤ bq := hV 4 (by decide)
  clear hV
  simp only [List.take_succ_cons, List.take_zero, List.drop_succ_cons, List.drop_zero, putAll, Act.put, List.setIfInBounds_toArray, List.set_cons_zero, List.set_cons_succ]
  have hb := (show Below _ _ _ from hG)
  obtain ⟨bp, ep, Dp, gp⟩ := r4
  obtain ⟨np, Ap, kp, cp, Bp, jp, dp, ep9, sp, tp, hdp⟩ := r2
  simp only [ep, ep9, r3]
  clear ep ep9 hap hG r3
  replace Dp : Box3 _ bp 26 (.bool false) (.slice none 0 0) (.slice none 0 0) := Dp
  refine wpList_of_skip rfl (op_store3 8 45 _ rfl rfl Dp) ?_
  have hB := put3_below (x' := .bool np) (y' := .slice Ap kp cp) (z' := .slice Bp jp dp) hb gp
  replace sp := sp.put3 Dp (.bool np) (.slice Ap kp cp) (.slice Bp jp dp)
  replace tp := tp.put3 Dp (.bool np) (.slice Ap kp cp) (.slice Bp jp dp)
  replace Dp := put3_own (x' := .bool np) (y' := .slice Ap kp cp) (z' := .slice Bp jp dp) Dp
  clear hb
  generalize put3 x11 bp (.bool np) (.slice Ap kp cp) (.slice Bp jp dp) = y12 at *
  replace Dz := Lib.hid (Dz.out.below hB)
  replace SNz := Lib.hid (SNz.out.below hB)
  replace SDz := Lib.hid (SDz.out.below hB)
  replace Dx := Lib.hid (Dx.out.below hB)
  replace SNx := Lib.hid (SNx.out.below hB)
  replace SDx := Lib.hid (SDx.out.below hB)
  replace Dv := Lib.hid (Dv.out.below hB)
  replace SNv := Lib.hid (SNv.out.below hB)
  replace SDv := Lib.hid (SDv.out.below hB)
  replace Dy1 := Lib.hid (Dy1.out.below hB)
  replace SNy1 := Lib.hid (SNy1.out.below hB)
  replace SDy1 := Lib.hid (SDy1.out.below hB)
  replace Dg1 := Lib.hid (Dg1.out.below hB)
  replace SNg1 := Lib.hid (SNg1.out.below hB)
  replace SDg1 := Lib.hid (SDg1.out.below hB)
  replace HB := Lib.hid (HB.out.trans (Below.mono hB HB.out.size))
  replace lwz := Nat.lt_of_lt_of_le lwz gp
  replace lwx := Nat.lt_of_lt_of_le lwx gp
  replace lwv := Nat.lt_of_lt_of_le lwv gp
  replace lwy1 := Nat.lt_of_lt_of_le lwy1 gp
  replace lwg1 := Nat.lt_of_lt_of_le lwg1 gp
  replace Dp := Lib.hid Dp
  have SNp := Lib.hid sp
  have SDp := Lib.hid tp
  clear hB gp sp tp
  go_upto_region 7 with fail
  have lwz := Dz.out.lt
  have lwx := Dx.out.lt
  have lwv := Dv.out.lt
  have lwy1 := Dy1.out.lt
  have lwg1 := Dg1.out.lt
  have lwp := Dp.out.lt
  refine wp_region_calm 5 [4] ([fun vq wq => ∃ u0, vq = .tuple #[u0, .bool false] ∧ RV wq u0 ((0 : Rat)),
      fun vq wq => ∃ u0, vq = .tuple #[u0, .bool false] ∧ RV wq u0 ((0 : Rat)),
      fun vq wq => RV wq vq ((0 : Rat)),
      fun vq _ => vq = .bool false,
      fun vq wq => ∃ bq, vq = .pointer (some ⟨bq, 0, none⟩) ∧ BoxN wq bq 26 #[.bool false, .slice none 0 0, .slice none 0 0] ∧ (y12).heap.size ≤ bq]) (by kernel_rfl) (by decide) ?_ ?_ ?_
  · intro j hj v w h
    simp only [List.mem_cons, List.not_mem_nil, or_false] at hj
    subst hj
    all_goals (obtain ⟨b, rfl, hB, _⟩ := h; exact hB.lt)
  · refine po rfl (fun lq aq wq hk hr K hK => ?_) ?_
    · exact cc hK (by go_simp) (qparse_v wq (HL.out.below (HB.out.trans (Below.mono hk.ext HB.out.size))) kf11 (by decide) rfl) (fun u w1 hu w2 h2 => (let ⟨u0, e0, h0⟩ := hu; ⟨u0, e0, (h0).grow h2⟩))
    refine po rfl (fun lq aq wq hk hr K hK => ?_) ?_
    · obtain ⟨v0, E0, r0⟩ := hk.dp hr 0 48 (by kernel_rfl)
      have r0 : ∃ u0, v0 = .tuple #[u0, .bool false] ∧ RV wq u0 ((0 : Rat)) := r0 wq (Grows.refl wq)
      exact vc hK (by go_simp) (fun w2 h2 => (let ⟨u0, e0, h0⟩ := r0; ⟨u0, e0, (h0).grow h2⟩))
    refine po rfl (fun lq aq wq hk hr K hK => ?_) ?_
    · obtain ⟨v1, E1, r1⟩ := hk.dp hr 1 47 (by kernel_rfl)
      have r1 : ∃ u0, v1 = .tuple #[u0, .bool false] ∧ RV wq u0 ((0 : Rat)) := r1 wq (Grows.refl wq)
      obtain ⟨u0, rfl, h0⟩ := r1
      exact vc hK (by go_simp) (fun w2 h2 => (h0).grow h2)
    refine po rfl (fun lq aq wq hk hr K hK => ?_) ?_
    · obtain ⟨v1, E1, r1⟩ := hk.dp hr 1 47 (by kernel_rfl)
      have r1 : ∃ u0, v1 = .tuple #[u0, .bool false] ∧ RV wq u0 ((0 : Rat)) := r1 wq (Grows.refl wq)
      obtain ⟨u0, rfl, h0⟩ := r1
      exact vc hK (by go_simp) (fun w2 h2 => rfl)
    refine po rfl (fun lq aq wq hk hr K hK => ?_) ?_
    · exact wp_of_value (by go_simp) (hK.out _ _ ((Grows.refl _).alloc _) (fun w2 h2 => ⟨_, rfl, (BoxN.new wq 26 _).below h2, hk.ext.size⟩) (fun _ => Nat.le_refl _))
    exact AllOps.nil
  intro V x13 hG hV hap
  have r2 : RV x13 (V 2) ((0 : Rat)) := hV 2 (by decide)
  have r3 : (V 3) = .bool false := hV 3 (by decide)
  have r4 : ∃ bq, (V 4) = .pointer (some ⟨bq, 0, none⟩) ∧ BoxN x13 bq 26 #[.bool false, .slice none 0 0, .slice none 0 0] ∧ (y12).heap.size ≤ bq := hV 4 (by decide)
  clear hV
  simp only [List.take_succ_cons, List.take_zero, List.drop_succ_cons, List.drop_zero, putAll, Act.put, List.setIfInBounds_toArray, List.set_cons_zero, List.set_cons_succ]
  have hb := (show Below _ _ _ from hG)
  obtain ⟨bq, eq, Dq, gq⟩ := r4
  obtain ⟨nq, Aq, kq, cq, Bq, jq, dq, eq9, sq, tq, hdq⟩ := r2
  simp only [eq, eq9, r3]
  clear eq eq9 hap hG r3
  replace Dq : Box3 _ bq 26 (.bool false) (.slice none 0 0) (.slice none 0 0) := Dq
  refine wpList_of_skip rfl (op_store3 10 49 _ rfl rfl Dq) ?_
  have hB := put3_below (x' := .bool nq) (y' := .slice Aq kq cq) (z' := .slice Bq jq dq) hb gq
  replace sq := sq.put3 Dq (.bool nq) (.slice Aq kq cq) (.slice Bq jq dq)
  replace tq := tq.put3 Dq (.bool nq) (.slice Aq kq cq) (.slice Bq jq dq)
  replace Dq := put3_own (x' := .bool nq) (y' := .slice Aq kq cq) (z' := .slice Bq jq dq) Dq
  clear hb
  generalize put3 x13 bq (.bool nq) (.slice Aq kq cq) (.slice Bq jq dq) = y14 at *
  replace Dz := Lib.hid (Dz.out.below hB)
  replace SNz := Lib.hid (SNz.out.below hB)
  replace SDz := Lib.hid (SDz.out.below hB)
  replace Dx := Lib.hid (Dx.out.below hB)
  replace SNx := Lib.hid (SNx.out.below hB)
  replace SDx := Lib.hid (SDx.out.below hB)
  replace Dv := Lib.hid (Dv.out.below hB)
  replace SNv := Lib.hid (SNv.out.below hB)
  replace SDv := Lib.hid (SDv.out.below hB)
  replace Dy1 := Lib.hid (Dy1.out.below hB)
  replace SNy1 := Lib.hid (SNy1.out.below hB)
  replace SDy1 := Lib.hid (SDy1.out.below hB)
  replace Dg1 := Lib.hid (Dg1.out.below hB)
  replace SNg1 := Lib.hid (SNg1.out.below hB)
  replace SDg1 := Lib.hid (SDg1.out.below hB)
  replace Dp := Lib.hid (Dp.out.below hB)
  replace SNp := Lib.hid (SNp.out.below hB)
  replace SDp := Lib.hid (SDp.out.below hB)
  replace HB := Lib.hid (HB.out.trans (Below.mono hB HB.out.size))
  replace lwz := Nat.lt_of_lt_of_le lwz gq
  replace lwx := Nat.lt_of_lt_of_le lwx gq
  replace lwv := Nat.lt_of_lt_of_le lwv gq
  replace lwy1 := Nat.lt_of_lt_of_le lwy1 gq
  replace lwg1 := Nat.lt_of_lt_of_le lwg1 gq
  replace lwp := Nat.lt_of_lt_of_le lwp gq
  replace Dq := Lib.hid Dq
  have SNq := Lib.hid sq
  have SDq := Lib.hid tq
  clear hB gq sq tq
  go_upto_region 8 with fail
  have lwz := Dz.out.lt
  have lwx := Dx.out.lt
  have lwv := Dv.out.lt
  have lwy1 := Dy1.out.lt
  have lwg1 := Dg1.out.lt
  have lwp := Dp.out.lt
  have lwq := Dq.out.lt
  refine wp_region_calm 5 [4] ([fun vq wq => ∃ u0, vq = .tuple #[u0, .bool false] ∧ RV wq u0 ((0 : Rat)),
      fun vq wq => ∃ u0, vq = .tuple #[u0, .bool false] ∧ RV wq u0 ((0 : Rat)),
      fun vq wq => RV wq vq ((0 : Rat)),
      fun vq _ => vq = .bool false,
      fun vq wq => ∃ bq, vq = .pointer (some ⟨bq, 0, none⟩) ∧ BoxN wq bq 26 #[.bool false, .slice none 0 0, .slice none 0 0] ∧ (y14).heap.size ≤ bq]) (by kernel_rfl) (by decide) ?_ ?_ ?_
  · intro j hj v w h
    simp only [List.mem_cons, List.not_mem_nil, or_false] at hj
    subst hj
    all_goals (obtain ⟨b, rfl, hB, _⟩ := h; exact hB.lt)
  · refine po rfl (fun lq aq wq hk hr K hK => ?_) ?_
    · exact cc hK (by go_simp) (qparse_v wq (HL.out.below (HB.out.trans (Below.mono hk.ext HB.out.size))) kf13 (by decide) rfl) (fun u w1 hu w2 h2 => (let ⟨u0, e0, h0⟩ := hu; ⟨u0, e0, (h0).grow h2⟩))
    refine po rfl (fun lq aq wq hk hr K hK => ?_) ?_
    · obtain ⟨v0, E0, r0⟩ := hk.dp hr 0 52 (by kernel_rfl)
      have r0 : ∃ u0, v0 = .tuple #[u0, .bool false] ∧ RV wq u0 ((0 : Rat)) := r0 wq (Grows.refl wq)
      exact vc hK (by go_simp) (fun w2 h2 => (let ⟨u0, e0, h0⟩ := r0; ⟨u0, e0, (h0).grow h2⟩))
    refine po rfl (fun lq aq wq hk hr K hK => ?_) ?_
    · obtain ⟨v1, E1, r1⟩ := hk.dp hr 1 51 (by kernel_rfl)
      have r1 : ∃ u0, v1 = .tuple #[u0, .bool false] ∧ RV wq u0 ((0 : Rat)) := r1 wq (Grows.refl wq)
      obtain ⟨u0, rfl, h0⟩ := r1
      exact vc hK (by go_simp) (fun w2 h2 => (h0).grow h2)
    refine po rfl (fun lq aq wq hk hr K hK => ?_) ?_
    · obtain ⟨v1, E1, r1⟩ := hk.dp hr 1 51 (by kernel_rfl)
      have r1 : ∃ u0, v1 = .tuple #[u0, .bool false] ∧ RV wq u0 ((0 : Rat)) := r1 wq (Grows.refl wq)
      obtain ⟨u0, rfl, h0⟩ := r1
      exact vc hK (by go_simp) (fun w2 h2 => rfl)
    refine po rfl (fun lq aq wq hk hr K hK => ?_) ?_
    · exact wp_of_value (by go_simp) (hK.out _ _ ((Grows.refl _).alloc _) (fun w2 h2 => ⟨_, rfl, (BoxN.new wq 26 _).below h2, hk.ext.size⟩) (fun _ => Nat.le_refl _))
    exact AllOps.nil
  intro V x15 hG hV hap
  have r2 : RV x15 (V 2) ((0 : Rat)) := hV 2 (by decide)
  have r3 : (V 3) = .bool false := hV 3 (by decide)
  have r4 : ∃ bq, (V 4) = .pointer (some ⟨bq, 0, none⟩) ∧ BoxN x15 bq 26 #[.bool false, .slice none 0 0, .slice none 0 0] ∧ (y14).heap.size ≤ bq := hV 4 (by decide)
  clear hV
  simp only [List.take_succ_cons, List.take_zero, List.drop_succ_cons, List.drop_zero, putAll, Act.put, List.setIfInBounds_toArray, List.set_cons_zero, List.set_cons_succ]
  have hb := (show Below _ _ _ from hG)
  obtain ⟨br, er, Dr, gr⟩ := r4
  obtain ⟨nr, Ar, kr, cr, Br, jr, dr, er9, sr, tr, hdr⟩ := r2
  simp only [er, er9, r3]
  clear er er9 hap hG r3
  replace Dr : Box3 _ br 26 (.bool false) (.slice none 0 0) (.slice none 0 0) := Dr
  refine wpList_of_skip rfl (op_store3 12 53 _ rfl rfl Dr) ?_
  have hB := put3_below (x' := .bool nr) (y' := .slice Ar kr cr) (z' := .slice Br jr dr) hb gr
  replace sr := sr.put3 Dr (.bool nr) (.slice Ar kr cr) (.slice Br jr dr)
  replace tr := tr.put3 Dr (.bool nr) (.slice Ar kr cr) (.slice Br jr dr)
  replace Dr := put3_own (x' := .bool nr) (y' := .slice Ar kr cr) (z' := .slice Br jr dr) Dr
  clear hb
  generalize put3 x15 br (.bool nr) (.slice Ar kr cr) (.slice Br jr dr) = y16 at *
  replace Dz := Lib.hid (Dz.out.below hB)
  replace SNz := Lib.hid (SNz.out.below hB)
  replace SDz := Lib.hid (SDz.out.below hB)
  replace Dx := Lib.hid (Dx.out.below hB)
  replace SNx := Lib.hid (SNx.out.below hB)
  replace SDx := Lib.hid (SDx.out.below hB)
  replace Dv := Lib.hid (Dv.out.below hB)
  replace SNv := Lib.hid (SNv.out.below hB)
  replace SDv := Lib.hid (SDv.out.below hB)
  replace Dy1 := Lib.hid (Dy1.out.below hB)
  replace SNy1 := Lib.hid (SNy1.out.below hB)
  replace SDy1 := Lib.hid (SDy1.out.below hB)
  replace Dg1 := Lib.hid (Dg1.out.below hB)
  replace SNg1 := Lib.hid (SNg1.out.below hB)
  replace SDg1 := Lib.hid (SDg1.out.below hB)
  replace Dp := Lib.hid (Dp.out.below hB)
  replace SNp := Lib.hid (SNp.out.below hB)
  replace SDp := Lib.hid (SDp.out.below hB)
  replace Dq := Lib.hid (Dq.out.below hB)
  replace SNq := Lib.hid (SNq.out.below hB)
  replace SDq := Lib.hid (SDq.out.below hB)
  replace HB := Lib.hid (HB.out.trans (Below.mono hB HB.out.size))
  replace lwz := Nat.lt_of_lt_of_le lwz gr
  replace lwx := Nat.lt_of_lt_of_le lwx gr
  replace lwv := Nat.lt_of_lt_of_le lwv gr
  replace lwy1 := Nat.lt_of_lt_of_le lwy1 gr
  replace lwg1 := Nat.lt_of_lt_of_le lwg1 gr
  replace lwp := Nat.lt_of_lt_of_le lwp gr
  replace lwq := Nat.lt_of_lt_of_le lwq gr
  replace Dr := Lib.hid Dr
  have SNr := Lib.hid sr
  have SDr := Lib.hid tr
  clear hB gr sr tr
  go_upto_region 9 with fail
  have lwz := Dz.out.lt
  have lwx := Dx.out.lt
  have lwv := Dv.out.lt
  have lwy1 := Dy1.out.lt
  have lwg1 := Dg1.out.lt
  have lwp := Dp.out.lt
  have lwq := Dq.out.lt
  have lwr := Dr.out.lt
  refine wp_region_calm 5 [4] ([fun vq wq => ∃ u0, vq = .tuple #[u0, .bool false] ∧ RV wq u0 ((0 : Rat)),
      fun vq wq => ∃ u0, vq = .tuple #[u0, .bool false] ∧ RV wq u0 ((0 : Rat)),
      fun vq wq => RV wq vq ((0 : Rat)),
      fun vq _ => vq = .bool false,
      fun vq wq => ∃ bq, vq = .pointer (some ⟨bq, 0, none⟩) ∧ BoxN wq bq 26 #[.bool false, .slice none 0 0, .slice none 0 0] ∧ (y16).heap.size ≤ bq]) (by kernel_rfl) (by decide) ?_ ?_ ?_
  · intro j hj v w h
    simp only [List.mem_cons, List.not_mem_nil, or_false] at hj
    subst hj
    all_goals (obtain ⟨b, rfl, hB, _⟩ := h; exact hB.lt)
  · refine po rfl (fun lq aq wq hk hr K hK => ?_) ?_
    · exact cc hK (by go_simp) (qparse_v wq (HL.out.below (HB.out.trans (Below.mono hk.ext HB.out.size))) kf15 (by decide) rfl) (fun u w1 hu w2 h2 => (let ⟨u0, e0, h0⟩ := hu; ⟨u0, e0, (h0).grow h2⟩))
    refine po rfl (fun lq aq wq hk hr K hK => ?_) ?_
    · obtain ⟨v0, E0, r0⟩ := hk.dp hr 0 56 (by kernel_rfl)
      have r0 : ∃ u0, v0 = .tuple #[u0, .bool false] ∧ RV wq u0 ((0 : Rat)) := r0 wq (Grows.refl wq)
      exact vc hK (by go_simp) (fun w2 h2 => (let ⟨u0, e0, h0⟩ := r0; ⟨u0, e0, (h0).grow h2⟩))
    refine po rfl (fun lq aq wq hk hr K hK => ?_) ?_
    · obtain ⟨v1, E1, r1⟩ := hk.dp hr 1 55 (by kernel_rfl)
      have r1 : ∃ u0, v1 = .tuple #[u0, .bool false] ∧ RV wq u0 ((0 : Rat)) := r1 wq (Grows.refl wq)
      obtain ⟨u0, rfl, h0⟩ := r1
      exact vc hK (by go_simp) (fun w2 h2 => (h0).grow h2)
    refine po rfl (fun lq aq wq hk hr K hK => ?_) ?_
    · obtain ⟨v1, E1, r1⟩ := hk.dp hr 1 55 (by kernel_rfl)
      have r1 : ∃ u0, v1 = .tuple #[u0, .bool false] ∧ RV wq u0 ((0 : Rat)) := r1 wq (Grows.refl wq)
      obtain ⟨u0, rfl, h0⟩ := r1
      exact vc hK (by go_simp) (fun w2 h2 => rfl)
    refine po rfl (fun lq aq wq hk hr K hK => ?_) ?_
    · exact wp_of_value (by go_simp) (hK.out _ _ ((Grows.refl _).alloc _) (fun w2 h2 => ⟨_, rfl, (BoxN.new wq 26 _).below h2, hk.ext.size⟩) (fun _ => Nat.le_refl _))
    exact AllOps.nil
  intro V x17 hG hV hap
  have r2 : RV x17 (V 2) ((0 : Rat)) := hV 2 (by decide)
  have r3 : (V 3) = .bool false := hV 3 (by decide)
  have r4 : ∃ bq, (V 4) = .pointer (some ⟨bq, 0, none⟩) ∧ BoxN x17 bq 26 #[.bool false, .slice none 0 0, .slice none 0 0] ∧ (y16).heap.size ≤ bq := hV 4 (by decide)
  clear hV
  simp only [List.take_succ_cons, List.take_zero, List.drop_succ_cons, List.drop_zero, putAll, Act.put, List.setIfInBounds_toArray, List.set_cons_zero, List.set_cons_succ]
  have hb := (show Below _ _ _ from hG)
  obtain ⟨bs, es, Ds, gs⟩ := r4
  obtain ⟨ns, As, ks, cs, Bs, js, ds, es9, ss, ts, hds⟩ := r2
  simp only [es, es9, r3]
  clear es es9 hap hG r3
  replace Ds : Box3 _ bs 26 (.bool false) (.slice none 0 0) (.slice none 0 0) := Ds
  refine wpList_of_skip rfl (op_store3 14 57 _ rfl rfl Ds) ?_
  have hB := put3_below (x' := .bool ns) (y' := .slice As ks cs) (z' := .slice Bs js ds) hb gs
  replace ss := ss.put3 Ds (.bool ns) (.slice As ks cs) (.slice Bs js ds)
  replace ts := ts.put3 Ds (.bool ns) (.slice As ks cs) (.slice Bs js ds)
  replace Ds := put3_own (x' := .bool ns) (y' := .slice As ks cs) (z' := .slice Bs js ds) Ds
  clear hb
  generalize put3 x17 bs (.bool ns) (.slice As ks cs) (.slice Bs js ds) = y18 at *
  replace Dz := Lib.hid (Dz.out.below hB)
  replace SNz := Lib.hid (SNz.out.below hB)
  replace SDz := Lib.hid (SDz.out.below hB)
  replace Dx := Lib.hid (Dx.out.below hB)
  replace SNx := Lib.hid (SNx.out.below hB)
  replace SDx := Lib.hid (SDx.out.below hB)
  replace Dv := Lib.hid (Dv.out.below hB)
  replace SNv := Lib.hid (SNv.out.below hB)
  replace SDv := Lib.hid (SDv.out.below hB)
  replace Dy1 := Lib.hid (Dy1.out.below hB)
  replace SNy1 := Lib.hid (SNy1.out.below hB)
  replace SDy1 := Lib.hid (SDy1.out.below hB)
  replace Dg1 := Lib.hid (Dg1.out.below hB)
  replace SNg1 := Lib.hid (SNg1.out.below hB)
  replace SDg1 := Lib.hid (SDg1.out.below hB)
  replace Dp := Lib.hid (Dp.out.below hB)
  replace SNp := Lib.hid (SNp.out.below hB)
  replace SDp := Lib.hid (SDp.out.below hB)
  replace Dq := Lib.hid (Dq.out.below hB)
  replace SNq := Lib.hid (SNq.out.below hB)
  replace SDq := Lib.hid (SDq.out.below hB)
  replace Dr := Lib.hid (Dr.out.below hB)
  replace SNr := Lib.hid (SNr.out.below hB)
  replace SDr := Lib.hid (SDr.out.below hB)
  replace HB := Lib.hid (HB.out.trans (Below.mono hB HB.out.size))
  replace lwz := Nat.lt_of_lt_of_le lwz gs
  replace lwx := Nat.lt_of_lt_of_le lwx gs
  replace lwv := Nat.lt_of_lt_of_le lwv gs
  replace lwy1 := Nat.lt_of_lt_of_le lwy1 gs
  replace lwg1 := Nat.lt_of_lt_of_le lwg1 gs
  replace lwp := Nat.lt_of_lt_of_le lwp gs
  replace lwq := Nat.lt_of_lt_of_le lwq gs
  replace lwr := Nat.lt_of_lt_of_le lwr gs
  replace Ds := Lib.hid Ds
  have SNs := Lib.hid ss
  have SDs := Lib.hid ts
  clear hB gs ss ts
  go_upto_region 10 with fail
  have lwz := Dz.out.lt
  have lwx := Dx.out.lt
  have lwv := Dv.out.lt
  have lwy1 := Dy1.out.lt
  have lwg1 := Dg1.out.lt
  have lwp := Dp.out.lt
  have lwq := Dq.out.lt
  have lwr := Dr.out.lt
  have lws := Ds.out.lt
  refine wp_region_calm 5 [4] ([fun vq wq => ∃ u0, vq = .tuple #[u0, .bool false] ∧ RV wq u0 ((0 : Rat)),
      fun vq wq => ∃ u0, vq = .tuple #[u0, .bool false] ∧ RV wq u0 ((0 : Rat)),
      fun vq wq => RV wq vq ((0 : Rat)),
      fun vq _ => vq = .bool false,
      fun vq wq => ∃ bq, vq = .pointer (some ⟨bq, 0, none⟩) ∧ BoxN wq bq 26 #[.bool false, .slice none 0 0, .slice none 0 0] ∧ (y18).heap.size ≤ bq]) (by kernel_rfl) (by decide) ?_ ?_ ?_
  · intro j hj v w h
    simp only [List.mem_cons, List.not_mem_nil, or_false] at hj
    subst hj
    all_goals (obtain ⟨b, rfl, hB, _⟩ := h; exact hB.lt)
  · refine po rfl (fun lq aq wq hk hr K hK => ?_) ?_
    · exact cc hK (by go_simp) (qparse_v wq (HL.out.below (HB.out.trans (Below.mono hk.ext HB.out.size))) kf17 (by decide) rfl) (fun u w1 hu w2 h2 => (let ⟨u0, e0, h0⟩ := hu; ⟨u0, e0, (h0).grow h2⟩))
    refine po rfl (fun lq aq wq hk hr K hK => ?_) ?_
    · obtain ⟨v0, E0, r0⟩ := hk.dp hr 0 60 (by kernel_rfl)
      have r0 : ∃ u0, v0 = .tuple #[u0, .bool false] ∧ RV wq u0 ((0 : Rat)) := r0 wq (Grows.refl wq)
      exact vc hK (by go_simp) (fun w2 h2 => (let ⟨u0, e0, h0⟩ := r0; ⟨u0, e0, (h0).grow h2⟩))
    refine po rfl (fun lq aq wq hk hr K hK => ?_) ?_
    · obtain ⟨v1, E1, r1⟩ := hk.dp hr 1 59 (by kernel_rfl)
      have r1 : ∃ u0, v1 = .tuple #[u0, .bool false] ∧ RV wq u0 ((0 : Rat)) := r1 wq (Grows.refl wq)
      obtain ⟨u0, rfl, h0⟩ := r1
      exact vc hK (by go_simp) (fun w2 h2 => (h0).grow h2)
    refine po rfl (fun lq aq wq hk hr K hK => ?_) ?_
    · obtain ⟨v1, E1, r1⟩ := hk.dp hr 1 59 (by kernel_rfl)
      have r1 : ∃ u0, v1 = .tuple #[u0, .bool false] ∧ RV wq u0 ((0 : Rat)) := r1 wq (Grows.refl wq)
      obtain ⟨u0, rfl, h0⟩ := r1
      exact vc hK (by go_simp) (fun w2 h2 => rfl)
    refine po rfl (fun lq aq wq hk hr K hK => ?_) ?_
    · exact wp_of_value (by go_simp) (hK.out _ _ ((Grows.refl _).alloc _) (fun w2 h2 => ⟨_, rfl, (BoxN.new wq 26 _).below h2, hk.ext.size⟩) (fun _ => Nat.le_refl _))
    exact AllOps.nil
  intro V x19 hG hV hap
  have r2 : RV x19 (V 2) ((0 : Rat)) := hV 2 (by decide)
  have r3 : (V 3) = .bool false := hV 3 (by decide)
  have r4 : ∃ bq, (V 4) = .pointer (some ⟨bq, 0, none⟩) ∧ BoxN x19 bq 26 #[.bool false, .slice none 0 0, .slice none 0 0] ∧ (y18).heap.size ≤ bq := hV 4 (by decide)
  clear hV
  simp only [List.take_succ_cons, List.take_zero, List.drop_succ_cons, List.drop_zero, putAll, Act.put, List.setIfInBounds_toArray, List.set_cons_zero, List.set_cons_succ]
  have hb := (show Below _ _ _ from hG)
  obtain ⟨bt, et, Dt, gt⟩ := r4
  obtain ⟨nt, At, kt, ct, Bt, jt, dt, et9, st, tt, hdt⟩ := r2
  simp only [et, et9, r3]
  clear et et9 hap hG r3
  replace Dt : Box3 _ bt 26 (.bool false) (.slice none 0 0) (.slice none 0 0) := Dt
  refine wpList_of_skip rfl (op_store3 16 61 _ rfl rfl Dt) ?_
  have hB := put3_below (x' := .bool nt) (y' := .slice At kt ct) (z' := .slice Bt jt dt) hb gt
  replace st := st.put3 Dt (.bool nt) (.slice At kt ct) (.slice Bt jt dt)
  replace tt := tt.put3 Dt (.bool nt) (.slice At kt ct) (.slice Bt jt dt)
  replace Dt := put3_own (x' := .bool nt) (y' := .slice At kt ct) (z' := .slice Bt jt dt) Dt
  clear hb
  generalize put3 x19 bt (.bool nt) (.slice At kt ct) (.slice Bt jt dt) = y20 at *
  replace Dz := Lib.hid (Dz.out.below hB)
  replace SNz := Lib.hid (SNz.out.below hB)
  replace SDz := Lib.hid (SDz.out.below hB)
  replace Dx := Lib.hid (Dx.out.below hB)
  replace SNx := Lib.hid (SNx.out.below hB)
  replace SDx := Lib.hid (SDx.out.below hB)
  replace Dv := Lib.hid (Dv.out.below hB)
  replace SNv := Lib.hid (SNv.out.below hB)
  replace SDv := Lib.hid (SDv.out.below hB)
  replace Dy1 := Lib.hid (Dy1.out.below hB)
  replace SNy1 := Lib.hid (SNy1.out.below hB)
  replace SDy1 := Lib.hid (SDy1.out.below hB)
  replace Dg1 := Lib.hid (Dg1.out.below hB)
  replace SNg1 := Lib.hid (SNg1.out.below hB)
  replace SDg1 := Lib.hid (SDg1.out.below hB)
  replace Dp := Lib.hid (Dp.out.below hB)
  replace SNp := Lib.hid (SNp.out.below hB)
  replace SDp := Lib.hid (SDp.out.below hB)
  replace Dq := Lib.hid (Dq.out.below hB)
  replace SNq := Lib.hid (SNq.out.below hB)
  replace SDq := Lib.hid (SDq.out.below hB)
  replace Dr := Lib.hid (Dr.out.below hB)
  replace SNr := Lib.hid (SNr.out.below hB)
  replace SDr := Lib.hid (SDr.out.below hB)
  replace Ds := Lib.hid (Ds.out.below hB)
  replace SNs := Lib.hid (SNs.out.below hB)
  replace SDs := Lib.hid (SDs.out.below hB)
  replace HB := Lib.hid (HB.out.trans (Below.mono hB HB.out.size))
  replace lwz := Nat.lt_of_lt_of_le lwz gt
  replace lwx := Nat.lt_of_lt_of_le lwx gt
  replace lwv := Nat.lt_of_lt_of_le lwv gt
  replace lwy1 := Nat.lt_of_lt_of_le lwy1 gt
  replace lwg1 := Nat.lt_of_lt_of_le lwg1 gt
  replace lwp := Nat.lt_of_lt_of_le lwp gt
  replace lwq := Nat.lt_of_lt_of_le lwq gt
  replace lwr := Nat.lt_of_lt_of_le lwr gt
  replace lws := Nat.lt_of_lt_of_le lws gt
  replace Dt := Lib.hid Dt
  have SNt := Lib.hid st
  have SDt := Lib.hid tt
  clear hB gt st tt
  go_upto_region 11 with fail
  have lwz := Dz.out.lt
  have lwx := Dx.out.lt
  have lwv := Dv.out.lt
  have lwy1 := Dy1.out.lt
  have lwg1 := Dg1.out.lt
  have lwp := Dp.out.lt
  have lwq := Dq.out.lt
  have lwr := Dr.out.lt
  have lws := Ds.out.lt
  have lwt := Dt.out.lt
  refine wp_region_calm 5 [4] ([fun vq wq => ∃ u0, vq = .tuple #[u0, .bool true] ∧ RV wq u0 ((mkRat (0) (dn 1))),
      fun vq wq => ∃ u0, vq = .tuple #[u0, .bool true] ∧ RV wq u0 ((mkRat (0) (dn 1))),
      fun vq wq => RV wq vq ((mkRat (0) (dn 1))),
      fun vq _ => vq = .bool true,
      fun vq wq => ∃ bq, vq = .pointer (some ⟨bq, 0, none⟩) ∧ BoxN wq bq 26 #[.bool false, .slice none 0 0, .slice none 0 0] ∧ (y20).heap.size ≤ bq]) (by kernel_rfl) (by decide) ?_ ?_ ?_
  · intro j hj v w h
    simp only [List.mem_cons, List.not_mem_nil, or_false] at hj
    subst hj
    all_goals (obtain ⟨b, rfl, hB, _⟩ := h; exact hB.lt)
  · refine po rfl (fun lq aq wq hk hr K hK => ?_) ?_
    · exact cc hK (by go_simp) (qparse_v wq (HL.out.below (HB.out.trans (Below.mono hk.ext HB.out.size))) kf24 (by decide) rfl) (fun u w1 hu w2 h2 => (let ⟨u0, e0, h0⟩ := hu; ⟨u0, e0, (h0).grow h2⟩))
    refine po rfl (fun lq aq wq hk hr K hK => ?_) ?_
    · obtain ⟨v0, E0, r0⟩ := hk.dp hr 0 64 (by kernel_rfl)
      have r0 : ∃ u0, v0 = .tuple #[u0, .bool true] ∧ RV wq u0 ((mkRat (0) (dn 1))) := r0 wq (Grows.refl wq)
      exact vc hK (by go_simp) (fun w2 h2 => (let ⟨u0, e0, h0⟩ := r0; ⟨u0, e0, (h0).grow h2⟩))
    refine po rfl (fun lq aq wq hk hr K hK => ?_) ?_
    · obtain ⟨v1, E1, r1⟩ := hk.dp hr 1 63 (by kernel_rfl)
      have r1 : ∃ u0, v1 = .tuple #[u0, .bool true] ∧ RV wq u0 ((mkRat (0) (dn 1))) := r1 wq (Grows.refl wq)
      obtain ⟨u0, rfl, h0⟩ := r1
      exact vc hK (by go_simp) (fun w2 h2 => (h0).grow h2)
    refine po rfl (fun lq aq wq hk hr K hK => ?_) ?_
    · obtain ⟨v1, E1, r1⟩ := hk.dp hr 1 63 (by kernel_rfl)
      have r1 : ∃ u0, v1 = .tuple #[u0, .bool true] ∧ RV wq u0 ((mkRat (0) (dn 1))) := r1 wq (Grows.refl wq)
      obtain ⟨u0, rfl, h0⟩ := r1
      exact vc hK (by go_simp) (fun w2 h2 => rfl)
    refine po rfl (fun lq aq wq hk hr K hK => ?_) ?_
    · exact wp_of_value (by go_simp) (hK.out _ _ ((Grows.refl _).alloc _) (fun w2 h2 => ⟨_, rfl, (BoxN.new wq 26 _).below h2, hk.ext.size⟩) (fun _ => Nat.le_refl _))
    exact AllOps.nil
  intro V x21 hG hV hap
  have r2 : RV x21 (V 2) ((mkRat (0) (dn 1))) := hV 2 (by decide)
  have r3 : (V 3) = .bool true := hV 3 (by decide)
  have r4 : ∃ bq, (V 4) = .pointer (some ⟨bq, 0, none⟩) ∧ BoxN x21 bq 26 #[.bool false, .slice none 0 0, .slice none 0 0] ∧ (y20).heap.size ≤ bq := hV 4 (by decide)
  clear hV
  simp only [List.take_succ_cons, List.take_zero, List.drop_succ_cons, List.drop_zero, putAll, Act.put, List.setIfInBounds_toArray, List.set_cons_zero, List.set_cons_succ]
  have hb := (show Below _ _ _ from hG)
  obtain ⟨bh, eh, Dh, gh⟩ := r4
  obtain ⟨nh, Ah, kh, ch, Bh, jh, dh, eh9, sh, th, hdh⟩ := r2
  simp only [eh, eh9, r3]
  clear eh eh9 hap hG r3
  replace Dh : Box3 _ bh 26 (.bool false) (.slice none 0 0) (.slice none 0 0) := Dh
  refine wpList_of_skip rfl (op_store3 18 65 _ rfl rfl Dh) ?_
  have hB := put3_below (x' := .bool nh) (y' := .slice Ah kh ch) (z' := .slice Bh jh dh) hb gh
  replace sh := sh.put3 Dh (.bool nh) (.slice Ah kh ch) (.slice Bh jh dh)
  replace th := th.put3 Dh (.bool nh) (.slice Ah kh ch) (.slice Bh jh dh)
  replace Dh := put3_own (x' := .bool nh) (y' := .slice Ah kh ch) (z' := .slice Bh jh dh) Dh
  clear hb
  generalize put3 x21 bh (.bool nh) (.slice Ah kh ch) (.slice Bh jh dh) = y22 at *
  replace Dz := Lib.hid (Dz.out.below hB)
  replace SNz := Lib.hid (SNz.out.below hB)
  replace SDz := Lib.hid (SDz.out.below hB)
  replace Dx := Lib.hid (Dx.out.below hB)
  replace SNx := Lib.hid (SNx.out.below hB)
  replace SDx := Lib.hid (SDx.out.below hB)
  replace Dv := Lib.hid (Dv.out.below hB)
  replace SNv := Lib.hid (SNv.out.below hB)
  replace SDv := Lib.hid (SDv.out.below hB)
  replace Dy1 := Lib.hid (Dy1.out.below hB)
  replace SNy1 := Lib.hid (SNy1.out.below hB)
  replace SDy1 := Lib.hid (SDy1.out.below hB)
  replace Dg1 := Lib.hid (Dg1.out.below hB)
  replace SNg1 := Lib.hid (SNg1.out.below hB)
  replace SDg1 := Lib.hid (SDg1.out.below hB)
  replace Dp := Lib.hid (Dp.out.below hB)
  replace SNp := Lib.hid (SNp.out.below hB)
  replace SDp := Lib.hid (SDp.out.below hB)
  replace Dq := Lib.hid (Dq.out.below hB)
  replace SNq := Lib.hid (SNq.out.below hB)
  replace SDq := Lib.hid (SDq.out.below hB)
  replace Dr := Lib.hid (Dr.out.below hB)
  replace SNr := Lib.hid (SNr.out.below hB)
  replace SDr := Lib.hid (SDr.out.below hB)
  replace Ds := Lib.hid (Ds.out.below hB)
  replace SNs := Lib.hid (SNs.out.below hB)
  replace SDs := Lib.hid (SDs.out.below hB)
  replace Dt := Lib.hid (Dt.out.below hB)
  replace SNt := Lib.hid (SNt.out.below hB)
  replace SDt := Lib.hid (SDt.out.below hB)
  replace HB := Lib.hid (HB.out.trans (Below.mono hB HB.out.size))
  replace lwz := Nat.lt_of_lt_of_le lwz gh
  replace lwx := Nat.lt_of_lt_of_le lwx gh
  replace lwv := Nat.lt_of_lt_of_le lwv gh
  replace lwy1 := Nat.lt_of_lt_of_le lwy1 gh
  replace lwg1 := Nat.lt_of_lt_of_le lwg1 gh
  replace lwp := Nat.lt_of_lt_of_le lwp gh
  replace lwq := Nat.lt_of_lt_of_le lwq gh
  replace lwr := Nat.lt_of_lt_of_le lwr gh
  replace lws := Nat.lt_of_lt_of_le lws gh
  replace lwt := Nat.lt_of_lt_of_le lwt gh
  replace Dh := Lib.hid Dh
  have SNh := Lib.hid sh
  have SDh := Lib.hid th
  clear hB gh sh th
  go_upto_region 12 with fail
  have lwz := Dz.out.lt
  have lwx := Dx.out.lt
  have lwv := Dv.out.lt
  have lwy1 := Dy1.out.lt
  have lwg1 := Dg1.out.lt
  have lwp := Dp.out.lt
  have lwq := Dq.out.lt
  have lwr := Dr.out.lt
  have lws := Ds.out.lt
  have lwt := Dt.out.lt
  have lwh := Dh.out.lt
  refine wp_region_calm 2 [1] ([fun vq wq => RV wq vq ((((-9223372036854775808) : Int) : Rat)),
      fun vq wq => ∃ bq, vq = .pointer (some ⟨bq, 0, none⟩) ∧ BoxN wq bq 26 #[.bool false, .slice none 0 0, .slice none 0 0] ∧ (y22).heap.size ≤ bq]) (by kernel_rfl) (by decide) ?_ ?_ ?_
  · intro j hj v w h
    simp only [List.mem_cons, List.not_mem_nil, or_false] at hj
    subst hj
    all_goals (obtain ⟨b, rfl, hB, _⟩ := h; exact hB.lt)
  · refine po rfl (fun lq aq wq hk hr K hK => ?_) ?_
    · exact cc hK (by go_simp) (rfrom_v wq ((-9223372036854775808)) (by decide) (by decide)) (fun u w1 hu w2 h2 => (hu).grow h2)
    refine po rfl (fun lq aq wq hk hr K hK => ?_) ?_
    · exact wp_of_value (by go_simp) (hK.out _ _ ((Grows.refl _).alloc _) (fun w2 h2 => ⟨_, rfl, (BoxN.new wq 26 _).below h2, hk.ext.size⟩) (fun _ => Nat.le_refl _))
    exact AllOps.nil
  intro V x23 hG hV hap
  have r0 : RV x23 (V 0) ((((-9223372036854775808) : Int) : Rat)) := hV 0 (by decide)
  have r1 : ∃ bq, (V 1) = .pointer (some ⟨bq, 0, none⟩) ∧ BoxN x23 bq 26 #[.bool false, .slice none 0 0, .slice none 0 0] ∧ (y22).heap.size ≤ bq := hV 1 (by decide)
  clear hV
  simp only [List.take_succ_cons, List.take_zero, List.drop_succ_cons, List.drop_zero, putAll, Act.put, List.setIfInBounds_toArray, List.set_cons_zero, List.set_cons_succ]
  have hb := (show Below _ _ _ from hG)
  obtain ⟨bm, em, Dm, gm⟩ := r1
  obtain ⟨nm, Am, km, cm, Bm, jm, dm, em9, sm, tm, hdm⟩ := r0
  simp only [em, em9]
  clear em em9 hap hG
  replace Dm : Box3 _ bm 26 (.bool false) (.slice none 0 0) (.slice none 0 0) := Dm
  refine wpList_of_skip rfl (op_store3 20 67 _ rfl rfl Dm) ?_
  have hB := put3_below (x' := .bool nm) (y' := .slice Am km cm) (z' := .slice Bm jm dm) hb gm
  replace sm := sm.put3 Dm (.bool nm) (.slice Am km cm) (.slice Bm jm dm)
  replace tm := tm.put3 Dm (.bool nm) (.slice Am km cm) (.slice Bm jm dm)
  replace Dm := put3_own (x' := .bool nm) (y' := .slice Am km cm) (z' := .slice Bm jm dm) Dm
  clear hb
  generalize put3 x23 bm (.bool nm) (.slice Am km cm) (.slice Bm jm dm) = y24 at *
  replace Dz := Lib.hid (Dz.out.below hB)
  replace SNz := Lib.hid (SNz.out.below hB)
  replace SDz := Lib.hid (SDz.out.below hB)
  replace Dx := Lib.hid (Dx.out.below hB)
  replace SNx := Lib.hid (SNx.out.below hB)
  replace SDx := Lib.hid (SDx.out.below hB)
  replace Dv := Lib.hid (Dv.out.below hB)
  replace SNv := Lib.hid (SNv.out.below hB)
  replace SDv := Lib.hid (SDv.out.below hB)
  replace Dy1 := Lib.hid (Dy1.out.below hB)
  replace SNy1 := Lib.hid (SNy1.out.below hB)
  replace SDy1 := Lib.hid (SDy1.out.below hB)
  replace Dg1 := Lib.hid (Dg1.out.below hB)
  replace SNg1 := Lib.hid (SNg1.out.below hB)
  replace SDg1 := Lib.hid (SDg1.out.below hB)
  replace Dp := Lib.hid (Dp.out.below hB)
  replace SNp := Lib.hid (SNp.out.below hB)
  replace SDp := Lib.hid (SDp.out.below hB)
  replace Dq := Lib.hid (Dq.out.below hB)
  replace SNq := Lib.hid (SNq.out.below hB)
  replace SDq := Lib.hid (SDq.out.below hB)
  replace Dr := Lib.hid (Dr.out.below hB)
  replace SNr := Lib.hid (SNr.out.below hB)
  replace SDr := Lib.hid (SDr.out.below hB)
  replace Ds := Lib.hid (Ds.out.below hB)
  replace SNs := Lib.hid (SNs.out.below hB)
  replace SDs := Lib.hid (SDs.out.below hB)
  replace Dt := Lib.hid (Dt.out.below hB)
  replace SNt := Lib.hid (SNt.out.below hB)
  replace SDt := Lib.hid (SDt.out.below hB)
  replace Dh := Lib.hid (Dh.out.below hB)
  replace SNh := Lib.hid (SNh.out.below hB)
  replace SDh := Lib.hid (SDh.out.below hB)
  replace HB := Lib.hid (HB.out.trans (Below.mono hB HB.out.size))
  replace lwz := Nat.lt_of_lt_of_le lwz gm
  replace lwx := Nat.lt_of_lt_of_le lwx gm
  replace lwv := Nat.lt_of_lt_of_le lwv gm
  replace lwy1 := Nat.lt_of_lt_of_le lwy1 gm
  replace lwg1 := Nat.lt_of_lt_of_le lwg1 gm
  replace lwp := Nat.lt_of_lt_of_le lwp gm
  replace lwq := Nat.lt_of_lt_of_le lwq gm
  replace lwr := Nat.lt_of_lt_of_le lwr gm
  replace lws := Nat.lt_of_lt_of_le lws gm
  replace lwt := Nat.lt_of_lt_of_le lwt gm
  replace lwh := Nat.lt_of_lt_of_le lwh gm
  replace Dm := Lib.hid Dm
  have SNm := Lib.hid sm
  have SDm := Lib.hid tm
  clear hB gm sm tm
  go_upto_region 13 with fail
  refine wp_region_going 95 [] ([fun vq _ => vq = .bool true,
      fun vq _ => vq = .bool true,
      fun vq _ => vq = .bool true,
      fun vq _ => vq = .bool true,
      fun vq _ => vq = .int .i64 3,
      fun vq _ => vq = .bool true,
      fun vq _ => vq = .bool true,
      fun vq _ => vq = .bool true,
      fun vq _ => vq = .int .i64 3,
      fun vq _ => vq = .bool true,
      fun vq _ => vq = .bool true,
      fun vq _ => vq = .bool true,
      fun vq wq => QL wq vq true [0] [0, 0],
      fun vq _ => vq = .bool false,
      fun vq _ => vq = .bool true,
      fun vq _ => vq = .bool true,
      fun vq _ => vq = .bool true,
      fun vq wq => QL wq vq true [0] [0, 0],
      fun vq _ => vq = .int .i64 0,
      fun vq _ => vq = .bool true,
      fun vq _ => vq = .bool true,
      fun vq _ => vq = .bool true,
      fun vq wq => QL wq vq true [0] [0, 0],
      fun vq _ => vq = .string (⟨#[48]⟩),
      fun vq _ => vq = .bool true,
      fun vq _ => vq = .bool true,
      fun vq _ => vq = .bool true,
      fun vq wq => QL wq vq false [0, 2] [0, 4],
      fun vq _ => vq = .bool false,
      fun vq _ => vq = .bool true,
      fun vq _ => vq = .bool true,
      fun vq _ => vq = .bool true,
      fun vq wq => QL wq vq false [0, 2] [0, 4],
      fun vq _ => vq = .string (⟨#[49, 47, 50]⟩),
      fun vq _ => vq = .bool true,
      fun vq _ => vq = .bool true,
      fun vq _ => vq = .bool true,
      fun vq wq => QL wq vq false [0, 2] [0, 4],
      fun vq wq => RV wq vq ((-(lrat false [0, 2] [0, 4]))),
      fun vq _ => vq = .string (⟨#[45, 49, 47, 50]⟩),
      fun vq _ => vq = .bool true,
      fun vq _ => vq = .bool true,
      fun vq _ => vq = .bool true,
      fun vq _ => vq = .bool false,
      fun vq _ => vq = .bool true,
      fun vq _ => vq = .bool true,
      fun vq _ => vq = .bool true,
      fun vq _ => vq = .bool false,
      fun vq _ => vq = .bool true,
      fun vq _ => vq = .bool true,
      fun vq _ => vq = .bool true,
      fun vq _ => vq = .bool false,
      fun vq _ => vq = .bool true,
      fun vq _ => vq = .bool true,
      fun vq _ => vq = .bool true,
      fun vq _ => vq = .bool false,
      fun vq _ => vq = .bool true,
      fun vq _ => vq = .bool true,
      fun vq _ => vq = .bool true,
      fun vq _ => vq = .bool false,
      fun vq _ => vq = .bool true,
      fun vq _ => vq = .bool true,
      fun vq _ => vq = .bool true,
      fun vq _ => vq = .bool true,
      fun vq _ => vq = .bool true,
      fun vq _ => vq = .bool true,
      fun vq wq => RV wq vq ((mkRat (0) (dn 1))),
      fun vq _ => vq = .int .i64 0,
      fun vq _ => vq = .bool true,
      fun vq _ => vq = .bool true,
      fun vq _ => vq = .bool true,
      fun vq wq => RV wq vq ((mkRat (0) (dn 1))),
      fun vq _ => vq = .bool true,
      fun vq _ => vq = .bool true,
      fun vq _ => vq = .bool true,
      fun vq wq => QL wq vq false [] [],
      fun vq _ => vq = .bool false,
      fun vq _ => vq = .bool true,
      fun vq _ => vq = .bool true,
      fun vq _ => vq = .bool true,
      fun vq wq => QV wq vq ((0 : Rat)),
      fun vq _ => vq = .bool true,
      fun vq _ => vq = .bool true,
      fun vq _ => vq = .bool true,
      fun vq wq => RV wq vq ((((-9223372036854775808) : Int) : Rat)),
      fun vq _ => vq = .string (⟨#[45, 57, 50, 50, 51, 51, 55, 50, 48, 51, 54, 56, 53, 52, 55, 55, 53, 56, 48, 56]⟩),
      fun vq _ => vq = .bool true,
      fun vq _ => vq = .bool true,
      fun vq _ => vq = .bool true,
      fun vq wq => RV wq vq ((((-9223372036854775808) : Int) : Rat)),
      fun vq wq => RV wq vq (((1 : Int) : Rat)),
      fun vq wq => RV wq vq (((((-9223372036854775808) : Int) : Rat) - ((1 : Int) : Rat))),
      fun vq _ => vq = .string (⟨#[45, 57, 50, 50, 51, 51, 55, 50, 48, 51, 54, 56, 53, 52, 55, 55, 53, 56, 48, 57]⟩),
      fun vq _ => vq = .bool true,
      fun vq _ => vq = .bool true]) (by kernel_rfl) (by kernel_rfl) (by decide) (by kernel_rfl) (by kernel_rfl) ?_ ?_ ?_
  · intro j hj; cases hj
  · refine po rfl (fun lq aq wq hk hr K hK => ?_) ?_
    · exact vc hK (by go_simp) (fun w2 h2 => rfl)
    refine AllOps.cons (Does.lets (g := 0) (d := 68) (t := true) rfl (by kernel_rfl) (by kernel_rfl) (fun vq wq h => h wq (Grows.refl wq)) fun lq aq wq hk hr K hK => ?_) ?_
    · exact cc hK (by go_simp) (qworks_v wq (HL.out.below (HB.out.trans (Below.mono (grows_of hk.ext) HB.out.size)))) (fun u w1 hu w2 h2 => hu)
    refine po rfl (fun lq aq wq hk hr K hK => ?_) ?_
    · have E0 : ev aq (.tmp 68) = .bool true := hk.dc hr 0 (by kernel_rfl) fun _ w h => h w (Grows.refl w)
      have E1 : ev aq (.tmp 69) = .bool true := hk.dc hr 1 (by kernel_rfl) fun _ w h => h w (Grows.refl w)
      exact vc hK (by go_simp) (fun w2 h2 => rfl)
    refine po rfl (fun lq aq wq hk hr K hK => ?_) ?_
    · have E2 : ev aq (.tmp 70) = .bool true := hk.dc hr 2 (by kernel_rfl) fun _ w h => h w (Grows.refl w)
      exact vc hK (by go_simp) (fun w2 h2 => rfl)
    refine AllOps.cons (Does.lets (g := 3) (d := 71) (t := true) rfl (by kernel_rfl) (by kernel_rfl) (fun vq wq h => h wq (Grows.refl wq)) fun lq aq wq hk hr K hK => ?_) ?_
    · have B3 : ev aq (.tmp 3) = .int .i64 3 := hk.base 3 (by kernel_rfl) rfl
      exact vc hK (by go_simp) (fun w2 h2 => rfl)
    refine AllOps.cons (Does.lets (g := 3) (d := 71) (t := true) rfl (by kernel_rfl) (by kernel_rfl) (fun vq wq h => h wq (Grows.refl wq)) fun lq aq wq hk hr K hK => ?_) ?_
    · have E4 : ev aq (.tmp 72) = .int .i64 3 := hk.dc hr 4 (by kernel_rfl) fun _ w h => h w (Grows.refl w)
      exact vc hK (by go_simp) (fun w2 h2 => rfl)
    refine po rfl (fun lq aq wq hk hr K hK => ?_) ?_
    · have E3 : ev aq (.tmp 71) = .bool true := hk.dc hr 3 (by kernel_rfl) fun _ w h => h w (Grows.refl w)
      have E5 : ev aq (.tmp 73) = .bool true := hk.dc hr 5 (by kernel_rfl) fun _ w h => h w (Grows.refl w)
      exact vc hK (by go_simp) (fun w2 h2 => rfl)
    refine po rfl (fun lq aq wq hk hr K hK => ?_) ?_
    · have E6 : ev aq (.tmp 74) = .bool true := hk.dc hr 6 (by kernel_rfl) fun _ w h => h w (Grows.refl w)
      exact vc hK (by go_simp) (fun w2 h2 => rfl)
    refine AllOps.cons (Does.lets (g := 7) (d := 75) (t := true) rfl (by kernel_rfl) (by kernel_rfl) (fun vq wq h => h wq (Grows.refl wq)) fun lq aq wq hk hr K hK => ?_) ?_
    · have B5 : ev aq (.tmp 5) = .int .i64 3 := hk.base 5 (by kernel_rfl) rfl
      exact vc hK (by go_simp) (fun w2 h2 => rfl)
    refine AllOps.cons (Does.lets (g := 7) (d := 75) (t := true) rfl (by kernel_rfl) (by kernel_rfl) (fun vq wq h => h wq (Grows.refl wq)) fun lq aq wq hk hr K hK => ?_) ?_
    · have E8 : ev aq (.tmp 76) = .int .i64 3 := hk.dc hr 8 (by kernel_rfl) fun _ w h => h w (Grows.refl w)
      exact vc hK (by go_simp) (fun w2 h2 => rfl)
    refine po rfl (fun lq aq wq hk hr K hK => ?_) ?_
    · have E7 : ev aq (.tmp 75) = .bool true := hk.dc hr 7 (by kernel_rfl) fun _ w h => h w (Grows.refl w)
      have E9 : ev aq (.tmp 77) = .bool true := hk.dc hr 9 (by kernel_rfl) fun _ w h => h w (Grows.refl w)
      exact vc hK (by go_simp) (fun w2 h2 => rfl)
    refine po rfl (fun lq aq wq hk hr K hK => ?_) ?_
    · have E10 : ev aq (.tmp 78) = .bool true := hk.dc hr 10 (by kernel_rfl) fun _ w h => h w (Grows.refl w)
      exact vc hK (by go_simp) (fun w2 h2 => rfl)
    refine AllOps.cons (Does.lets (g := 11) (d := 79) (t := true) rfl (by kernel_rfl) (by kernel_rfl) (fun vq wq h => h wq (Grows.refl wq)) fun lq aq wq hk hr K hK => ?_) ?_
    · have B6 : ev aq (.tmp 6) = .pointer (some ⟨by1, 0, none⟩) := hk.base 6 (by kernel_rfl) rfl
      have hb := grows_of hk.ext
      exact vc hK (op_load3 6 _ B6 (Dy1.out.below hb)) (fun w2 h2 => QL.grow ⟨_, _, _, _, rfl, (SNy1.out.below hb), (SDy1.out.below hb), hly1, hmy1⟩ h2)
    refine AllOps.cons (Does.lets (g := 11) (d := 79) (t := true) rfl (by kernel_rfl) (by kernel_rfl) (fun vq wq h => h wq (Grows.refl wq)) fun lq aq wq hk hr K hK => ?_) ?_
    · obtain ⟨v12, E12, r12⟩ := hk.dp hr 12 80 (by kernel_rfl)
      have r12 : QL wq v12 true [0] [0, 0] := r12 wq (Grows.refl wq)
      exact cc hK (by go_simp) (qright_v wq r12 (t := false) kf26) (fun u w1 hu w2 h2 => hu)
    refine AllOps.cons (Does.lets (g := 11) (d := 79) (t := true) rfl (by kernel_rfl) (by kernel_rfl) (fun vq wq h => h wq (Grows.refl wq)) fun lq aq wq hk hr K hK => ?_) ?_
    · have E13 : ev aq (.tmp 81) = .bool false := hk.dc hr 13 (by kernel_rfl) fun _ w h => h w (Grows.refl w)
      exact vc hK (by go_simp) (fun w2 h2 => rfl)
    refine po rfl (fun lq aq wq hk hr K hK => ?_) ?_
    · have E11 : ev aq (.tmp 79) = .bool true := hk.dc hr 11 (by kernel_rfl) fun _ w h => h w (Grows.refl w)
      have E14 : ev aq (.tmp 82) = .bool true := hk.dc hr 14 (by kernel_rfl) fun _ w h => h w (Grows.refl w)
      exact vc hK (by go_simp) (fun w2 h2 => rfl)
    refine po rfl (fun lq aq wq hk hr K hK => ?_) ?_
    · have E15 : ev aq (.tmp 83) = .bool true := hk.dc hr 15 (by kernel_rfl) fun _ w h => h w (Grows.refl w)
      exact vc hK (by go_simp) (fun w2 h2 => rfl)
    refine AllOps.cons (Does.lets (g := 16) (d := 84) (t := true) rfl (by kernel_rfl) (by kernel_rfl) (fun vq wq h => h wq (Grows.refl wq)) fun lq aq wq hk hr K hK => ?_) ?_
    · have B6 : ev aq (.tmp 6) = .pointer (some ⟨by1, 0, none⟩) := hk.base 6 (by kernel_rfl) rfl
      have hb := grows_of hk.ext
      exact vc hK (op_load3 6 _ B6 (Dy1.out.below hb)) (fun w2 h2 => QL.grow ⟨_, _, _, _, rfl, (SNy1.out.below hb), (SDy1.out.below hb), hly1, hmy1⟩ h2)
    refine AllOps.cons (Does.lets (g := 16) (d := 84) (t := true) rfl (by kernel_rfl) (by kernel_rfl) (fun vq wq h => h wq (Grows.refl wq)) fun lq aq wq hk hr K hK => ?_) ?_
    · obtain ⟨v17, E17, r17⟩ := hk.dp hr 17 85 (by kernel_rfl)
      have r17 : QL wq v17 true [0] [0, 0] := r17 wq (Grows.refl wq)
      exact cc hK (by go_simp) (qsign_v wq ((r17).qv.to rfl) (k := 0) kf29) (fun u w1 hu w2 h2 => hu)
    refine AllOps.cons (Does.lets (g := 16) (d := 84) (t := true) rfl (by kernel_rfl) (by kernel_rfl) (fun vq wq h => h wq (Grows.refl wq)) fun lq aq wq hk hr K hK => ?_) ?_
    · have E18 : ev aq (.tmp 86) = .int .i64 0 := hk.dc hr 18 (by kernel_rfl) fun _ w h => h w (Grows.refl w)
      exact vc hK (by go_simp) (fun w2 h2 => rfl)
    refine po rfl (fun lq aq wq hk hr K hK => ?_) ?_
    · have E16 : ev aq (.tmp 84) = .bool true := hk.dc hr 16 (by kernel_rfl) fun _ w h => h w (Grows.refl w)
      have E19 : ev aq (.tmp 87) = .bool true := hk.dc hr 19 (by kernel_rfl) fun _ w h => h w (Grows.refl w)
      exact vc hK (by go_simp) (fun w2 h2 => rfl)
    refine po rfl (fun lq aq wq hk hr K hK => ?_) ?_
    · have E20 : ev aq (.tmp 88) = .bool true := hk.dc hr 20 (by kernel_rfl) fun _ w h => h w (Grows.refl w)
      exact vc hK (by go_simp) (fun w2 h2 => rfl)
    refine AllOps.cons (Does.lets (g := 21) (d := 89) (t := true) rfl (by kernel_rfl) (by kernel_rfl) (fun vq wq h => h wq (Grows.refl wq)) fun lq aq wq hk hr K hK => ?_) ?_
    · have B6 : ev aq (.tmp 6) = .pointer (some ⟨by1, 0, none⟩) := hk.base 6 (by kernel_rfl) rfl
      have hb := grows_of hk.ext
      exact vc hK (op_load3 6 _ B6 (Dy1.out.below hb)) (fun w2 h2 => QL.grow ⟨_, _, _, _, rfl, (SNy1.out.below hb), (SDy1.out.below hb), hly1, hmy1⟩ h2)
    refine AllOps.cons (Does.lets (g := 21) (d := 89) (t := true) rfl (by kernel_rfl) (by kernel_rfl) (fun vq wq h => h wq (Grows.refl wq)) fun lq aq wq hk hr K hK => ?_) ?_
    · obtain ⟨v22, E22, r22⟩ := hk.dp hr 22 90 (by kernel_rfl)
      have r22 : QL wq v22 true [0] [0, 0] := r22 wq (Grows.refl wq)
      exact cc hK (by go_simp) (qtext_v wq ((r22).qv.to rfl) (s := ⟨#[48]⟩) kf33) (fun u w1 hu w2 h2 => hu)
    refine AllOps.cons (Does.lets (g := 21) (d := 89) (t := true) rfl (by kernel_rfl) (by kernel_rfl) (fun vq wq h => h wq (Grows.refl wq)) fun lq aq wq hk hr K hK => ?_) ?_
    · have E23 : ev aq (.tmp 91) = .string (⟨#[48]⟩) := hk.dc hr 23 (by kernel_rfl) fun _ w h => h w (Grows.refl w)
      exact vc hK (by go_simp) (fun w2 h2 => rfl)
    refine po rfl (fun lq aq wq hk hr K hK => ?_) ?_
    · have E21 : ev aq (.tmp 89) = .bool true := hk.dc hr 21 (by kernel_rfl) fun _ w h => h w (Grows.refl w)
      have E24 : ev aq (.tmp 92) = .bool true := hk.dc hr 24 (by kernel_rfl) fun _ w h => h w (Grows.refl w)
      exact vc hK (by go_simp) (fun w2 h2 => rfl)
    refine po rfl (fun lq aq wq hk hr K hK => ?_) ?_
    · have E25 : ev aq (.tmp 93) = .bool true := hk.dc hr 25 (by kernel_rfl) fun _ w h => h w (Grows.refl w)
      exact vc hK (by go_simp) (fun w2 h2 => rfl)
    refine AllOps.cons (Does.lets (g := 26) (d := 94) (t := true) rfl (by kernel_rfl) (by kernel_rfl) (fun vq wq h => h wq (Grows.refl wq)) fun lq aq wq hk hr K hK => ?_) ?_
    · have B7 : ev aq (.tmp 7) = .pointer (some ⟨bg1, 0, none⟩) := hk.base 7 (by kernel_rfl) rfl
      have hb := grows_of hk.ext
      exact vc hK (op_load3 7 _ B7 (Dg1.out.below hb)) (fun w2 h2 => QL.grow ⟨_, _, _, _, rfl, (SNg1.out.below hb), (SDg1.out.below hb), hlg1, hmg1⟩ h2)
    refine AllOps.cons (Does.lets (g := 26) (d := 94) (t := true) rfl (by kernel_rfl) (by kernel_rfl) (fun vq wq h => h wq (Grows.refl wq)) fun lq aq wq hk hr K hK => ?_) ?_
    · obtain ⟨v27, E27, r27⟩ := hk.dp hr 27 95 (by kernel_rfl)
      have r27 : QL wq v27 false [0, 2] [0, 4] := r27 wq (Grows.refl wq)
      exact cc hK (by go_simp) (qright_v wq r27 (t := false) kf27) (fun u w1 hu w2 h2 => hu)
    refine AllOps.cons (Does.lets (g := 26) (d := 94) (t := true) rfl (by kernel_rfl) (by kernel_rfl) (fun vq wq h => h wq (Grows.refl wq)) fun lq aq wq hk hr K hK => ?_) ?_
    · have E28 : ev aq (.tmp 96) = .bool false := hk.dc hr 28 (by kernel_rfl) fun _ w h => h w (Grows.refl w)
      exact vc hK (by go_simp) (fun w2 h2 => rfl)
    refine po rfl (fun lq aq wq hk hr K hK => ?_) ?_
    · have E26 : ev aq (.tmp 94) = .bool true := hk.dc hr 26 (by kernel_rfl) fun _ w h => h w (Grows.refl w)
      have E29 : ev aq (.tmp 97) = .bool true := hk.dc hr 29 (by kernel_rfl) fun _ w h => h w (Grows.refl w)
      exact vc hK (by go_simp) (fun w2 h2 => rfl)
    refine po rfl (fun lq aq wq hk hr K hK => ?_) ?_
    · have E30 : ev aq (.tmp 98) = .bool true := hk.dc hr 30 (by kernel_rfl) fun _ w h => h w (Grows.refl w)
      exact vc hK (by go_simp) (fun w2 h2 => rfl)
    refine AllOps.cons (Does.lets (g := 31) (d := 99) (t := true) rfl (by kernel_rfl) (by kernel_rfl) (fun vq wq h => h wq (Grows.refl wq)) fun lq aq wq hk hr K hK => ?_) ?_
    · have B7 : ev aq (.tmp 7) = .pointer (some ⟨bg1, 0, none⟩) := hk.base 7 (by kernel_rfl) rfl
      have hb := grows_of hk.ext
      exact vc hK (op_load3 7 _ B7 (Dg1.out.below hb)) (fun w2 h2 => QL.grow ⟨_, _, _, _, rfl, (SNg1.out.below hb), (SDg1.out.below hb), hlg1, hmg1⟩ h2)
    refine AllOps.cons (Does.lets (g := 31) (d := 99) (t := true) rfl (by kernel_rfl) (by kernel_rfl) (fun vq wq h => h wq (Grows.refl wq)) fun lq aq wq hk hr K hK => ?_) ?_
    · obtain ⟨v32, E32, r32⟩ := hk.dp hr 32 100 (by kernel_rfl)
      have r32 : QL wq v32 false [0, 2] [0, 4] := r32 wq (Grows.refl wq)
      exact cc hK (by go_simp) (qtext_v wq ((r32).qv.to rfl) (s := ⟨#[49, 47, 50]⟩) kf37) (fun u w1 hu w2 h2 => hu)
    refine AllOps.cons (Does.lets (g := 31) (d := 99) (t := true) rfl (by kernel_rfl) (by kernel_rfl) (fun vq wq h => h wq (Grows.refl wq)) fun lq aq wq hk hr K hK => ?_) ?_
    · have E33 : ev aq (.tmp 101) = .string (⟨#[49, 47, 50]⟩) := hk.dc hr 33 (by kernel_rfl) fun _ w h => h w (Grows.refl w)
      exact vc hK (by go_simp) (fun w2 h2 => rfl)
    refine po rfl (fun lq aq wq hk hr K hK => ?_) ?_
    · have E31 : ev aq (.tmp 99) = .bool true := hk.dc hr 31 (by kernel_rfl) fun _ w h => h w (Grows.refl w)
      have E34 : ev aq (.tmp 102) = .bool true := hk.dc hr 34 (by kernel_rfl) fun _ w h => h w (Grows.refl w)
      exact vc hK (by go_simp) (fun w2 h2 => rfl)
    refine po rfl (fun lq aq wq hk hr K hK => ?_) ?_
    · have E35 : ev aq (.tmp 103) = .bool true := hk.dc hr 35 (by kernel_rfl) fun _ w h => h w (Grows.refl w)
      exact vc hK (by go_simp) (fun w2 h2 => rfl)
    refine AllOps.cons (Does.lets (g := 36) (d := 104) (t := true) rfl (by kernel_rfl) (by kernel_rfl) (fun vq wq h => h wq (Grows.refl wq)) fun lq aq wq hk hr K hK => ?_) ?_
    · have B7 : ev aq (.tmp 7) = .pointer (some ⟨bg1, 0, none⟩) := hk.base 7 (by kernel_rfl) rfl
      have hb := grows_of hk.ext
      exact vc hK (op_load3 7 _ B7 (Dg1.out.below hb)) (fun w2 h2 => QL.grow ⟨_, _, _, _, rfl, (SNg1.out.below hb), (SDg1.out.below hb), hlg1, hmg1⟩ h2)
    refine AllOps.cons (Does.lets (g := 36) (d := 104) (t := true) rfl (by kernel_rfl) (by kernel_rfl) (fun vq wq h => h wq (Grows.refl wq)) fun lq aq wq hk hr K hK => ?_) ?_
    · obtain ⟨v37, E37, r37⟩ := hk.dp hr 37 105 (by kernel_rfl)
      have r37 : QL wq v37 false [0, 2] [0, 4] := r37 wq (Grows.refl wq)
      exact cc hK (by go_simp) (rneg_v wq ((r37).qv.to rfl)) (fun u w1 hu w2 h2 => (hu).grow h2)
    refine AllOps.cons (Does.lets (g := 36) (d := 104) (t := true) rfl (by kernel_rfl) (by kernel_rfl) (fun vq wq h => h wq (Grows.refl wq)) fun lq aq wq hk hr K hK => ?_) ?_
    · obtain ⟨v38, E38, r38⟩ := hk.dp hr 38 106 (by kernel_rfl)
      have r38 : RV wq v38 ((-(lrat false [0, 2] [0, 4]))) := r38 wq (Grows.refl wq)
      exact cc hK (by go_simp) (qtext_v wq (r38).qv (s := ⟨#[45, 49, 47, 50]⟩) kf41) (fun u w1 hu w2 h2 => hu)
    refine AllOps.cons (Does.lets (g := 36) (d := 104) (t := true) rfl (by kernel_rfl) (by kernel_rfl) (fun vq wq h => h wq (Grows.refl wq)) fun lq aq wq hk hr K hK => ?_) ?_
    · have E39 : ev aq (.tmp 107) = .string (⟨#[45, 49, 47, 50]⟩) := hk.dc hr 39 (by kernel_rfl) fun _ w h => h w (Grows.refl w)
      exact vc hK (by go_simp) (fun w2 h2 => rfl)
    refine po rfl (fun lq aq wq hk hr K hK => ?_) ?_
    · have E36 : ev aq (.tmp 104) = .bool true := hk.dc hr 36 (by kernel_rfl) fun _ w h => h w (Grows.refl w)
      have E40 : ev aq (.tmp 108) = .bool true := hk.dc hr 40 (by kernel_rfl) fun _ w h => h w (Grows.refl w)
      exact vc hK (by go_simp) (fun w2 h2 => rfl)
    refine po rfl (fun lq aq wq hk hr K hK => ?_) ?_
    · have E41 : ev aq (.tmp 109) = .bool true := hk.dc hr 41 (by kernel_rfl) fun _ w h => h w (Grows.refl w)
      exact vc hK (by go_simp) (fun w2 h2 => rfl)
    refine AllOps.cons (Does.lets (g := 42) (d := 110) (t := true) rfl (by kernel_rfl) (by kernel_rfl) (fun vq wq h => h wq (Grows.refl wq)) fun lq aq wq hk hr K hK => ?_) ?_
    · have B9 : ev aq (.tmp 9) = .bool false := hk.base 9 (by kernel_rfl) rfl
      exact vc hK (by go_simp) (fun w2 h2 => rfl)
    refine AllOps.cons (Does.lets (g := 42) (d := 110) (t := true) rfl (by kernel_rfl) (by kernel_rfl) (fun vq wq h => h wq (Grows.refl wq)) fun lq aq wq hk hr K hK => ?_) ?_
    · have E43 : ev aq (.tmp 111) = .bool false := hk.dc hr 43 (by kernel_rfl) fun _ w h => h w (Grows.refl w)
      exact vc hK (by go_simp) (fun w2 h2 => rfl)
    refine po rfl (fun lq aq wq hk hr K hK => ?_) ?_
    · have E42 : ev aq (.tmp 110) = .bool true := hk.dc hr 42 (by kernel_rfl) fun _ w h => h w (Grows.refl w)
      have E44 : ev aq (.tmp 112) = .bool true := hk.dc hr 44 (by kernel_rfl) fun _ w h => h w (Grows.refl w)
      exact vc hK (by go_simp) (fun w2 h2 => rfl)
    refine po rfl (fun lq aq wq hk hr K hK => ?_) ?_
    · have E45 : ev aq (.tmp 113) = .bool true := hk.dc hr 45 (by kernel_rfl) fun _ w h => h w (Grows.refl w)
      exact vc hK (by go_simp) (fun w2 h2 => rfl)
    refine AllOps.cons (Does.lets (g := 46) (d := 114) (t := true) rfl (by kernel_rfl) (by kernel_rfl) (fun vq wq h => h wq (Grows.refl wq)) fun lq aq wq hk hr K hK => ?_) ?_
    · have B11 : ev aq (.tmp 11) = .bool false := hk.base 11 (by kernel_rfl) rfl
      exact vc hK (by go_simp) (fun w2 h2 => rfl)
    refine AllOps.cons (Does.lets (g := 46) (d := 114) (t := true) rfl (by kernel_rfl) (by kernel_rfl) (fun vq wq h => h wq (Grows.refl wq)) fun lq aq wq hk hr K hK => ?_) ?_
    · have E47 : ev aq (.tmp 115) = .bool false := hk.dc hr 47 (by kernel_rfl) fun _ w h => h w (Grows.refl w)
      exact vc hK (by go_simp) (fun w2 h2 => rfl)
    refine po rfl (fun lq aq wq hk hr K hK => ?_) ?_
    · have E46 : ev aq (.tmp 114) = .bool true := hk.dc hr 46 (by kernel_rfl) fun _ w h => h w (Grows.refl w)
      have E48 : ev aq (.tmp 116) = .bool true := hk.dc hr 48 (by kernel_rfl) fun _ w h => h w (Grows.refl w)
      exact vc hK (by go_simp) (fun w2 h2 => rfl)
    refine po rfl (fun lq aq wq hk hr K hK => ?_) ?_
    · have E49 : ev aq (.tmp 117) = .bool true := hk.dc hr 49 (by kernel_rfl) fun _ w h => h w (Grows.refl w)
      exact vc hK (by go_simp) (fun w2 h2 => rfl)
    refine AllOps.cons (Does.lets (g := 50) (d := 118) (t := true) rfl (by kernel_rfl) (by kernel_rfl) (fun vq wq h => h wq (Grows.refl wq)) fun lq aq wq hk hr K hK => ?_) ?_
    · have B13 : ev aq (.tmp 13) = .bool false := hk.base 13 (by kernel_rfl) rfl
      exact vc hK (by go_simp) (fun w2 h2 => rfl)
    refine AllOps.cons (Does.lets (g := 50) (d := 118) (t := true) rfl (by kernel_rfl) (by kernel_rfl) (fun vq wq h => h wq (Grows.refl wq)) fun lq aq wq hk hr K hK => ?_) ?_
    · have E51 : ev aq (.tmp 119) = .bool false := hk.dc hr 51 (by kernel_rfl) fun _ w h => h w (Grows.refl w)
      exact vc hK (by go_simp) (fun w2 h2 => rfl)
    refine po rfl (fun lq aq wq hk hr K hK => ?_) ?_
    · have E50 : ev aq (.tmp 118) = .bool true := hk.dc hr 50 (by kernel_rfl) fun _ w h => h w (Grows.refl w)
      have E52 : ev aq (.tmp 120) = .bool true := hk.dc hr 52 (by kernel_rfl) fun _ w h => h w (Grows.refl w)
      exact vc hK (by go_simp) (fun w2 h2 => rfl)
    refine po rfl (fun lq aq wq hk hr K hK => ?_) ?_
    · have E53 : ev aq (.tmp 121) = .bool true := hk.dc hr 53 (by kernel_rfl) fun _ w h => h w (Grows.refl w)
      exact vc hK (by go_simp) (fun w2 h2 => rfl)
    refine AllOps.cons (Does.lets (g := 54) (d := 122) (t := true) rfl (by kernel_rfl) (by kernel_rfl) (fun vq wq h => h wq (Grows.refl wq)) fun lq aq wq hk hr K hK => ?_) ?_
    · have B15 : ev aq (.tmp 15) = .bool false := hk.base 15 (by kernel_rfl) rfl
      exact vc hK (by go_simp) (fun w2 h2 => rfl)
    refine AllOps.cons (Does.lets (g := 54) (d := 122) (t := true) rfl (by kernel_rfl) (by kernel_rfl) (fun vq wq h => h wq (Grows.refl wq)) fun lq aq wq hk hr K hK => ?_) ?_
    · have E55 : ev aq (.tmp 123) = .bool false := hk.dc hr 55 (by kernel_rfl) fun _ w h => h w (Grows.refl w)
      exact vc hK (by go_simp) (fun w2 h2 => rfl)
    refine po rfl (fun lq aq wq hk hr K hK => ?_) ?_
    · have E54 : ev aq (.tmp 122) = .bool true := hk.dc hr 54 (by kernel_rfl) fun _ w h => h w (Grows.refl w)
      have E56 : ev aq (.tmp 124) = .bool true := hk.dc hr 56 (by kernel_rfl) fun _ w h => h w (Grows.refl w)
      exact vc hK (by go_simp) (fun w2 h2 => rfl)
    refine po rfl (fun lq aq wq hk hr K hK => ?_) ?_
    · have E57 : ev aq (.tmp 125) = .bool true := hk.dc hr 57 (by kernel_rfl) fun _ w h => h w (Grows.refl w)
      exact vc hK (by go_simp) (fun w2 h2 => rfl)
    refine AllOps.cons (Does.lets (g := 58) (d := 126) (t := true) rfl (by kernel_rfl) (by kernel_rfl) (fun vq wq h => h wq (Grows.refl wq)) fun lq aq wq hk hr K hK => ?_) ?_
    · have B17 : ev aq (.tmp 17) = .bool false := hk.base 17 (by kernel_rfl) rfl
      exact vc hK (by go_simp) (fun w2 h2 => rfl)
    refine AllOps.cons (Does.lets (g := 58) (d := 126) (t := true) rfl (by kernel_rfl) (by kernel_rfl) (fun vq wq h => h wq (Grows.refl wq)) fun lq aq wq hk hr K hK => ?_) ?_
    · have E59 : ev aq (.tmp 127) = .bool false := hk.dc hr 59 (by kernel_rfl) fun _ w h => h w (Grows.refl w)
      exact vc hK (by go_simp) (fun w2 h2 => rfl)
    refine po rfl (fun lq aq wq hk hr K hK => ?_) ?_
    · have E58 : ev aq (.tmp 126) = .bool true := hk.dc hr 58 (by kernel_rfl) fun _ w h => h w (Grows.refl w)
      have E60 : ev aq (.tmp 128) = .bool true := hk.dc hr 60 (by kernel_rfl) fun _ w h => h w (Grows.refl w)
      exact vc hK (by go_simp) (fun w2 h2 => rfl)
    refine po rfl (fun lq aq wq hk hr K hK => ?_) ?_
    · have E61 : ev aq (.tmp 129) = .bool true := hk.dc hr 61 (by kernel_rfl) fun _ w h => h w (Grows.refl w)
      exact vc hK (by go_simp) (fun w2 h2 => rfl)
    refine AllOps.cons (Does.lets (g := 62) (d := 130) (t := true) rfl (by kernel_rfl) (by kernel_rfl) (fun vq wq h => h wq (Grows.refl wq)) fun lq aq wq hk hr K hK => ?_) ?_
    · have B19 : ev aq (.tmp 19) = .bool true := hk.base 19 (by kernel_rfl) rfl
      exact vc hK (by go_simp) (fun w2 h2 => rfl)
    refine po rfl (fun lq aq wq hk hr K hK => ?_) ?_
    · have E62 : ev aq (.tmp 130) = .bool true := hk.dc hr 62 (by kernel_rfl) fun _ w h => h w (Grows.refl w)
      have E63 : ev aq (.tmp 131) = .bool true := hk.dc hr 63 (by kernel_rfl) fun _ w h => h w (Grows.refl w)
      exact vc hK (by go_simp) (fun w2 h2 => rfl)
    refine po rfl (fun lq aq wq hk hr K hK => ?_) ?_
    · have E64 : ev aq (.tmp 132) = .bool true := hk.dc hr 64 (by kernel_rfl) fun _ w h => h w (Grows.refl w)
      exact vc hK (by go_simp) (fun w2 h2 => rfl)
    refine AllOps.cons (Does.lets (g := 65) (d := 133) (t := true) rfl (by kernel_rfl) (by kernel_rfl) (fun vq wq h => h wq (Grows.refl wq)) fun lq aq wq hk hr K hK => ?_) ?_
    · have B18 : ev aq (.tmp 18) = .pointer (some ⟨bh, 0, none⟩) := hk.base 18 (by kernel_rfl) rfl
      have hb := grows_of hk.ext
      exact vc hK (op_load3 18 _ B18 (Dh.out.below hb)) (fun w2 h2 => RV.grow ⟨_, _, _, _, _, _, _, rfl, (SNh.out.below hb), (SDh.out.below hb), hdh⟩ h2)
    refine AllOps.cons (Does.lets (g := 65) (d := 133) (t := true) rfl (by kernel_rfl) (by kernel_rfl) (fun vq wq h => h wq (Grows.refl wq)) fun lq aq wq hk hr K hK => ?_) ?_
    · obtain ⟨v66, E66, r66⟩ := hk.dp hr 66 134 (by kernel_rfl)
      have r66 : RV wq v66 ((mkRat (0) (dn 1))) := r66 wq (Grows.refl wq)
      exact cc hK (by go_simp) (qsign_v wq (r66).qv (k := 0) kf42) (fun u w1 hu w2 h2 => hu)
    refine AllOps.cons (Does.lets (g := 65) (d := 133) (t := true) rfl (by kernel_rfl) (by kernel_rfl) (fun vq wq h => h wq (Grows.refl wq)) fun lq aq wq hk hr K hK => ?_) ?_
    · have E67 : ev aq (.tmp 135) = .int .i64 0 := hk.dc hr 67 (by kernel_rfl) fun _ w h => h w (Grows.refl w)
      exact vc hK (by go_simp) (fun w2 h2 => rfl)
    refine po rfl (fun lq aq wq hk hr K hK => ?_) ?_
    · have E65 : ev aq (.tmp 133) = .bool true := hk.dc hr 65 (by kernel_rfl) fun _ w h => h w (Grows.refl w)
      have E68 : ev aq (.tmp 136) = .bool true := hk.dc hr 68 (by kernel_rfl) fun _ w h => h w (Grows.refl w)
      exact vc hK (by go_simp) (fun w2 h2 => rfl)
    refine po rfl (fun lq aq wq hk hr K hK => ?_) ?_
    · have E69 : ev aq (.tmp 137) = .bool true := hk.dc hr 69 (by kernel_rfl) fun _ w h => h w (Grows.refl w)
      exact vc hK (by go_simp) (fun w2 h2 => rfl)
    refine AllOps.cons (Does.lets (g := 70) (d := 138) (t := true) rfl (by kernel_rfl) (by kernel_rfl) (fun vq wq h => h wq (Grows.refl wq)) fun lq aq wq hk hr K hK => ?_) ?_
    · have B18 : ev aq (.tmp 18) = .pointer (some ⟨bh, 0, none⟩) := hk.base 18 (by kernel_rfl) rfl
      have hb := grows_of hk.ext
      exact vc hK (op_load3 18 _ B18 (Dh.out.below hb)) (fun w2 h2 => RV.grow ⟨_, _, _, _, _, _, _, rfl, (SNh.out.below hb), (SDh.out.below hb), hdh⟩ h2)
    refine AllOps.cons (Does.lets (g := 70) (d := 138) (t := true) rfl (by kernel_rfl) (by kernel_rfl) (fun vq wq h => h wq (Grows.refl wq)) fun lq aq wq hk hr K hK => ?_) ?_
    · obtain ⟨v71, E71, r71⟩ := hk.dp hr 71 139 (by kernel_rfl)
      have r71 : RV wq v71 ((mkRat (0) (dn 1))) := r71 wq (Grows.refl wq)
      exact cc hK (by go_simp) (qright_v wq (r71).ql (lright_own _)) (fun u w1 hu w2 h2 => hu)
    refine po rfl (fun lq aq wq hk hr K hK => ?_) ?_
    · have E70 : ev aq (.tmp 138) = .bool true := hk.dc hr 70 (by kernel_rfl) fun _ w h => h w (Grows.refl w)
      have E72 : ev aq (.tmp 140) = .bool true := hk.dc hr 72 (by kernel_rfl) fun _ w h => h w (Grows.refl w)
      exact vc hK (by go_simp) (fun w2 h2 => rfl)
    refine po rfl (fun lq aq wq hk hr K hK => ?_) ?_
    · have E73 : ev aq (.tmp 141) = .bool true := hk.dc hr 73 (by kernel_rfl) fun _ w h => h w (Grows.refl w)
      exact vc hK (by go_simp) (fun w2 h2 => rfl)
    refine AllOps.cons (Does.lets (g := 74) (d := 142) (t := true) rfl (by kernel_rfl) (by kernel_rfl) (fun vq wq h => h wq (Grows.refl wq)) fun lq aq wq hk hr K hK => ?_) ?_
    · exact vc hK (by go_simp) (fun w2 h2 => (QL.zero _).grow h2)
    refine AllOps.cons (Does.lets (g := 74) (d := 142) (t := true) rfl (by kernel_rfl) (by kernel_rfl) (fun vq wq h => h wq (Grows.refl wq)) fun lq aq wq hk hr K hK => ?_) ?_
    · obtain ⟨v75, E75, r75⟩ := hk.dp hr 75 143 (by kernel_rfl)
      have r75 : QL wq v75 false [] [] := r75 wq (Grows.refl wq)
      exact cc hK (by go_simp) (qright_v wq r75 (t := false) kf28) (fun u w1 hu w2 h2 => hu)
    refine AllOps.cons (Does.lets (g := 74) (d := 142) (t := true) rfl (by kernel_rfl) (by kernel_rfl) (fun vq wq h => h wq (Grows.refl wq)) fun lq aq wq hk hr K hK => ?_) ?_
    · have E76 : ev aq (.tmp 144) = .bool false := hk.dc hr 76 (by kernel_rfl) fun _ w h => h w (Grows.refl w)
      exact vc hK (by go_simp) (fun w2 h2 => rfl)
    refine po rfl (fun lq aq wq hk hr K hK => ?_) ?_
    · have E74 : ev aq (.tmp 142) = .bool true := hk.dc hr 74 (by kernel_rfl) fun _ w h => h w (Grows.refl w)
      have E77 : ev aq (.tmp 145) = .bool true := hk.dc hr 77 (by kernel_rfl) fun _ w h => h w (Grows.refl w)
      exact vc hK (by go_simp) (fun w2 h2 => rfl)
    refine po rfl (fun lq aq wq hk hr K hK => ?_) ?_
    · have E78 : ev aq (.tmp 146) = .bool true := hk.dc hr 78 (by kernel_rfl) fun _ w h => h w (Grows.refl w)
      exact vc hK (by go_simp) (fun w2 h2 => rfl)
    refine AllOps.cons (Does.lets (g := 79) (d := 147) (t := true) rfl (by kernel_rfl) (by kernel_rfl) (fun vq wq h => h wq (Grows.refl wq)) fun lq aq wq hk hr K hK => ?_) ?_
    · exact vc hK (by go_simp) (fun w2 h2 => (QV.zero _).grow h2)
    refine AllOps.cons (Does.lets (g := 79) (d := 147) (t := true) rfl (by kernel_rfl) (by kernel_rfl) (fun vq wq h => h wq (Grows.refl wq)) fun lq aq wq hk hr K hK => ?_) ?_
    · obtain ⟨v80, E80, r80⟩ := hk.dp hr 80 148 (by kernel_rfl)
      have r80 : QV wq v80 ((0 : Rat)) := r80 wq (Grows.refl wq)
      exact cc hK (by go_simp) (qwhole_v wq r80 (t := true) (decide_eq_true rfl)) (fun u w1 hu w2 h2 => hu)
    refine po rfl (fun lq aq wq hk hr K hK => ?_) ?_
    · have E79 : ev aq (.tmp 147) = .bool true := hk.dc hr 79 (by kernel_rfl) fun _ w h => h w (Grows.refl w)
      have E81 : ev aq (.tmp 149) = .bool true := hk.dc hr 81 (by kernel_rfl) fun _ w h => h w (Grows.refl w)
      exact vc hK (by go_simp) (fun w2 h2 => rfl)
    refine po rfl (fun lq aq wq hk hr K hK => ?_) ?_
    · have E82 : ev aq (.tmp 150) = .bool true := hk.dc hr 82 (by kernel_rfl) fun _ w h => h w (Grows.refl w)
      exact vc hK (by go_simp) (fun w2 h2 => rfl)
    refine AllOps.cons (Does.lets (g := 83) (d := 151) (t := true) rfl (by kernel_rfl) (by kernel_rfl) (fun vq wq h => h wq (Grows.refl wq)) fun lq aq wq hk hr K hK => ?_) ?_
    · have B20 : ev aq (.tmp 20) = .pointer (some ⟨bm, 0, none⟩) := hk.base 20 (by kernel_rfl) rfl
      have hb := grows_of hk.ext
      exact vc hK (op_load3 20 _ B20 (Dm.out.below hb)) (fun w2 h2 => RV.grow ⟨_, _, _, _, _, _, _, rfl, (SNm.out.below hb), (SDm.out.below hb), hdm⟩ h2)
    refine AllOps.cons (Does.lets (g := 83) (d := 151) (t := true) rfl (by kernel_rfl) (by kernel_rfl) (fun vq wq h => h wq (Grows.refl wq)) fun lq aq wq hk hr K hK => ?_) ?_
    · obtain ⟨v84, E84, r84⟩ := hk.dp hr 84 152 (by kernel_rfl)
      have r84 : RV wq v84 ((((-9223372036854775808) : Int) : Rat)) := r84 wq (Grows.refl wq)
      exact cc hK (by go_simp) (qtext_v wq (r84).qv (s := ⟨#[45, 57, 50, 50, 51, 51, 55, 50, 48, 51, 54, 56, 53, 52, 55, 55, 53, 56, 48, 56]⟩) kf46) (fun u w1 hu w2 h2 => hu)
    refine AllOps.cons (Does.lets (g := 83) (d := 151) (t := true) rfl (by kernel_rfl) (by kernel_rfl) (fun vq wq h => h wq (Grows.refl wq)) fun lq aq wq hk hr K hK => ?_) ?_
    · have E85 : ev aq (.tmp 153) = .string (⟨#[45, 57, 50, 50, 51, 51, 55, 50, 48, 51, 54, 56, 53, 52, 55, 55, 53, 56, 48, 56]⟩) := hk.dc hr 85 (by kernel_rfl) fun _ w h => h w (Grows.refl w)
      exact vc hK (by go_simp) (fun w2 h2 => rfl)
    refine po rfl (fun lq aq wq hk hr K hK => ?_) ?_
    · have E83 : ev aq (.tmp 151) = .bool true := hk.dc hr 83 (by kernel_rfl) fun _ w h => h w (Grows.refl w)
      have E86 : ev aq (.tmp 154) = .bool true := hk.dc hr 86 (by kernel_rfl) fun _ w h => h w (Grows.refl w)
      exact vc hK (by go_simp) (fun w2 h2 => rfl)
    refine po rfl (fun lq aq wq hk hr K hK => ?_) ?_
    · have E87 : ev aq (.tmp 155) = .bool true := hk.dc hr 87 (by kernel_rfl) fun _ w h => h w (Grows.refl w)
      exact vc hK (by go_simp) (fun w2 h2 => rfl)
    refine AllOps.cons (Does.lets (g := 88) (d := 156) (t := true) rfl (by kernel_rfl) (by kernel_rfl) (fun vq wq h => h wq (Grows.refl wq)) fun lq aq wq hk hr K hK => ?_) ?_
    · have B20 : ev aq (.tmp 20) = .pointer (some ⟨bm, 0, none⟩) := hk.base 20 (by kernel_rfl) rfl
      have hb := grows_of hk.ext
      exact vc hK (op_load3 20 _ B20 (Dm.out.below hb)) (fun w2 h2 => RV.grow ⟨_, _, _, _, _, _, _, rfl, (SNm.out.below hb), (SDm.out.below hb), hdm⟩ h2)
    refine AllOps.cons (Does.lets (g := 88) (d := 156) (t := true) rfl (by kernel_rfl) (by kernel_rfl) (fun vq wq h => h wq (Grows.refl wq)) fun lq aq wq hk hr K hK => ?_) ?_
    · exact cc hK (by go_simp) (rfrom_v wq 1 (by decide) (by decide)) (fun u w1 hu w2 h2 => (hu).grow h2)
    refine AllOps.cons (Does.lets (g := 88) (d := 156) (t := true) rfl (by kernel_rfl) (by kernel_rfl) (fun vq wq h => h wq (Grows.refl wq)) fun lq aq wq hk hr K hK => ?_) ?_
    · obtain ⟨v89, E89, r89⟩ := hk.dp hr 89 157 (by kernel_rfl)
      have r89 : RV wq v89 ((((-9223372036854775808) : Int) : Rat)) := r89 wq (Grows.refl wq)
      obtain ⟨v90, E90, r90⟩ := hk.dp hr 90 158 (by kernel_rfl)
      have r90 : RV wq v90 (((1 : Int) : Rat)) := r90 wq (Grows.refl wq)
      exact cc hK (by go_simp) (qsub_v wq (r89).qv (r90).qv ((Qsz.int (szz_i64 (by decide) (by decide)) (by decide)).mono (by decide)) ((Qsz.int (szz_i64 (by decide) (by decide)) (by decide)).mono (by decide))) (fun u w1 hu w2 h2 => (hu).grow h2)
    refine AllOps.cons (Does.lets (g := 88) (d := 156) (t := true) rfl (by kernel_rfl) (by kernel_rfl) (fun vq wq h => h wq (Grows.refl wq)) fun lq aq wq hk hr K hK => ?_) ?_
    · obtain ⟨v91, E91, r91⟩ := hk.dp hr 91 159 (by kernel_rfl)
      have r91 : RV wq v91 (((((-9223372036854775808) : Int) : Rat) - ((1 : Int) : Rat))) := r91 wq (Grows.refl wq)
      exact cc hK (by go_simp) (qtext_v wq (r91).qv (s := ⟨#[45, 57, 50, 50, 51, 51, 55, 50, 48, 51, 54, 56, 53, 52, 55, 55, 53, 56, 48, 57]⟩) kf50) (fun u w1 hu w2 h2 => hu)
    refine AllOps.cons (Does.lets (g := 88) (d := 156) (t := true) rfl (by kernel_rfl) (by kernel_rfl) (fun vq wq h => h wq (Grows.refl wq)) fun lq aq wq hk hr K hK => ?_) ?_
    · have E92 : ev aq (.tmp 160) = .string (⟨#[45, 57, 50, 50, 51, 51, 55, 50, 48, 51, 54, 56, 53, 52, 55, 55, 53, 56, 48, 57]⟩) := hk.dc hr 92 (by kernel_rfl) fun _ w h => h w (Grows.refl w)
      exact vc hK (by go_simp) (fun w2 h2 => rfl)
    refine po rfl (fun lq aq wq hk hr K hK => ?_) ?_
    · have E88 : ev aq (.tmp 156) = .bool true := hk.dc hr 88 (by kernel_rfl) fun _ w h => h w (Grows.refl w)
      have E93 : ev aq (.tmp 161) = .bool true := hk.dc hr 93 (by kernel_rfl) fun _ w h => h w (Grows.refl w)
      exact vc hK (by go_simp) (fun w2 h2 => rfl)
    exact AllOps.nil
  intro V x25 hG hV hap
  have r26 : (V 26) = .bool true := hV 26 (by decide)
  have r94 : (V 94) = .bool true := hV 94 (by decide)
  clear hV hap
  simp only [List.append_eq, List.cons_append, List.nil_append, List.take_succ_cons, List.take_zero, List.drop_succ_cons, List.drop_zero, putAll, Act.put, List.setIfInBounds_toArray, List.set_cons_zero, List.set_cons_succ]
  have hb := grows_of hG
  replace Dz := Lib.hid (Dz.out.below hb)
  replace SNz := Lib.hid (SNz.out.below hb)
  replace SDz := Lib.hid (SDz.out.below hb)
  replace Dx := Lib.hid (Dx.out.below hb)
  replace SNx := Lib.hid (SNx.out.below hb)
  replace SDx := Lib.hid (SDx.out.below hb)
  replace Dv := Lib.hid (Dv.out.below hb)
  replace SNv := Lib.hid (SNv.out.below hb)
  replace SDv := Lib.hid (SDv.out.below hb)
  replace Dy1 := Lib.hid (Dy1.out.below hb)
  replace SNy1 := Lib.hid (SNy1.out.below hb)
  replace SDy1 := Lib.hid (SDy1.out.below hb)
  replace Dg1 := Lib.hid (Dg1.out.below hb)
  replace SNg1 := Lib.hid (SNg1.out.below hb)
  replace SDg1 := Lib.hid (SDg1.out.below hb)
  replace Dp := Lib.hid (Dp.out.below hb)
  replace SNp := Lib.hid (SNp.out.below hb)
  replace SDp := Lib.hid (SDp.out.below hb)
  replace Dq := Lib.hid (Dq.out.below hb)
  replace SNq := Lib.hid (SNq.out.below hb)
  replace SDq := Lib.hid (SDq.out.below hb)
  replace Dr := Lib.hid (Dr.out.below hb)
  replace SNr := Lib.hid (SNr.out.below hb)
  replace SDr := Lib.hid (SDr.out.below hb)
  replace Ds := Lib.hid (Ds.out.below hb)
  replace SNs := Lib.hid (SNs.out.below hb)
  replace SDs := Lib.hid (SDs.out.below hb)
  replace Dt := Lib.hid (Dt.out.below hb)
  replace SNt := Lib.hid (SNt.out.below hb)
  replace SDt := Lib.hid (SDt.out.below hb)
  replace Dh := Lib.hid (Dh.out.below hb)
  replace SNh := Lib.hid (SNh.out.below hb)
  replace SDh := Lib.hid (SDh.out.below hb)
  replace Dm := Lib.hid (Dm.out.below hb)
  replace SNm := Lib.hid (SNm.out.below hb)
  replace SDm := Lib.hid (SDm.out.below hb)
  replace HB := Lib.hid (HB.out.trans (Below.mono hb HB.out.size))
  clear hb hG
  rw [r94]
  clear r94
  go_wp2_with fail
  go_ret
  exact ⟨rfl, HB.out⟩
end Go.Proofs.YtbippecchpaleaaGreatDoor
