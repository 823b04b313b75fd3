import Derived.Test.YtmajcjdhhnhmmaaDoorBigIs
import Derived.RegionTactic
/- litmuslaw02.works returns true. -/
namespace Go.Proofs.YtmajcjdhhnhmmaaDoor
open Go.RowKit Go.Num
attribute [local go_sem] Oper.semAt_some u64_mask
theorem lim_of {l : List Nat} (h : l.all (fun x => decide (x < 4294967296)) = true) : Lim l := fun x hx => by simpa using List.all_eq_true.1 h x hx
theorem lit_at (w : World) (cs : Array Value) (n : Nat) (l : List Nat) {m : Nat} (hc : cs.toList = l.map encU) (hn : n = l.length) (hl : l.all (fun x => decide (x < 4294967296)) = true) (h1 : l.length ≤ 100000) (hv : val l = m) :
    Num (w.alloc (.cells cs 52)) (.slice (some ⟨w.heap.size, 0, none⟩) n n) l m := ⟨arg_lit w cs _ n l hn hc, lim_of hl, h1, hv⟩
theorem short_i64 {z : Int} (h : (decide (-9223372036854775808 ≤ z) && decide (z ≤ 9223372036854775807)) = true) : sz z.natAbs ≤ 1000 := by
  simp only [Bool.and_eq_true, decide_eq_true_eq] at h
  exact Nat.le_trans (szz_i64 h.1 h.2) (by decide)
theorem zt_m2 : ztext (-2) = [45, 50] := by simp [ztext, dec, decs, vdig_pos, vdig_zero, Num.byteOf]
theorem zt_p1 : ztext (1) = [49] := by simp [ztext, dec, decs, vdig_pos, vdig_zero, Num.byteOf]
theorem zt_m18446744073709551616 : ztext (-18446744073709551616) = [45, 49, 56, 52, 52, 54, 55, 52, 52, 48, 55, 51, 55, 48, 57, 53, 53, 49, 54, 49, 54] := by simp [ztext, dec, decs, vdig_pos, vdig_zero, Num.byteOf]
theorem zt_m9223372036854775808 : ztext (-9223372036854775808) = [45, 57, 50, 50, 51, 51, 55, 50, 48, 51, 54, 56, 53, 52, 55, 55, 53, 56, 48, 56] := by simp [ztext, dec, decs, vdig_pos, vdig_zero, Num.byteOf]

set_option maxHeartbeats 16000000 in
set_option maxRecDepth 100000 in
theorem works_any (w : World) : Calls Tryd.prog 21 #[] w fun e w' => e = .returned (.bool true) ∧ Below w.heap.size w w' := by
  go_enter Tryd.func21, Tryd.ntmps21
  go_wp2_with fail
  refine (parse_neg_zero _ [48] (by decide) (by decide) (by decide)).mono ?_
  rintro e w1 ⟨rfl, h1⟩
  have H1 := Lib.hid (h1.alloc h1.size (.cells #[.bool false, .slice none 0 0] 24))
  clear h1
  go_wp2_with fail
  refine (parse_pos_bad _ [43, 49] (by decide) (by decide) (by decide)).mono ?_
  rintro e w2 ⟨rfl, h2⟩
  have H2 := Lib.hid ((H1.out.trans (h2.mono H1.out.size)).alloc (H1.out.trans (h2.mono H1.out.size)).size (.cells #[.bool false, .slice none 0 0] 24))
  clear h2
  go_wp2_with fail
  refine (parse_neg_yes _ [49, 50] (by decide) (by decide) (by decide) (Nat.le_trans (sz_le (k := 1) (by decide)) (by decide))).mono ?_
  rintro e w3 ⟨n3, m3, rfl, g3⟩
  obtain ⟨A3, k3, c3, rfl⟩ := g3.shape
  have hs3 : Sound w3 n3 (.slice A3 k3 c3) (-12) := (g3.to (show -(tval 0 [49, 50] : Int) = -12 by decide)).sound (short_i64 (by decide))
  have hB := H2.out.trans (g3.below.mono H2.out.size)
  have hal := ((Below.refl w3.heap.size w3).alloc (Nat.le_refl _) (.cells #[.bool n3, .slice A3 k3 c3] 24))
  have D3 := Lib.hid (Box2.new w3 24 (.bool n3) (.slice A3 k3 c3))
  have S3 := Lib.hid (hs3.below hal)
  have HB := Lib.hid (hB.trans (hal.mono hB.size))
  clear g3 hs3 hB hal H1 H2
  go_wp2_with fail
  have HSX : Hid (∀ w', Below ((w3.alloc (.cells #[.bool n3, .slice A3 k3 c3] 24))).heap.size ((w3.alloc (.cells #[.bool n3, .slice A3 k3 c3] 24))) w' → w'.cell? ⟨w3.heap.size, 0, none⟩ = some (.bool n3) ∧ w'.cell? ⟨w3.heap.size, 1, none⟩ = some (.slice A3 k3 c3) ∧ Below ((w3.alloc (.cells #[.bool n3, .slice A3 k3 c3] 24))).heap.size ((w3.alloc (.cells #[.bool n3, .slice A3 k3 c3] 24))) w') := fun w' hb => ⟨(Box2.below (D3.out) hb).c0, (Box2.below (D3.out) hb).c1, hb⟩
  have hbX := (Below.refl ((w3.alloc (.cells #[.bool n3, .slice A3 k3 c3] 24))).heap.size ((w3.alloc (.cells #[.bool n3, .slice A3 k3 c3] 24)))).drew
  have K0 : True := trivial
  go_region_held3 (fun w' => w'.cell? ⟨w3.heap.size, 0, none⟩ = some (.bool n3) ∧ w'.cell? ⟨w3.heap.size, 1, none⟩ = some (.slice A3 k3 c3) ∧ Below ((w3.alloc (.cells #[.bool n3, .slice A3 k3 c3] 24))).heap.size ((w3.alloc (.cells #[.bool n3, .slice A3 k3 c3] 24))) w')
    (first
      | with_reducible exact HSX.out _ hbX
      | with_reducible exact HSX.out _ (hbX.alloc hbX.size _))
    (first
      | (have _ := K19; go_at_call 26; refine (same_yes _ n3 n25 (.slice A3 k3 c3) _ (-12) (-12) (S3.out.below hbX) s25 rfl).mono ?_; rintro e x26 ⟨rfl, q26⟩; have hbX := Below.trans hbX (Below.mono (q26) hbX.size); have K20 : True := trivial)
      | (have _ := K18; go_at_call 31; refine (bfrom_any _ (-12) (by decide) (by decide)).mono ?_; rintro e v25 ⟨n25, m25, rfl, g25⟩; have hbX := Below.trans hbX (Below.mono (g25.below) hbX.size); obtain ⟨A25, k25, c25, rfl⟩ := g25.shape; have s25 := g25.sound (short_i64 (by decide)); have K19 : True := trivial)
      | (have _ := K17; go_at_call 47; refine (is_yes _ n24 _ (-9223372036854775808) ⟨#[45, 57, 50, 50, 51, 51, 55, 50, 48, 51, 54, 56, 53, 52, 55, 55, 53, 56, 48, 56]⟩ s24 (congrArg (fun l : List UInt8 => ByteArray.mk l.toArray) zt_m9223372036854775808)).mono ?_; rintro e x24 ⟨rfl, q24⟩; have hbX := Below.trans hbX (Below.mono (q24) hbX.size); have K18 : True := trivial)
      | (have _ := K16; go_at_call 31; refine (bfrom_any _ (-9223372036854775808) (by decide) (by decide)).mono ?_; rintro e v24 ⟨n24, m24, rfl, g24⟩; have hbX := Below.trans hbX (Below.mono (g24.below) hbX.size); obtain ⟨A24, k24, c24, rfl⟩ := g24.shape; have s24 := g24.sound (short_i64 (by decide)); have K17 : True := trivial)
      | (have _ := K15; go_at_call 26; refine (same_yes _ n22 false _ (.slice none 0 0) 0 0 s22 (Sound.nil_ _ _) rfl).mono ?_; rintro e x23 ⟨rfl, q23⟩; have hbX := Below.trans hbX (Below.mono (q23) hbX.size); have K16 : True := trivial)
      | (have _ := K14; go_at_call 34; refine (of_num _ true _ [0, 0] 0 0 (lit_at _ _ _ _ rfl rfl (by decide) (by decide) (by decide)) (sg_zero _)).mono ?_; rintro e v22 ⟨n22, m22, rfl, g22⟩; have hbX := Below.trans hbX (Below.mono (((Below.refl _ _).alloc (Nat.le_refl _) _).trans (g22.below.mono (by simp))) hbX.size); obtain ⟨A22, k22, c22, rfl⟩ := g22.shape; have s22 := g22.sound (short_i64 (by decide)); have K15 : True := trivial)
      | (have _ := K13; go_at_call 48; refine (divs_any _ (-7) (-2) (3) (-1) (by decide) (by decide) (by decide) (by decide) (by decide) (by decide) (by decide) (by decide) (by decide) (by decide) (by decide)).mono ?_; rintro e x21 ⟨rfl, q21⟩; have hbX := Below.trans hbX (Below.mono (q21) hbX.size); have K14 : True := trivial)
      | (have _ := K12; go_at_call 48; refine (divs_any _ (7) (-2) (-4) (-1) (by decide) (by decide) (by decide) (by decide) (by decide) (by decide) (by decide) (by decide) (by decide) (by decide) (by decide)).mono ?_; rintro e x20 ⟨rfl, q20⟩; have hbX := Below.trans hbX (Below.mono (q20) hbX.size); have K13 : True := trivial)
      | (have _ := K11; go_at_call 48; refine (divs_any _ (-7) (2) (-4) (1) (by decide) (by decide) (by decide) (by decide) (by decide) (by decide) (by decide) (by decide) (by decide) (by decide) (by decide)).mono ?_; rintro e x19 ⟨rfl, q19⟩; have hbX := Below.trans hbX (Below.mono (q19) hbX.size); have K12 : True := trivial)
      | (have _ := K10; go_at_call 48; refine (divs_any _ (7) (2) (3) (1) (by decide) (by decide) (by decide) (by decide) (by decide) (by decide) (by decide) (by decide) (by decide) (by decide) (by decide)).mono ?_; rintro e x18 ⟨rfl, q18⟩; have hbX := Below.trans hbX (Below.mono (q18) hbX.size); have K11 : True := trivial)
      | (have _ := K9; go_at_call 47; refine (is_yes _ n17 _ (-18446744073709551616) ⟨#[45, 49, 56, 52, 52, 54, 55, 52, 52, 48, 55, 51, 55, 48, 57, 53, 53, 49, 54, 49, 54]⟩ s17 (congrArg (fun l : List UInt8 => ByteArray.mk l.toArray) zt_m18446744073709551616)).mono ?_; rintro e x17 ⟨rfl, q17⟩; have hbX := Below.trans hbX (Below.mono (q17) hbX.size); have K10 : True := trivial)
      | (have _ := K8; go_at_call 28; refine (prod2_any _ n15 n16 _ _ (-4611686018427387904) 4 (s15.below g16.below).whole s16.whole (Nat.le_trans (sz_le (k := 3) (by decide)) (by decide))).mono ?_; rintro e v17 ⟨n17, m17, rfl, g17⟩; have hbX := Below.trans hbX (Below.mono (g17.below) hbX.size); obtain ⟨A17, k17, c17, rfl⟩ := g17.shape; have s17 := (g17.to (show _ = (-18446744073709551616 : Int) by decide)).sound (Nat.le_trans (sz_le (k := 3) (by decide)) (by decide)); have K9 : True := trivial)
      | (have _ := K7; go_at_call 31; refine (bfrom_any _ (4) (by decide) (by decide)).mono ?_; rintro e v16 ⟨n16, m16, rfl, g16⟩; have hbX := Below.trans hbX (Below.mono (g16.below) hbX.size); obtain ⟨A16, k16, c16, rfl⟩ := g16.shape; have s16 := g16.sound (short_i64 (by decide)); have K8 : True := trivial)
      | (have _ := K6; go_at_call 31; refine (bfrom_any _ (-4611686018427387904) (by decide) (by decide)).mono ?_; rintro e v15 ⟨n15, m15, rfl, g15⟩; have hbX := Below.trans hbX (Below.mono (g15.below) hbX.size); obtain ⟨A15, k15, c15, rfl⟩ := g15.shape; have s15 := g15.sound (short_i64 (by decide)); have K7 : True := trivial)
      | (have _ := K5; go_at_call 47; refine (is_yes _ n14 _ (1) ⟨#[49]⟩ s14 (congrArg (fun l : List UInt8 => ByteArray.mk l.toArray) zt_p1)).mono ?_; rintro e x14 ⟨rfl, q14⟩; have hbX := Below.trans hbX (Below.mono (q14) hbX.size); have K6 : True := trivial)
      | (have _ := K4; go_at_call 28; refine (prod0_any _ 0).mono ?_; rintro e v14 ⟨n14, m14, rfl, g14⟩; have hbX := Below.trans hbX (Below.mono (g14.below) hbX.size); obtain ⟨A14, k14, c14, rfl⟩ := g14.shape; have s14 := g14.sound (short_i64 (by decide)); have K5 : True := trivial)
      | (have _ := K3; go_at_call 47; refine (is_yes _ n13 _ (-2) ⟨#[45, 50]⟩ s13 (congrArg (fun l : List UInt8 => ByteArray.mk l.toArray) zt_m2)).mono ?_; rintro e x13 ⟨rfl, q13⟩; have hbX := Below.trans hbX (Below.mono (q13) hbX.size); have K4 : True := trivial)
      | (have _ := K2; go_at_call 27; refine (sum2_any _ n11 n12 _ _ 5 (-7) (s11.below g12.below).whole s12.whole (short_i64 (by decide))).mono ?_; rintro e v13 ⟨n13, m13, rfl, g13⟩; have hbX := Below.trans hbX (Below.mono (g13.below) hbX.size); obtain ⟨A13, k13, c13, rfl⟩ := g13.shape; have s13 := (g13.to (show _ = (-2 : Int) by decide)).sound (short_i64 (by decide)); have K3 : True := trivial)
      | (have _ := K1; go_at_call 31; refine (bfrom_any _ (-7) (by decide) (by decide)).mono ?_; rintro e v12 ⟨n12, m12, rfl, g12⟩; have hbX := Below.trans hbX (Below.mono (g12.below) hbX.size); obtain ⟨A12, k12, c12, rfl⟩ := g12.shape; have s12 := g12.sound (short_i64 (by decide)); have K2 : True := trivial)
      | (have _ := K0; go_at_call 31; refine (bfrom_any _ (5) (by decide) (by decide)).mono ?_; rintro e v11 ⟨n11, m11, rfl, g11⟩; have hbX := Below.trans hbX (Below.mono (g11.below) hbX.size); obtain ⟨A11, k11, c11, rfl⟩ := g11.shape; have s11 := g11.sound (short_i64 (by decide)); have K1 : True := trivial))
  go_wp2_with fail
  go_ret
  exact ⟨rfl, HB.out.trans (hbX.mono HB.out.size)⟩
end Go.Proofs.YtmajcjdhhnhmmaaDoor
