import Derived.Test.YtdmghakmhfhpiaaDoorSame
/- litmuslaw01.works: the chapter's examples hold. -/
namespace Go.Proofs.YtdmghakmhfhpiaaDoor
open Go.RowKit Go.Num
attribute [local go_sem] Oper.semAt_some u64_mask
theorem limbs_of {l : List Nat} {n : Nat} (h : Lim l) (hv : val l = n) (ht : tz l = l) : limbs n = l := by rw [← hv, limbs_val h, ht]
theorem lim_of {l : List Nat} (h : l.all (fun x => decide (x < 4294967296)) = true) : Lim l := fun x hx => by simpa using List.all_eq_true.1 h x hx
theorem size_alloc (w : World) (o : Obj) : (w.alloc o).heap.size = w.heap.size + 1 := by simp
theorem lit_at (w : World) (b : Nat) (hb : b = w.heap.size) (cs : Array Value) (n : Nat) (l : List Nat) {m : Nat} (hc : cs.toList = l.map encU) (hn : n = l.length) (hl : l.all (fun x => decide (x < 4294967296)) = true) (h1 : l.length ≤ 100000) (hv : val l = m) :
    Num (w.alloc (.cells cs 39)) (.slice (some ⟨b, 0, none⟩) n n) l m := by
  subst hb; exact ⟨arg_lit w cs _ n l hn hc, lim_of hl, h1, hv⟩
theorem dec_a : dec 4294967296 = [52, 50, 57, 52, 57, 54, 55, 50, 57, 54] := by simp [dec, decs, vdig_pos, vdig_zero, Num.byteOf]
theorem dec_b : dec 0 = [48] := by simp [dec]

set_option maxHeartbeats 8000000 in
set_option maxRecDepth 100000 in
theorem works_any (w : World) : Calls Tryd.prog 18 #[] w fun e w' => e = .returned (.bool true) ∧ Below w.heap.size w w' := by
  go_enter Tryd.func18, Tryd.ntmps18
  have HB : Below w.heap.size w w := Below.refl _ _
  have hb1 := (Below.refl (w).heap.size (w)).alloc (Nat.le_refl _) (.cells #[.int .u32 4294967295] 39)
  have ntop : Num ((w).alloc (.cells #[.int .u32 4294967295] 39)) (.slice (some ⟨w.heap.size, 0, none⟩) 1 1) [4294967295] 4294967295 := lit_at _ _ rfl _ _ _ (by simp) rfl (by decide) (by decide) (by decide)
  replace HB := HB.trans (hb1.mono HB.size)
  have hb2 := (Below.refl ((w).alloc (.cells #[.int .u32 4294967295] 39)).heap.size ((w).alloc (.cells #[.int .u32 4294967295] 39))).alloc (Nat.le_refl _) (.cells #[.int .u32 0, .int .u32 0, .int .u32 1] 39)
  have na : Num (((w).alloc (.cells #[.int .u32 4294967295] 39)).alloc (.cells #[.int .u32 0, .int .u32 0, .int .u32 1] 39)) (.slice (some ⟨w.heap.size + 1, 0, none⟩) 3 3) [0, 0, 1] 18446744073709551616 := lit_at _ _ (by simp only [size_alloc]) _ _ _ (by simp) rfl (by decide) (by decide) (by decide)
  replace ntop := ntop.below hb2
  replace HB := HB.trans (hb2.mono HB.size)
  have hb3 := (Below.refl (((w).alloc (.cells #[.int .u32 4294967295] 39)).alloc (.cells #[.int .u32 0, .int .u32 0, .int .u32 1] 39)).heap.size (((w).alloc (.cells #[.int .u32 4294967295] 39)).alloc (.cells #[.int .u32 0, .int .u32 0, .int .u32 1] 39))).alloc (Nat.le_refl _) (.cells #[.int .u32 3] 39)
  have nb : Num ((((w).alloc (.cells #[.int .u32 4294967295] 39)).alloc (.cells #[.int .u32 0, .int .u32 0, .int .u32 1] 39)).alloc (.cells #[.int .u32 3] 39)) (.slice (some ⟨w.heap.size + 1 + 1, 0, none⟩) 1 1) [3] 3 := lit_at _ _ (by simp only [size_alloc]) _ _ _ (by simp) rfl (by decide) (by decide) (by decide)
  replace ntop := ntop.below hb3
  replace na := na.below hb3
  replace HB := HB.trans (hb3.mono HB.size)
  go_wp2_with fail
  refine (div_any _ _ _ _ _ _ _ na nb (by decide)).mono ?_
  rintro e w4 ⟨vq, vr, rfl, gq, gr, _⟩
  have hb4 := gr.below
  replace ntop := ntop.below hb4
  replace na := na.below hb4
  replace nb := nb.below hb4
  replace HB := HB.trans (hb4.mono HB.size)
  rw [show limbs (18446744073709551616 / 3) = [1431655765, 1431655765] from limbs_of (lim_of (by decide)) (by decide) (by decide)] at gq
  have nq : Num w4 _ [1431655765, 1431655765] 6148914691236517205 := ⟨gq.arg, lim_of (by decide), by decide, by decide⟩
  rw [show limbs (18446744073709551616 % 3) = [1] from limbs_of (lim_of (by decide)) (by decide) (by decide)] at gr
  have nr : Num w4 _ [1] 1 := ⟨gr.arg, lim_of (by decide), by decide, by decide⟩
  clear na
  clear nb
  go_wp2_with fail
  refine (parse_no _ [48, 48, 55] (by decide) (by decide)).mono ?_
  rintro e w5 ⟨rfl, hbp⟩
  have hb5 := hbp
  replace ntop := ntop.below hb5
  replace nq := nq.below hb5
  replace nr := nr.below hb5
  replace HB := HB.trans (hb5.mono HB.size)
  go_wp2_with fail
  refine (parse_yes _ [49, 56, 52, 52, 54, 55, 52, 52, 48, 55, 51, 55, 48, 57, 53, 53, 49, 54, 49, 54] (by decide) (by decide)).mono ?_
  rintro e w6 ⟨vg, rfl, gg⟩
  have hb6 := gg.below
  replace ntop := ntop.below hb6
  replace nq := nq.below hb6
  replace nr := nr.below hb6
  replace HB := HB.trans (hb6.mono HB.size)
  rw [show limbs (tval 0 [49, 56, 52, 52, 54, 55, 52, 52, 48, 55, 51, 55, 48, 57, 53, 53, 49, 54, 49, 54]) = [0, 0, 1] from limbs_of (lim_of (by decide)) (by decide) (by decide)] at gg
  have nbig : Num w6 _ [0, 0, 1] 18446744073709551616 := ⟨gg.arg, lim_of (by decide), by decide, by decide⟩
  have hb7 := (Below.refl (w6).heap.size (w6)).alloc (Nat.le_refl _) (.cells #[.int .u32 1] 39)
  have no : Num ((w6).alloc (.cells #[.int .u32 1] 39)) (.slice (some ⟨w6.heap.size, 0, none⟩) 1 1) [1] 1 := lit_at _ _ rfl _ _ _ (by simp) rfl (by decide) (by decide) (by decide)
  replace ntop := ntop.below hb7
  replace nq := nq.below hb7
  replace nr := nr.below hb7
  replace nbig := nbig.below hb7
  replace HB := HB.trans (hb7.mono HB.size)
  go_wp2_with fail
  refine (add_any _ _ _ _ _ _ _ ntop no).mono ?_
  rintro e w8 ⟨vs, rfl, gs⟩
  have hb8 := gs.below
  replace ntop := ntop.below hb8
  replace nq := nq.below hb8
  replace nr := nr.below hb8
  replace nbig := nbig.below hb8
  replace no := no.below hb8
  replace HB := HB.trans (hb8.mono HB.size)
  rw [show limbs (4294967295 + 1) = [0, 1] from limbs_of (lim_of (by decide)) (by decide) (by decide)] at gs
  have ns : Num w8 _ [0, 1] 4294967296 := ⟨gs.arg, lim_of (by decide), by decide, by decide⟩
  clear no
  have hb9 := (Below.refl (w8).heap.size (w8)).alloc (Nat.le_refl _) (.cells #[.int .u32 0, .int .u32 1] 39)
  have nt : Num ((w8).alloc (.cells #[.int .u32 0, .int .u32 1] 39)) (.slice (some ⟨w8.heap.size, 0, none⟩) 2 2) [0, 1] 4294967296 := lit_at _ _ rfl _ _ _ (by simp) rfl (by decide) (by decide) (by decide)
  replace ntop := ntop.below hb9
  replace nq := nq.below hb9
  replace nr := nr.below hb9
  replace nbig := nbig.below hb9
  replace ns := ns.below hb9
  replace HB := HB.trans (hb9.mono HB.size)
  go_wp2_with fail
  refine (same_any _ _ _ [0, 1] [0, 1] ns.arg nt.arg (by decide)).mono ?_
  rintro e w10 ⟨rfl, hbs⟩
  have hb10 := hbs
  replace ntop := ntop.below hb10
  replace nq := nq.below hb10
  replace nr := nr.below hb10
  replace nbig := nbig.below hb10
  replace ns := ns.below hb10
  replace nt := nt.below hb10
  replace HB := HB.trans (hb10.mono HB.size)
  rw [show decide ([0, 1] = [0, 1]) = true by decide]
  clear ns
  clear nt
  go_wp2_with fail
  refine (mul_any _ _ _ _ _ _ _ ntop ntop).mono ?_
  rintro e w11 ⟨vs, rfl, gs⟩
  have hb11 := gs.below
  replace ntop := ntop.below hb11
  replace nq := nq.below hb11
  replace nr := nr.below hb11
  replace nbig := nbig.below hb11
  replace HB := HB.trans (hb11.mono HB.size)
  rw [show limbs (4294967295 * 4294967295) = [1, 4294967294] from limbs_of (lim_of (by decide)) (by decide) (by decide)] at gs
  have ns : Num w11 _ [1, 4294967294] 18446744065119617025 := ⟨gs.arg, lim_of (by decide), by decide, by decide⟩
  have hb12 := (Below.refl (w11).heap.size (w11)).alloc (Nat.le_refl _) (.cells #[.int .u32 1, .int .u32 4294967294] 39)
  have nt : Num ((w11).alloc (.cells #[.int .u32 1, .int .u32 4294967294] 39)) (.slice (some ⟨w11.heap.size, 0, none⟩) 2 2) [1, 4294967294] 18446744065119617025 := lit_at _ _ rfl _ _ _ (by simp) rfl (by decide) (by decide) (by decide)
  replace ntop := ntop.below hb12
  replace nq := nq.below hb12
  replace nr := nr.below hb12
  replace nbig := nbig.below hb12
  replace ns := ns.below hb12
  replace HB := HB.trans (hb12.mono HB.size)
  go_wp2_with fail
  refine (same_any _ _ _ [1, 4294967294] [1, 4294967294] ns.arg nt.arg (by decide)).mono ?_
  rintro e w13 ⟨rfl, hbs⟩
  have hb13 := hbs
  replace ntop := ntop.below hb13
  replace nq := nq.below hb13
  replace nr := nr.below hb13
  replace nbig := nbig.below hb13
  replace ns := ns.below hb13
  replace nt := nt.below hb13
  replace HB := HB.trans (hb13.mono HB.size)
  rw [show decide ([1, 4294967294] = [1, 4294967294]) = true by decide]
  clear ns
  clear nt
  have hb14 := (Below.refl (w13).heap.size (w13)).alloc (Nat.le_refl _) (.cells #[.int .u32 1431655765, .int .u32 1431655765] 39)
  have nt : Num ((w13).alloc (.cells #[.int .u32 1431655765, .int .u32 1431655765] 39)) (.slice (some ⟨w13.heap.size, 0, none⟩) 2 2) [1431655765, 1431655765] 6148914691236517205 := lit_at _ _ rfl _ _ _ (by simp) rfl (by decide) (by decide) (by decide)
  replace ntop := ntop.below hb14
  replace nq := nq.below hb14
  replace nr := nr.below hb14
  replace nbig := nbig.below hb14
  replace HB := HB.trans (hb14.mono HB.size)
  go_wp2_with fail
  refine (same_any _ _ _ [1431655765, 1431655765] [1431655765, 1431655765] nq.arg nt.arg (by decide)).mono ?_
  rintro e w15 ⟨rfl, hbs⟩
  have hb15 := hbs
  replace ntop := ntop.below hb15
  replace nq := nq.below hb15
  replace nr := nr.below hb15
  replace nbig := nbig.below hb15
  replace nt := nt.below hb15
  replace HB := HB.trans (hb15.mono HB.size)
  rw [show decide ([1431655765, 1431655765] = [1431655765, 1431655765]) = true by decide]
  clear nq
  clear nt
  have hb16 := (Below.refl (w15).heap.size (w15)).alloc (Nat.le_refl _) (.cells #[.int .u32 1] 39)
  have nt : Num ((w15).alloc (.cells #[.int .u32 1] 39)) (.slice (some ⟨w15.heap.size, 0, none⟩) 1 1) [1] 1 := lit_at _ _ rfl _ _ _ (by simp) rfl (by decide) (by decide) (by decide)
  replace ntop := ntop.below hb16
  replace nr := nr.below hb16
  replace nbig := nbig.below hb16
  replace HB := HB.trans (hb16.mono HB.size)
  go_wp2_with fail
  refine (same_any _ _ _ [1] [1] nr.arg nt.arg (by decide)).mono ?_
  rintro e w17 ⟨rfl, hbs⟩
  have hb17 := hbs
  replace ntop := ntop.below hb17
  replace nr := nr.below hb17
  replace nbig := nbig.below hb17
  replace nt := nt.below hb17
  replace HB := HB.trans (hb17.mono HB.size)
  rw [show decide ([1] = [1]) = true by decide]
  clear nr
  clear nt
  have hb18 := (Below.refl (w17).heap.size (w17)).alloc (Nat.le_refl _) (.cells #[.int .u32 48] 39)
  have nx : Num ((w17).alloc (.cells #[.int .u32 48] 39)) (.slice (some ⟨w17.heap.size, 0, none⟩) 1 1) [48] 48 := lit_at _ _ rfl _ _ _ (by simp) rfl (by decide) (by decide) (by decide)
  replace ntop := ntop.below hb18
  replace nbig := nbig.below hb18
  replace HB := HB.trans (hb18.mono HB.size)
  have hb19 := (Below.refl ((w17).alloc (.cells #[.int .u32 48] 39)).heap.size ((w17).alloc (.cells #[.int .u32 48] 39))).alloc (Nat.le_refl _) (.cells #[.int .u32 180] 39)
  have ny : Num (((w17).alloc (.cells #[.int .u32 48] 39)).alloc (.cells #[.int .u32 180] 39)) (.slice (some ⟨w17.heap.size + 1, 0, none⟩) 1 1) [180] 180 := lit_at _ _ (by simp only [size_alloc]) _ _ _ (by simp) rfl (by decide) (by decide) (by decide)
  replace ntop := ntop.below hb19
  replace nbig := nbig.below hb19
  replace nx := nx.below hb19
  replace HB := HB.trans (hb19.mono HB.size)
  go_wp2_with fail
  refine (gcd_any _ _ _ _ _ _ _ nx ny).mono ?_
  rintro e w20 ⟨vs, rfl, gs⟩
  have hb20 := gs.below
  replace ntop := ntop.below hb20
  replace nbig := nbig.below hb20
  replace nx := nx.below hb20
  replace ny := ny.below hb20
  replace HB := HB.trans (hb20.mono HB.size)
  rw [show limbs (Nat.gcd 48 180) = [12] from limbs_of (lim_of (by decide)) (by decide) (by decide)] at gs
  have ns : Num w20 _ [12] 12 := ⟨gs.arg, lim_of (by decide), by decide, by decide⟩
  clear nx
  clear ny
  have hb21 := (Below.refl (w20).heap.size (w20)).alloc (Nat.le_refl _) (.cells #[.int .u32 12] 39)
  have nt : Num ((w20).alloc (.cells #[.int .u32 12] 39)) (.slice (some ⟨w20.heap.size, 0, none⟩) 1 1) [12] 12 := lit_at _ _ rfl _ _ _ (by simp) rfl (by decide) (by decide) (by decide)
  replace ntop := ntop.below hb21
  replace nbig := nbig.below hb21
  replace ns := ns.below hb21
  replace HB := HB.trans (hb21.mono HB.size)
  go_wp2_with fail
  refine (same_any _ _ _ [12] [12] ns.arg nt.arg (by decide)).mono ?_
  rintro e w22 ⟨rfl, hbs⟩
  have hb22 := hbs
  replace ntop := ntop.below hb22
  replace nbig := nbig.below hb22
  replace ns := ns.below hb22
  replace nt := nt.below hb22
  replace HB := HB.trans (hb22.mono HB.size)
  rw [show decide ([12] = [12]) = true by decide]
  clear ns
  clear nt
  have hb23 := (Below.refl (w22).heap.size (w22)).alloc (Nat.le_refl _) (.cells #[.int .u32 0, .int .u32 1] 39)
  have nt : Num ((w22).alloc (.cells #[.int .u32 0, .int .u32 1] 39)) (.slice (some ⟨w22.heap.size, 0, none⟩) 2 2) [0, 1] 4294967296 := lit_at _ _ rfl _ _ _ (by simp) rfl (by decide) (by decide) (by decide)
  replace ntop := ntop.below hb23
  replace nbig := nbig.below hb23
  replace HB := HB.trans (hb23.mono HB.size)
  go_wp2_with fail
  refine (text_any _ _ _ _ nt).mono ?_
  rintro e w24 ⟨rfl, hbt⟩
  have hb24 := hbt
  replace ntop := ntop.below hb24
  replace nbig := nbig.below hb24
  replace nt := nt.below hb24
  replace HB := HB.trans (hb24.mono HB.size)
  rw [dec_a]
  clear nt
  go_wp2_with fail
  refine (text_any _ _ [] 0 ⟨Arg.nil_ _ _ _ _, Lim.nil, by decide, rfl⟩).mono ?_
  rintro e w25 ⟨rfl, hbt⟩
  have hb25 := hbt
  replace ntop := ntop.below hb25
  replace nbig := nbig.below hb25
  replace HB := HB.trans (hb25.mono HB.size)
  rw [dec_b]
  have hb26 := (Below.refl (w25).heap.size (w25)).alloc (Nat.le_refl _) (.cells #[.int .u32 0, .int .u32 0, .int .u32 1] 39)
  have nt : Num ((w25).alloc (.cells #[.int .u32 0, .int .u32 0, .int .u32 1] 39)) (.slice (some ⟨w25.heap.size, 0, none⟩) 3 3) [0, 0, 1] 18446744073709551616 := lit_at _ _ rfl _ _ _ (by simp) rfl (by decide) (by decide) (by decide)
  replace ntop := ntop.below hb26
  replace nbig := nbig.below hb26
  replace HB := HB.trans (hb26.mono HB.size)
  go_wp2_with fail
  refine (same_any _ _ _ [0, 0, 1] [0, 0, 1] nbig.arg nt.arg (by decide)).mono ?_
  rintro e w27 ⟨rfl, hbs⟩
  have hb27 := hbs
  replace ntop := ntop.below hb27
  replace nbig := nbig.below hb27
  replace nt := nt.below hb27
  replace HB := HB.trans (hb27.mono HB.size)
  rw [show decide ([0, 0, 1] = [0, 0, 1]) = true by decide]
  go_wp2_with fail
  go_ret
  exact ⟨rfl, HB⟩
end Go.Proofs.YtdmghakmhfhpiaaDoor
