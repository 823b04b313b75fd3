import Derived.Test.YtmajcjdhhnhmmaaDoorVal3
import Derived.Test.YtmajcjdhhnhmmaaDoorBigWorks
/- litmuslaw02.BigKnown returns true. -/
namespace Go.Proofs.YtmajcjdhhnhmmaaDoor
open Go.RowKit Go.Num Go.Kp
attribute [local go_sem] Oper.semAt_some u64_mask ev_const ev_func ev_global
theorem known_start (w : World) : Below w.heap.size w ((((w.alloc (.cells #[.int .u32 7, .int .u32 0, .int .u32 0] 52)).alloc (.cells #[.bool true, .slice (some ⟨w.heap.size, 0, none⟩) 3 3] 24)).alloc (.cells #[.int .u32 0] 52)).alloc (.cells #[.bool true, .slice (some ⟨w.heap.size + 1 + 1, 0, none⟩) 1 1] 24)) ∧ Box2 ((((w.alloc (.cells #[.int .u32 7, .int .u32 0, .int .u32 0] 52)).alloc (.cells #[.bool true, .slice (some ⟨w.heap.size, 0, none⟩) 3 3] 24)).alloc (.cells #[.int .u32 0] 52)).alloc (.cells #[.bool true, .slice (some ⟨w.heap.size + 1 + 1, 0, none⟩) 1 1] 24)) (w.heap.size + 1) 24 (.bool true) (.slice (some ⟨w.heap.size, 0, none⟩) 3 3) ∧ Num ((((w.alloc (.cells #[.int .u32 7, .int .u32 0, .int .u32 0] 52)).alloc (.cells #[.bool true, .slice (some ⟨w.heap.size, 0, none⟩) 3 3] 24)).alloc (.cells #[.int .u32 0] 52)).alloc (.cells #[.bool true, .slice (some ⟨w.heap.size + 1 + 1, 0, none⟩) 1 1] 24)) (.slice (some ⟨w.heap.size, 0, none⟩) 3 3) [7, 0, 0] 7 ∧ Box2 ((((w.alloc (.cells #[.int .u32 7, .int .u32 0, .int .u32 0] 52)).alloc (.cells #[.bool true, .slice (some ⟨w.heap.size, 0, none⟩) 3 3] 24)).alloc (.cells #[.int .u32 0] 52)).alloc (.cells #[.bool true, .slice (some ⟨w.heap.size + 1 + 1, 0, none⟩) 1 1] 24)) (w.heap.size + 1 + 1 + 1) 24 (.bool true) (.slice (some ⟨w.heap.size + 1 + 1, 0, none⟩) 1 1) ∧ Num ((((w.alloc (.cells #[.int .u32 7, .int .u32 0, .int .u32 0] 52)).alloc (.cells #[.bool true, .slice (some ⟨w.heap.size, 0, none⟩) 3 3] 24)).alloc (.cells #[.int .u32 0] 52)).alloc (.cells #[.bool true, .slice (some ⟨w.heap.size + 1 + 1, 0, none⟩) 1 1] 24)) (.slice (some ⟨w.heap.size + 1 + 1, 0, none⟩) 1 1) [0] 0 := by
  have h1 := heap_alloc_new w (.cells #[.int .u32 7, .int .u32 0, .int .u32 0] 52)
  generalize hw1 : w.alloc (.cells #[.int .u32 7, .int .u32 0, .int .u32 0] 52) = w1 at *
  have s1 : w1.heap.size = w.heap.size + 1 := by rw [← hw1, World.size_alloc]
  have b1 : Below w.heap.size w w1 := by rw [← hw1]; exact (Below.refl _ w).alloc (Nat.le_refl _) _
  have h2 := Box2.new w1 24 (.bool true) (.slice (some ⟨w.heap.size, 0, none⟩) 3 3)
  rw [s1] at h2
  have h1' : (w1.alloc (.cells #[.bool true, .slice (some ⟨w.heap.size, 0, none⟩) 3 3] 24)).heap[w.heap.size]? = _ := (Below.heap_alloc w1 _ w.heap.size (by omega)).trans h1
  generalize hw2 : w1.alloc (.cells #[.bool true, .slice (some ⟨w.heap.size, 0, none⟩) 3 3] 24) = w2 at *
  have s2 : w2.heap.size = w.heap.size + 1 + 1 := by rw [← hw2, World.size_alloc, s1]
  have b2 : Below w.heap.size w w2 := by rw [← hw2]; exact b1.alloc (by omega) _
  have h3 := heap_alloc_new w2 (.cells #[.int .u32 0] 52)
  rw [s2] at h3
  have h1'' : (w2.alloc (.cells #[.int .u32 0] 52)).heap[w.heap.size]? = _ := (Below.heap_alloc w2 _ w.heap.size (by omega)).trans h1'
  have h2' := h2.alloc (.cells #[.int .u32 0] 52)
  generalize hw3 : w2.alloc (.cells #[.int .u32 0] 52) = w3 at *
  have s3 : w3.heap.size = w.heap.size + 1 + 1 + 1 := by rw [← hw3, World.size_alloc, s2]
  have b3 : Below w.heap.size w w3 := by rw [← hw3]; exact b2.alloc (by omega) _
  have h4 := Box2.new w3 24 (.bool true) (.slice (some ⟨w.heap.size + 1 + 1, 0, none⟩) 1 1)
  rw [s3] at h4
  have c1 : ∀ i, w3.cell? ⟨w.heap.size, i, none⟩ = #[Value.int .u32 7, .int .u32 0, .int .u32 0][i]? := fun i => cell_of_row _ _ _ _ _ _ h1''
  have c3 : ∀ i, w3.cell? ⟨w.heap.size + 1 + 1, i, none⟩ = #[Value.int .u32 0][i]? := fun i => cell_of_row _ _ _ _ _ _ h3
  have n1 : Num w3 (.slice (some ⟨w.heap.size, 0, none⟩) 3 3) [7, 0, 0] 7 := ⟨Arg.mk_ (n := 3) rfl (by decide) fun _ => ⟨_, 0, rfl, fun j x hj => by
    rw [Nat.zero_add, c1]
    rcases j with _ | _ | _ | j
    · obtain rfl : 7 = x := by simpa using hj
      rfl
    · obtain rfl : 0 = x := by simpa using hj
      rfl
    · obtain rfl : 0 = x := by simpa using hj
      rfl
    · simp at hj⟩, by intro x hx; simp at hx; omega, by decide, by simp [val]⟩
  have n3 : Num w3 (.slice (some ⟨w.heap.size + 1 + 1, 0, none⟩) 1 1) [0] 0 := ⟨Arg.mk_ (n := 1) rfl (by decide) fun _ => ⟨_, 0, rfl, fun j x hj => by
    rw [Nat.zero_add, c3]
    rcases j with _ | j
    · obtain rfl : 0 = x := by simpa using hj
      rfl
    · simp at hj⟩, by intro x hx; simp at hx; omega, by decide, by simp [val]⟩
  exact ⟨b3.alloc (by omega) _, h2'.alloc _, n1.alloc _, h4, n3.alloc _⟩
theorem lv_two (w : World) : LV (w.alloc (.cells #[.int .u32 0, .int .u32 2147483648] 52)) (.slice (some ⟨w.heap.size, 0, none⟩) 2 2) [0, 2147483648] 9223372036854775808 := by
  have c1 : ∀ i, (w.alloc (.cells #[.int .u32 0, .int .u32 2147483648] 52)).cell? ⟨w.heap.size, i, none⟩ = #[Value.int .u32 0, .int .u32 2147483648][i]? := fun i => cell_of_row _ _ _ _ _ _ (heap_alloc_new w _)
  exact ⟨_, 2, rfl, Arg.mk_ (n := 2) rfl (by decide) fun _ => ⟨_, 0, rfl, fun j x hj => by
    rw [Nat.zero_add, c1]
    rcases j with _ | _ | j
    · obtain rfl : 0 = x := by simpa using hj
      rfl
    · obtain rfl : 2147483648 = x := by simpa using hj
      rfl
    · simp at hj⟩, by intro x hx; simp at hx; omega, by decide, by simp [val]⟩
theorem sz63 : szz 9223372036854775808 ≤ 2 := sz_le (by decide)
theorem limbs7 : (limbs 7).length = 1 := by simp [limbs_pos, limbs_zero]
theorem limbs0 : (limbs 0).length = 0 := by rw [limbs_zero]; rfl
theorem kt_7 : ztext ((-7) + 0) = [45, 55] := by rw [show ((-7) + 0 : Int) = -7 from rfl]; simp [ztext, dec, decs, vdig_pos, vdig_zero, Num.byteOf]
theorem kt_343 : ztext ((-7) * (-7) * (-7)) = [45, 51, 52, 51] := by rw [show ((-7) * (-7) * (-7) : Int) = -343 from rfl]; simp [ztext, dec, decs, vdig_pos, vdig_zero, Num.byteOf]
theorem kt_63 : ztext (-(-9223372036854775808)) = [57, 50, 50, 51, 51, 55, 50, 48, 51, 54, 56, 53, 52, 55, 55, 53, 56, 48, 56] := by rw [show (-(-9223372036854775808) : Int) = 9223372036854775808 from rfl]; simp [ztext, dec, decs, vdig_pos, vdig_zero, Num.byteOf]
set_option maxHeartbeats 16000000 in
set_option maxRecDepth 100000 in
theorem bigKnown_any (w : World)   :
    Calls Tryd.prog 12 #[] w fun e w' => e = .returned (.bool true) ∧ Below w.heap.size w w' := by
  go_enter Tryd.func12, Tryd.ntmps12
  go_upto_region 3 with fail
  obtain ⟨HB, DO, NO, DZ, NZ⟩ := known_start w
  have So := Lib.hid (show Whole _ true _ (-7) from Whole.of true NO (by decide))
  have Sz := Lib.hid (show Whole _ true _ 0 from Whole.of true NZ (by decide))
  replace HB := Lib.hid HB
  have Do := Lib.hid DO
  have Dz := Lib.hid DZ
  replace NO := Lib.hid NO
  replace NZ := Lib.hid NZ
  clear DO DZ
  generalize (((w.alloc (.cells #[.int .u32 7, .int .u32 0, .int .u32 0] 52)).alloc (.cells #[.bool true, .slice (some ⟨w.heap.size, 0, none⟩) 3 3] 24)).alloc (.cells #[.int .u32 0] 52)).alloc (.cells #[.bool true, .slice (some ⟨w.heap.size + 1 + 1, 0, none⟩) 1 1] 24) = y1 at *
  have sz7 : szz (-7) ≤ 1 := sz_le (by decide)
  refine wp_region_calm 5 [] ([fun vq wq => ZV wq vq ((-9223372036854775808)),
      fun vq wq => vq = .tuple #[.int .i64 (-9223372036854775808), .bool true],
      fun vq wq => vq = .tuple #[.int .i64 (-9223372036854775808), .bool true],
      fun vq _ => vq = .int .i64 (-9223372036854775808),
      fun vq _ => vq = .bool true]) (by kernel_rfl) (by decide) ?hF ?steps ?fin
  case hF =>
    intro j hj; cases hj
  case steps =>
    refine AllOps.cons (Does.plain rfl fun lq aq wq hk hr K hK => ?_) ?_
    · refine wp_of_call (f := 31) (vs := #[.int .i64 (-9223372036854775808)]) (by go_simp) (from_v wq ((-9223372036854775808)) (by decide) (by decide)) ?_
      rintro e w1 ⟨u, rfl, hu, hb⟩
      exact ⟨u, rfl, hK.out _ _ hb (fun w2 h2 => (hu).grow h2) (fun h => absurd h (by decide))⟩
    refine AllOps.cons (Does.plain rfl fun lq aq wq hk hr K hK => ?_) ?_
    · obtain ⟨v0, E0, -, r0⟩ := hk.dep hr 0 28 (by kernel_rfl) (by kernel_rfl)
      have r0 : ZV wq v0 ((-9223372036854775808)) := r0 wq (Grows.refl wq)
      refine wp_of_call (f := 38) (vs := #[v0]) (by go_simp) (small_v wq (r0).wv (by decide) (by decide)) ?_
      rintro e w1 ⟨u, rfl, hu, hb⟩
      exact ⟨u, rfl, hK.out _ _ hb (fun w2 h2 => hu) (fun h => absurd h (by decide))⟩
    refine AllOps.cons (Does.plain rfl fun lq aq wq hk hr K hK => ?_) ?_
    · obtain ⟨v1, E1, -, r1⟩ := hk.dep hr 1 29 (by kernel_rfl) (by kernel_rfl)
      have r1 : v1 = .tuple #[.int .i64 (-9223372036854775808), .bool true] := r1 wq (Grows.refl wq)
      exact wp_of_value (by go_simp) (hK.out _ _ (Grows.refl _) (fun w2 h2 => r1) (fun h => absurd h (by decide)))
    refine AllOps.cons (Does.plain rfl fun lq aq wq hk hr K hK => ?_) ?_
    · obtain ⟨v2, E2, -, r2⟩ := hk.dep hr 2 27 (by kernel_rfl) (by kernel_rfl)
      have r2 : v2 = .tuple #[.int .i64 (-9223372036854775808), .bool true] := r2 wq (Grows.refl wq)
      obtain ⟨rfl⟩ := r2
      exact wp_of_value (by go_simp) (hK.out _ _ (Grows.refl _) (fun w2 h2 => rfl) (fun h => absurd h (by decide)))
    refine AllOps.cons (Does.plain rfl fun lq aq wq hk hr K hK => ?_) ?_
    · obtain ⟨v2, E2, -, r2⟩ := hk.dep hr 2 27 (by kernel_rfl) (by kernel_rfl)
      have r2 : v2 = .tuple #[.int .i64 (-9223372036854775808), .bool true] := r2 wq (Grows.refl wq)
      obtain ⟨rfl⟩ := r2
      exact wp_of_value (by go_simp) (hK.out _ _ (Grows.refl _) (fun w2 h2 => rfl) (fun h => absurd h (by decide)))
    exact AllOps.nil
  case fin =>
    intro V x2 hG hV hap
    have r3 : (V 3) = .int .i64 (-9223372036854775808) := hV 3 (by decide)
    have r4 : (V 4) = .bool true := hV 4 (by decide)
    clear hV hap
    simp only [List.take_succ_cons, List.take_zero, List.drop_succ_cons, List.drop_zero, putAll, Act.put, List.setIfInBounds_toArray, List.set_cons_zero, List.set_cons_succ]
    have hb := (show Below _ _ _ from hG)
    replace Do := Lib.hid (Box2.below Do.out hb)
    replace So := Lib.hid (So.out.below hb)
    replace Dz := Lib.hid (Box2.below Dz.out hb)
    replace Sz := Lib.hid (Sz.out.below hb)
    replace NO := Lib.hid (NO.out.below hb)
    replace NZ := Lib.hid (NZ.out.below hb)
    replace HB := Lib.hid (HB.out.trans (Below.mono hb HB.out.size))
    clear hb hG
    rw [r3, r4]
    clear r3 r4
    go_upto_region 4 with fail
    refine wp_region_calm 7 [] ([fun vq wq => ZV wq vq ((-9223372036854775808)),
        fun vq wq => ZV wq vq 1,
        fun vq wq => ZV wq vq (((-9223372036854775808) - 1)),
        fun vq wq => vq = .tuple #[.int .i64 0, .bool false],
        fun vq wq => vq = .tuple #[.int .i64 0, .bool false],
        fun vq _ => vq = .int .i64 0,
        fun vq _ => vq = .bool false]) (by kernel_rfl) (by decide) ?hF ?steps ?fin
    case hF =>
      intro j hj; cases hj
    case steps =>
      refine AllOps.cons (Does.plain rfl fun lq aq wq hk hr K hK => ?_) ?_
      · refine wp_of_call (f := 31) (vs := #[.int .i64 (-9223372036854775808)]) (by go_simp) (from_v wq ((-9223372036854775808)) (by decide) (by decide)) ?_
        rintro e w1 ⟨u, rfl, hu, hb⟩
        exact ⟨u, rfl, hK.out _ _ hb (fun w2 h2 => (hu).grow h2) (fun h => absurd h (by decide))⟩
      refine AllOps.cons (Does.plain rfl fun lq aq wq hk hr K hK => ?_) ?_
      · refine wp_of_call (f := 31) (vs := #[.int .i64 1]) (by go_simp) (from_v wq 1 (by decide) (by decide)) ?_
        rintro e w1 ⟨u, rfl, hu, hb⟩
        exact ⟨u, rfl, hK.out _ _ hb (fun w2 h2 => (hu).grow h2) (fun h => absurd h (by decide))⟩
      refine AllOps.cons (Does.plain rfl fun lq aq wq hk hr K hK => ?_) ?_
      · obtain ⟨v0, E0, -, r0⟩ := hk.dep hr 0 33 (by kernel_rfl) (by kernel_rfl)
        have r0 : ZV wq v0 ((-9223372036854775808)) := r0 wq (Grows.refl wq)
        obtain ⟨v1, E1, -, r1⟩ := hk.dep hr 1 34 (by kernel_rfl) (by kernel_rfl)
        have r1 : ZV wq v1 1 := r1 wq (Grows.refl wq)
        refine wp_of_call (f := 29) (vs := #[v0, v1]) (by go_simp) (sub_v wq (r0).wv (r1).wv (Nat.le_trans (szz_sub (szz_i64 (by decide) (by decide)) (szz_i64 (by decide) (by decide))) (by decide))) ?_
        rintro e w1 ⟨u, rfl, hu, hb⟩
        exact ⟨u, rfl, hK.out _ _ hb (fun w2 h2 => (hu).grow h2) (fun h => absurd h (by decide))⟩
      refine AllOps.cons (Does.plain rfl fun lq aq wq hk hr K hK => ?_) ?_
      · obtain ⟨v2, E2, -, r2⟩ := hk.dep hr 2 35 (by kernel_rfl) (by kernel_rfl)
        have r2 : ZV wq v2 (((-9223372036854775808) - 1)) := r2 wq (Grows.refl wq)
        refine wp_of_call (f := 38) (vs := #[v2]) (by go_simp) (small0_v wq (r2).wv (.inl (by decide))) ?_
        rintro e w1 ⟨u, rfl, hu, hb⟩
        exact ⟨u, rfl, hK.out _ _ hb (fun w2 h2 => hu) (fun h => absurd h (by decide))⟩
      refine AllOps.cons (Does.plain rfl fun lq aq wq hk hr K hK => ?_) ?_
      · obtain ⟨v3, E3, -, r3⟩ := hk.dep hr 3 36 (by kernel_rfl) (by kernel_rfl)
        have r3 : v3 = .tuple #[.int .i64 0, .bool false] := r3 wq (Grows.refl wq)
        exact wp_of_value (by go_simp) (hK.out _ _ (Grows.refl _) (fun w2 h2 => r3) (fun h => absurd h (by decide)))
      refine AllOps.cons (Does.plain rfl fun lq aq wq hk hr K hK => ?_) ?_
      · obtain ⟨v4, E4, -, r4⟩ := hk.dep hr 4 32 (by kernel_rfl) (by kernel_rfl)
        have r4 : v4 = .tuple #[.int .i64 0, .bool false] := r4 wq (Grows.refl wq)
        obtain ⟨rfl⟩ := r4
        exact wp_of_value (by go_simp) (hK.out _ _ (Grows.refl _) (fun w2 h2 => rfl) (fun h => absurd h (by decide)))
      refine AllOps.cons (Does.plain rfl fun lq aq wq hk hr K hK => ?_) ?_
      · obtain ⟨v4, E4, -, r4⟩ := hk.dep hr 4 32 (by kernel_rfl) (by kernel_rfl)
        have r4 : v4 = .tuple #[.int .i64 0, .bool false] := r4 wq (Grows.refl wq)
        obtain ⟨rfl⟩ := r4
        exact wp_of_value (by go_simp) (hK.out _ _ (Grows.refl _) (fun w2 h2 => rfl) (fun h => absurd h (by decide)))
      exact AllOps.nil
    case fin =>
      intro V x3 hG hV hap
      have r5 : (V 5) = .int .i64 0 := hV 5 (by decide)
      have r6 : (V 6) = .bool false := hV 6 (by decide)
      clear hV hap
      simp only [List.take_succ_cons, List.take_zero, List.drop_succ_cons, List.drop_zero, putAll, Act.put, List.setIfInBounds_toArray, List.set_cons_zero, List.set_cons_succ]
      have hb := (show Below _ _ _ from hG)
      replace Do := Lib.hid (Box2.below Do.out hb)
      replace So := Lib.hid (So.out.below hb)
      replace Dz := Lib.hid (Box2.below Dz.out hb)
      replace Sz := Lib.hid (Sz.out.below hb)
      replace NO := Lib.hid (NO.out.below hb)
      replace NZ := Lib.hid (NZ.out.below hb)
      replace HB := Lib.hid (HB.out.trans (Below.mono hb HB.out.size))
      clear hb hG
      rw [r5, r6]
      clear r5 r6
      go_upto_region 5 with fail
      refine wp_region_calm 6 [] ([fun vq wq => LV wq vq [0, 2147483648] 9223372036854775808,
          fun vq wq => ZV wq vq 9223372036854775808,
          fun vq wq => vq = .tuple #[.int .i64 0, .bool false],
          fun vq wq => vq = .tuple #[.int .i64 0, .bool false],
          fun vq _ => vq = .int .i64 0,
          fun vq _ => vq = .bool false]) (by kernel_rfl) (by decide) ?hF ?steps ?fin
      case hF =>
        intro j hj; cases hj
      case steps =>
        refine AllOps.cons (Does.plain rfl fun lq aq wq hk hr K hK => ?_) ?_
        · exact wp_of_value (by go_simp) (hK.out _ _ ((Grows.refl _).alloc _) (fun w2 h2 => (lv_two wq).grow h2) (fun h => absurd h (by decide)))
        refine AllOps.cons (Does.plain rfl fun lq aq wq hk hr K hK => ?_) ?_
        · obtain ⟨v0, E0, -, r0⟩ := hk.dep hr 0 40 (by kernel_rfl) (by kernel_rfl)
          have r0 : LV wq v0 [0, 2147483648] 9223372036854775808 := r0 wq (Grows.refl wq)
          refine wp_of_call (f := 34) (vs := #[.bool false, v0]) (by go_simp) (of_v wq false r0 (z := 9223372036854775808) (by decide) (Nat.le_trans sz63 (by decide))) ?_
          rintro e w1 ⟨u, rfl, hu, hb⟩
          exact ⟨u, rfl, hK.out _ _ hb (fun w2 h2 => (hu).grow h2) (fun h => absurd h (by decide))⟩
        refine AllOps.cons (Does.plain rfl fun lq aq wq hk hr K hK => ?_) ?_
        · obtain ⟨v1, E1, -, r1⟩ := hk.dep hr 1 41 (by kernel_rfl) (by kernel_rfl)
          have r1 : ZV wq v1 9223372036854775808 := r1 wq (Grows.refl wq)
          refine wp_of_call (f := 38) (vs := #[v1]) (by go_simp) (small0_v wq (r1).wv (.inr (by decide))) ?_
          rintro e w1 ⟨u, rfl, hu, hb⟩
          exact ⟨u, rfl, hK.out _ _ hb (fun w2 h2 => hu) (fun h => absurd h (by decide))⟩
        refine AllOps.cons (Does.plain rfl fun lq aq wq hk hr K hK => ?_) ?_
        · obtain ⟨v2, E2, -, r2⟩ := hk.dep hr 2 42 (by kernel_rfl) (by kernel_rfl)
          have r2 : v2 = .tuple #[.int .i64 0, .bool false] := r2 wq (Grows.refl wq)
          exact wp_of_value (by go_simp) (hK.out _ _ (Grows.refl _) (fun w2 h2 => r2) (fun h => absurd h (by decide)))
        refine AllOps.cons (Does.plain rfl fun lq aq wq hk hr K hK => ?_) ?_
        · obtain ⟨v3, E3, -, r3⟩ := hk.dep hr 3 39 (by kernel_rfl) (by kernel_rfl)
          have r3 : v3 = .tuple #[.int .i64 0, .bool false] := r3 wq (Grows.refl wq)
          obtain ⟨rfl⟩ := r3
          exact wp_of_value (by go_simp) (hK.out _ _ (Grows.refl _) (fun w2 h2 => rfl) (fun h => absurd h (by decide)))
        refine AllOps.cons (Does.plain rfl fun lq aq wq hk hr K hK => ?_) ?_
        · obtain ⟨v3, E3, -, r3⟩ := hk.dep hr 3 39 (by kernel_rfl) (by kernel_rfl)
          have r3 : v3 = .tuple #[.int .i64 0, .bool false] := r3 wq (Grows.refl wq)
          obtain ⟨rfl⟩ := r3
          exact wp_of_value (by go_simp) (hK.out _ _ (Grows.refl _) (fun w2 h2 => rfl) (fun h => absurd h (by decide)))
        exact AllOps.nil
      case fin =>
        intro V x4 hG hV hap
        have r4 : (V 4) = .int .i64 0 := hV 4 (by decide)
        have r5 : (V 5) = .bool false := hV 5 (by decide)
        clear hV hap
        simp only [List.take_succ_cons, List.take_zero, List.drop_succ_cons, List.drop_zero, putAll, Act.put, List.setIfInBounds_toArray, List.set_cons_zero, List.set_cons_succ]
        have hb := (show Below _ _ _ from hG)
        replace Do := Lib.hid (Box2.below Do.out hb)
        replace So := Lib.hid (So.out.below hb)
        replace Dz := Lib.hid (Box2.below Dz.out hb)
        replace Sz := Lib.hid (Sz.out.below hb)
        replace NO := Lib.hid (NO.out.below hb)
        replace NZ := Lib.hid (NZ.out.below hb)
        replace HB := Lib.hid (HB.out.trans (Below.mono hb HB.out.size))
        clear hb hG
        rw [r4, r5]
        clear r4 r5
        go_upto_region 6 with fail
        refine wp_region_calm 5 [] ([fun vq wq => ZV wq vq 9223372036854775807,
            fun vq wq => vq = .tuple #[.int .i64 9223372036854775807, .bool true],
            fun vq wq => vq = .tuple #[.int .i64 9223372036854775807, .bool true],
            fun vq _ => vq = .int .i64 9223372036854775807,
            fun vq _ => vq = .bool true]) (by kernel_rfl) (by decide) ?hF ?steps ?fin
        case hF =>
          intro j hj; cases hj
        case steps =>
          refine AllOps.cons (Does.plain rfl fun lq aq wq hk hr K hK => ?_) ?_
          · refine wp_of_call (f := 31) (vs := #[.int .i64 9223372036854775807]) (by go_simp) (from_v wq 9223372036854775807 (by decide) (by decide)) ?_
            rintro e w1 ⟨u, rfl, hu, hb⟩
            exact ⟨u, rfl, hK.out _ _ hb (fun w2 h2 => (hu).grow h2) (fun h => absurd h (by decide))⟩
          refine AllOps.cons (Does.plain rfl fun lq aq wq hk hr K hK => ?_) ?_
          · obtain ⟨v0, E0, -, r0⟩ := hk.dep hr 0 46 (by kernel_rfl) (by kernel_rfl)
            have r0 : ZV wq v0 9223372036854775807 := r0 wq (Grows.refl wq)
            refine wp_of_call (f := 38) (vs := #[v0]) (by go_simp) (small_v wq (r0).wv (by decide) (by decide)) ?_
            rintro e w1 ⟨u, rfl, hu, hb⟩
            exact ⟨u, rfl, hK.out _ _ hb (fun w2 h2 => hu) (fun h => absurd h (by decide))⟩
          refine AllOps.cons (Does.plain rfl fun lq aq wq hk hr K hK => ?_) ?_
          · obtain ⟨v1, E1, -, r1⟩ := hk.dep hr 1 47 (by kernel_rfl) (by kernel_rfl)
            have r1 : v1 = .tuple #[.int .i64 9223372036854775807, .bool true] := r1 wq (Grows.refl wq)
            exact wp_of_value (by go_simp) (hK.out _ _ (Grows.refl _) (fun w2 h2 => r1) (fun h => absurd h (by decide)))
          refine AllOps.cons (Does.plain rfl fun lq aq wq hk hr K hK => ?_) ?_
          · obtain ⟨v2, E2, -, r2⟩ := hk.dep hr 2 45 (by kernel_rfl) (by kernel_rfl)
            have r2 : v2 = .tuple #[.int .i64 9223372036854775807, .bool true] := r2 wq (Grows.refl wq)
            obtain ⟨rfl⟩ := r2
            exact wp_of_value (by go_simp) (hK.out _ _ (Grows.refl _) (fun w2 h2 => rfl) (fun h => absurd h (by decide)))
          refine AllOps.cons (Does.plain rfl fun lq aq wq hk hr K hK => ?_) ?_
          · obtain ⟨v2, E2, -, r2⟩ := hk.dep hr 2 45 (by kernel_rfl) (by kernel_rfl)
            have r2 : v2 = .tuple #[.int .i64 9223372036854775807, .bool true] := r2 wq (Grows.refl wq)
            obtain ⟨rfl⟩ := r2
            exact wp_of_value (by go_simp) (hK.out _ _ (Grows.refl _) (fun w2 h2 => rfl) (fun h => absurd h (by decide)))
          exact AllOps.nil
        case fin =>
          intro V x5 hG hV hap
          have r3 : (V 3) = .int .i64 9223372036854775807 := hV 3 (by decide)
          have r4 : (V 4) = .bool true := hV 4 (by decide)
          clear hV hap
          simp only [List.take_succ_cons, List.take_zero, List.drop_succ_cons, List.drop_zero, putAll, Act.put, List.setIfInBounds_toArray, List.set_cons_zero, List.set_cons_succ]
          have hb := (show Below _ _ _ from hG)
          replace Do := Lib.hid (Box2.below Do.out hb)
          replace So := Lib.hid (So.out.below hb)
          replace Dz := Lib.hid (Box2.below Dz.out hb)
          replace Sz := Lib.hid (Sz.out.below hb)
          replace NO := Lib.hid (NO.out.below hb)
          replace NZ := Lib.hid (NZ.out.below hb)
          replace HB := Lib.hid (HB.out.trans (Below.mono hb HB.out.size))
          clear hb hG
          rw [r3, r4]
          clear r3 r4
          go_upto_region 7 with fail
          refine wp_region_calm 7 [6] ([fun vq wq => WV wq vq ((-7)),
              fun vq wq => WV wq vq 0,
              fun vq wq => ∃ u0, vq = .tuple #[u0, .int .i64 3] ∧ ZV wq u0 0,
              fun vq wq => ∃ u0, vq = .tuple #[u0, .int .i64 3] ∧ ZV wq u0 0,
              fun vq wq => ZV wq vq 0,
              fun vq _ => vq = .int .i64 3,
              fun vq wq => ∃ bq, vq = .pointer (some ⟨bq, 0, none⟩) ∧ Box2 wq bq 24 (.bool false) (.slice none 0 0) ∧ (x5).heap.size ≤ bq]) (by kernel_rfl) (by decide) ?hF ?steps ?fin
          case hF =>
            intro j hj v w h
            simp only [List.mem_cons, List.not_mem_nil, or_false] at hj
            subst hj
            all_goals (obtain ⟨b, rfl, hB, _⟩ := h; exact hB.lt)
          case steps =>
            refine AllOps.cons (Does.plain rfl fun lq aq wq hk hr K hK => ?_) ?_
            · have B1 : ev aq (.tmp 1) = .pointer (some ⟨w.heap.size + 1, 0, none⟩) := hk.base 1 (by kernel_rfl) rfl
              have hb : Below _ _ _ := hk.ext
              exact wp_of_value (op_load 1 _ B1 (Box2.below Do.out hb)) (hK.out _ _ (Grows.refl _) (fun w2 h2 => ⟨_, _, _, _, rfl, (So.out.below hb).below h2⟩) (fun h => absurd h (by decide)))
            refine AllOps.cons (Does.plain rfl fun lq aq wq hk hr K hK => ?_) ?_
            · have B2 : ev aq (.tmp 2) = .pointer (some ⟨w.heap.size + 1 + 1 + 1, 0, none⟩) := hk.base 2 (by kernel_rfl) rfl
              have hb : Below _ _ _ := hk.ext
              exact wp_of_value (op_load 2 _ B2 (Box2.below Dz.out hb)) (hK.out _ _ (Grows.refl _) (fun w2 h2 => ⟨_, _, _, _, rfl, (Sz.out.below hb).below h2⟩) (fun h => absurd h (by decide)))
            refine AllOps.cons (Does.plain rfl fun lq aq wq hk hr K hK => ?_) ?_
            · obtain ⟨v0, E0, -, r0⟩ := hk.dep hr 0 51 (by kernel_rfl) (by kernel_rfl)
              have r0 : WV wq v0 ((-7)) := r0 wq (Grows.refl wq)
              obtain ⟨v1, E1, -, r1⟩ := hk.dep hr 1 52 (by kernel_rfl) (by kernel_rfl)
              have r1 : WV wq v1 0 := r1 wq (Grows.refl wq)
              refine wp_of_call (f := 16) (vs := #[v0, v1]) (by go_simp) (div0_v wq r0 (r1)) ?_
              rintro e w1 ⟨u, rfl, hu, hb⟩
              exact ⟨u, rfl, hK.out _ _ hb (fun w2 h2 => (let ⟨u0, e0, h0⟩ := hu; ⟨u0, e0, (h0).grow h2⟩)) (fun h => absurd h (by decide))⟩
            refine AllOps.cons (Does.plain rfl fun lq aq wq hk hr K hK => ?_) ?_
            · obtain ⟨v2, E2, -, r2⟩ := hk.dep hr 2 53 (by kernel_rfl) (by kernel_rfl)
              have r2 : ∃ u0, v2 = .tuple #[u0, .int .i64 3] ∧ ZV wq u0 0 := r2 wq (Grows.refl wq)
              exact wp_of_value (by go_simp) (hK.out _ _ (Grows.refl _) (fun w2 h2 => (let ⟨u0, e0, h0⟩ := r2; ⟨u0, e0, (h0).grow h2⟩)) (fun h => absurd h (by decide)))
            refine AllOps.cons (Does.plain rfl fun lq aq wq hk hr K hK => ?_) ?_
            · obtain ⟨v3, E3, -, r3⟩ := hk.dep hr 3 50 (by kernel_rfl) (by kernel_rfl)
              have r3 : ∃ u0, v3 = .tuple #[u0, .int .i64 3] ∧ ZV wq u0 0 := r3 wq (Grows.refl wq)
              obtain ⟨u0, rfl, h0⟩ := r3
              exact wp_of_value (by go_simp) (hK.out _ _ (Grows.refl _) (fun w2 h2 => (h0).grow h2) (fun h => absurd h (by decide)))
            refine AllOps.cons (Does.plain rfl fun lq aq wq hk hr K hK => ?_) ?_
            · obtain ⟨v3, E3, -, r3⟩ := hk.dep hr 3 50 (by kernel_rfl) (by kernel_rfl)
              have r3 : ∃ u0, v3 = .tuple #[u0, .int .i64 3] ∧ ZV wq u0 0 := r3 wq (Grows.refl wq)
              obtain ⟨u0, rfl, h0⟩ := r3
              exact wp_of_value (by go_simp) (hK.out _ _ (Grows.refl _) (fun w2 h2 => rfl) (fun h => absurd h (by decide)))
            refine AllOps.cons (Does.plain rfl fun lq aq wq hk hr K hK => ?_) ?_
            · exact wp_of_value (by go_simp) (hK.out _ _ ((Grows.refl _).alloc _) (fun w2 h2 => ⟨_, rfl, (Box2.new wq 24 _ _).below h2, hk.ext.size⟩) (fun _ => Nat.le_refl _))
            exact AllOps.nil
          case fin =>
            intro V x6 hG hV hap
            have r4 : ZV x6 (V 4) 0 := hV 4 (by decide)
            have r5 : (V 5) = .int .i64 3 := hV 5 (by decide)
            have r6 : ∃ bq, (V 6) = .pointer (some ⟨bq, 0, none⟩) ∧ Box2 x6 bq 24 (.bool false) (.slice none 0 0) ∧ (x5).heap.size ≤ bq := hV 6 (by decide)
            clear hV
            simp only [List.take_succ_cons, List.take_zero, List.drop_succ_cons, List.drop_zero, putAll, Act.put, List.setIfInBounds_toArray, List.set_cons_zero, List.set_cons_succ]
            have hb := (show Below _ _ _ from hG)
            obtain ⟨bq, eq, Dq, gq⟩ := r6
            obtain ⟨nq, Aq, kq, cq, eq', sq⟩ := r4
            simp only [eq, eq', r5]
            clear eq eq' hap r5
            refine wpList_of_skip rfl (op_store 11 54 _ rfl rfl Dq) ?_
            have hB := put2_below (u := .bool nq) (v := .slice Aq kq cq) hb gq
            replace sq := sq.put Dq (.bool nq) (.slice Aq kq cq)
            replace Dq := put2_own (u := .bool nq) (v := .slice Aq kq cq) Dq
            clear hb
            generalize put2 x6 bq (.bool nq) (.slice Aq kq cq) = y7 at *
            replace Do := Lib.hid (Box2.below Do.out hB)
            replace So := Lib.hid (So.out.below hB)
            replace Dz := Lib.hid (Box2.below Dz.out hB)
            replace Sz := Lib.hid (Sz.out.below hB)
            replace NO := Lib.hid (NO.out.below hB)
            replace NZ := Lib.hid (NZ.out.below hB)
            replace HB := Lib.hid (HB.out.trans (Below.mono hB HB.out.size))
            replace Dq := Lib.hid Dq
            have Sq := Lib.hid sq
            clear hG hB gq sq
            clear Dq Sq
            go_upto_region 8 with fail
            refine wp_region_calm 7 [6] ([fun vq wq => WV wq vq ((-7)),
                fun vq wq => WV wq vq 0,
                fun vq wq => ∃ u0, vq = .tuple #[u0, .int .i64 3] ∧ ZV wq u0 0,
                fun vq wq => ∃ u0, vq = .tuple #[u0, .int .i64 3] ∧ ZV wq u0 0,
                fun vq wq => ZV wq vq 0,
                fun vq _ => vq = .int .i64 3,
                fun vq wq => ∃ bq, vq = .pointer (some ⟨bq, 0, none⟩) ∧ Box2 wq bq 24 (.bool false) (.slice none 0 0) ∧ (y7).heap.size ≤ bq]) (by kernel_rfl) (by decide) ?hF ?steps ?fin
            case hF =>
              intro j hj v w h
              simp only [List.mem_cons, List.not_mem_nil, or_false] at hj
              subst hj
              all_goals (obtain ⟨b, rfl, hB, _⟩ := h; exact hB.lt)
            case steps =>
              refine AllOps.cons (Does.plain rfl fun lq aq wq hk hr K hK => ?_) ?_
              · have B1 : ev aq (.tmp 1) = .pointer (some ⟨w.heap.size + 1, 0, none⟩) := hk.base 1 (by kernel_rfl) rfl
                have hb : Below _ _ _ := hk.ext
                exact wp_of_value (op_load 1 _ B1 (Box2.below Do.out hb)) (hK.out _ _ (Grows.refl _) (fun w2 h2 => ⟨_, _, _, _, rfl, (So.out.below hb).below h2⟩) (fun h => absurd h (by decide)))
              refine AllOps.cons (Does.plain rfl fun lq aq wq hk hr K hK => ?_) ?_
              · have B2 : ev aq (.tmp 2) = .pointer (some ⟨w.heap.size + 1 + 1 + 1, 0, none⟩) := hk.base 2 (by kernel_rfl) rfl
                have hb : Below _ _ _ := hk.ext
                exact wp_of_value (op_load 2 _ B2 (Box2.below Dz.out hb)) (hK.out _ _ (Grows.refl _) (fun w2 h2 => ⟨_, _, _, _, rfl, (Sz.out.below hb).below h2⟩) (fun h => absurd h (by decide)))
              refine AllOps.cons (Does.plain rfl fun lq aq wq hk hr K hK => ?_) ?_
              · obtain ⟨v0, E0, -, r0⟩ := hk.dep hr 0 57 (by kernel_rfl) (by kernel_rfl)
                have r0 : WV wq v0 ((-7)) := r0 wq (Grows.refl wq)
                obtain ⟨v1, E1, -, r1⟩ := hk.dep hr 1 58 (by kernel_rfl) (by kernel_rfl)
                have r1 : WV wq v1 0 := r1 wq (Grows.refl wq)
                refine wp_of_call (f := 17) (vs := #[v0, v1]) (by go_simp) (mod0_v wq r0 (r1)) ?_
                rintro e w1 ⟨u, rfl, hu, hb⟩
                exact ⟨u, rfl, hK.out _ _ hb (fun w2 h2 => (let ⟨u0, e0, h0⟩ := hu; ⟨u0, e0, (h0).grow h2⟩)) (fun h => absurd h (by decide))⟩
              refine AllOps.cons (Does.plain rfl fun lq aq wq hk hr K hK => ?_) ?_
              · obtain ⟨v2, E2, -, r2⟩ := hk.dep hr 2 59 (by kernel_rfl) (by kernel_rfl)
                have r2 : ∃ u0, v2 = .tuple #[u0, .int .i64 3] ∧ ZV wq u0 0 := r2 wq (Grows.refl wq)
                exact wp_of_value (by go_simp) (hK.out _ _ (Grows.refl _) (fun w2 h2 => (let ⟨u0, e0, h0⟩ := r2; ⟨u0, e0, (h0).grow h2⟩)) (fun h => absurd h (by decide)))
              refine AllOps.cons (Does.plain rfl fun lq aq wq hk hr K hK => ?_) ?_
              · obtain ⟨v3, E3, -, r3⟩ := hk.dep hr 3 56 (by kernel_rfl) (by kernel_rfl)
                have r3 : ∃ u0, v3 = .tuple #[u0, .int .i64 3] ∧ ZV wq u0 0 := r3 wq (Grows.refl wq)
                obtain ⟨u0, rfl, h0⟩ := r3
                exact wp_of_value (by go_simp) (hK.out _ _ (Grows.refl _) (fun w2 h2 => (h0).grow h2) (fun h => absurd h (by decide)))
              refine AllOps.cons (Does.plain rfl fun lq aq wq hk hr K hK => ?_) ?_
              · obtain ⟨v3, E3, -, r3⟩ := hk.dep hr 3 56 (by kernel_rfl) (by kernel_rfl)
                have r3 : ∃ u0, v3 = .tuple #[u0, .int .i64 3] ∧ ZV wq u0 0 := r3 wq (Grows.refl wq)
                obtain ⟨u0, rfl, h0⟩ := r3
                exact wp_of_value (by go_simp) (hK.out _ _ (Grows.refl _) (fun w2 h2 => rfl) (fun h => absurd h (by decide)))
              refine AllOps.cons (Does.plain rfl fun lq aq wq hk hr K hK => ?_) ?_
              · exact wp_of_value (by go_simp) (hK.out _ _ ((Grows.refl _).alloc _) (fun w2 h2 => ⟨_, rfl, (Box2.new wq 24 _ _).below h2, hk.ext.size⟩) (fun _ => Nat.le_refl _))
              exact AllOps.nil
            case fin =>
              intro V x8 hG hV hap
              have r4 : ZV x8 (V 4) 0 := hV 4 (by decide)
              have r5 : (V 5) = .int .i64 3 := hV 5 (by decide)
              have r6 : ∃ bq, (V 6) = .pointer (some ⟨bq, 0, none⟩) ∧ Box2 x8 bq 24 (.bool false) (.slice none 0 0) ∧ (y7).heap.size ≤ bq := hV 6 (by decide)
              clear hV
              simp only [List.take_succ_cons, List.take_zero, List.drop_succ_cons, List.drop_zero, putAll, Act.put, List.setIfInBounds_toArray, List.set_cons_zero, List.set_cons_succ]
              have hb := (show Below _ _ _ from hG)
              obtain ⟨bq, eq, Dq, gq⟩ := r6
              obtain ⟨nq, Aq, kq, cq, eq', sq⟩ := r4
              simp only [eq, eq', r5]
              clear eq eq' hap r5
              refine wpList_of_skip rfl (op_store 13 60 _ rfl rfl Dq) ?_
              have hB := put2_below (u := .bool nq) (v := .slice Aq kq cq) hb gq
              replace sq := sq.put Dq (.bool nq) (.slice Aq kq cq)
              replace Dq := put2_own (u := .bool nq) (v := .slice Aq kq cq) Dq
              clear hb
              generalize put2 x8 bq (.bool nq) (.slice Aq kq cq) = y9 at *
              replace Do := Lib.hid (Box2.below Do.out hB)
              replace So := Lib.hid (So.out.below hB)
              replace Dz := Lib.hid (Box2.below Dz.out hB)
              replace Sz := Lib.hid (Sz.out.below hB)
              replace NO := Lib.hid (NO.out.below hB)
              replace NZ := Lib.hid (NZ.out.below hB)
              replace HB := Lib.hid (HB.out.trans (Below.mono hB HB.out.size))
              replace Dq := Lib.hid Dq
              have Sq := Lib.hid sq
              clear hG hB gq sq
              clear Dq Sq
              go_upto_region 9 with fail
              refine wp_region_calm 5 [4] ([fun vq wq => ∃ u0, vq = .tuple #[u0, .bool false] ∧ ZV wq u0 0,
                  fun vq wq => ∃ u0, vq = .tuple #[u0, .bool false] ∧ ZV wq u0 0,
                  fun vq wq => ZV wq vq 0,
                  fun vq _ => vq = .bool false,
                  fun vq wq => ∃ bq, vq = .pointer (some ⟨bq, 0, none⟩) ∧ Box2 wq bq 24 (.bool false) (.slice none 0 0) ∧ (y9).heap.size ≤ bq]) (by kernel_rfl) (by decide) ?hF ?steps ?fin
              case hF =>
                intro j hj v w h
                simp only [List.mem_cons, List.not_mem_nil, or_false] at hj
                subst hj
                all_goals (obtain ⟨b, rfl, hB, _⟩ := h; exact hB.lt)
              case steps =>
                refine AllOps.cons (Does.plain rfl fun lq aq wq hk hr K hK => ?_) ?_
                · refine wp_of_call (f := 23) (vs := #[.string ⟨#[45]⟩]) (by go_simp) (parse_no_v wq [45] (by decide) (.inl ⟨[], rfl, .inl (by decide)⟩) rfl) ?_
                  rintro e w1 ⟨u, rfl, hu, hb⟩
                  exact ⟨u, rfl, hK.out _ _ hb (fun w2 h2 => (let ⟨u0, e0, h0⟩ := hu; ⟨u0, e0, (h0).grow h2⟩)) (fun h => absurd h (by decide))⟩
                refine AllOps.cons (Does.plain rfl fun lq aq wq hk hr K hK => ?_) ?_
                · obtain ⟨v0, E0, -, r0⟩ := hk.dep hr 0 63 (by kernel_rfl) (by kernel_rfl)
                  have r0 : ∃ u0, v0 = .tuple #[u0, .bool false] ∧ ZV wq u0 0 := r0 wq (Grows.refl wq)
                  exact wp_of_value (by go_simp) (hK.out _ _ (Grows.refl _) (fun w2 h2 => (let ⟨u0, e0, h0⟩ := r0; ⟨u0, e0, (h0).grow h2⟩)) (fun h => absurd h (by decide)))
                refine AllOps.cons (Does.plain rfl fun lq aq wq hk hr K hK => ?_) ?_
                · obtain ⟨v1, E1, -, r1⟩ := hk.dep hr 1 62 (by kernel_rfl) (by kernel_rfl)
                  have r1 : ∃ u0, v1 = .tuple #[u0, .bool false] ∧ ZV wq u0 0 := r1 wq (Grows.refl wq)
                  obtain ⟨u0, rfl, h0⟩ := r1
                  exact wp_of_value (by go_simp) (hK.out _ _ (Grows.refl _) (fun w2 h2 => (h0).grow h2) (fun h => absurd h (by decide)))
                refine AllOps.cons (Does.plain rfl fun lq aq wq hk hr K hK => ?_) ?_
                · obtain ⟨v1, E1, -, r1⟩ := hk.dep hr 1 62 (by kernel_rfl) (by kernel_rfl)
                  have r1 : ∃ u0, v1 = .tuple #[u0, .bool false] ∧ ZV wq u0 0 := r1 wq (Grows.refl wq)
                  obtain ⟨u0, rfl, h0⟩ := r1
                  exact wp_of_value (by go_simp) (hK.out _ _ (Grows.refl _) (fun w2 h2 => rfl) (fun h => absurd h (by decide)))
                refine AllOps.cons (Does.plain rfl fun lq aq wq hk hr K hK => ?_) ?_
                · exact wp_of_value (by go_simp) (hK.out _ _ ((Grows.refl _).alloc _) (fun w2 h2 => ⟨_, rfl, (Box2.new wq 24 _ _).below h2, hk.ext.size⟩) (fun _ => Nat.le_refl _))
                exact AllOps.nil
              case fin =>
                intro V x10 hG hV hap
                have r2 : ZV x10 (V 2) 0 := hV 2 (by decide)
                have r3 : (V 3) = .bool false := hV 3 (by decide)
                have r4 : ∃ bq, (V 4) = .pointer (some ⟨bq, 0, none⟩) ∧ Box2 x10 bq 24 (.bool false) (.slice none 0 0) ∧ (y9).heap.size ≤ bq := hV 4 (by decide)
                clear hV
                simp only [List.take_succ_cons, List.take_zero, List.drop_succ_cons, List.drop_zero, putAll, Act.put, List.setIfInBounds_toArray, List.set_cons_zero, List.set_cons_succ]
                have hb := (show Below _ _ _ from hG)
                obtain ⟨bq, eq, Dq, gq⟩ := r4
                obtain ⟨nq, Aq, kq, cq, eq', sq⟩ := r2
                simp only [eq, eq', r3]
                clear eq eq' hap r3
                refine wpList_of_skip rfl (op_store 15 64 _ rfl rfl Dq) ?_
                have hB := put2_below (u := .bool nq) (v := .slice Aq kq cq) hb gq
                replace sq := sq.put Dq (.bool nq) (.slice Aq kq cq)
                replace Dq := put2_own (u := .bool nq) (v := .slice Aq kq cq) Dq
                clear hb
                generalize put2 x10 bq (.bool nq) (.slice Aq kq cq) = y11 at *
                replace Do := Lib.hid (Box2.below Do.out hB)
                replace So := Lib.hid (So.out.below hB)
                replace Dz := Lib.hid (Box2.below Dz.out hB)
                replace Sz := Lib.hid (Sz.out.below hB)
                replace NO := Lib.hid (NO.out.below hB)
                replace NZ := Lib.hid (NZ.out.below hB)
                replace HB := Lib.hid (HB.out.trans (Below.mono hB HB.out.size))
                replace Dq := Lib.hid Dq
                have Sq := Lib.hid sq
                clear hG hB gq sq
                clear Dq Sq
                go_upto_region 10 with fail
                refine wp_region_calm 5 [4] ([fun vq wq => ∃ u0, vq = .tuple #[u0, .bool false] ∧ ZV wq u0 0,
                    fun vq wq => ∃ u0, vq = .tuple #[u0, .bool false] ∧ ZV wq u0 0,
                    fun vq wq => ZV wq vq 0,
                    fun vq _ => vq = .bool false,
                    fun vq wq => ∃ bq, vq = .pointer (some ⟨bq, 0, none⟩) ∧ Box2 wq bq 24 (.bool false) (.slice none 0 0) ∧ (y11).heap.size ≤ bq]) (by kernel_rfl) (by decide) ?hF ?steps ?fin
                case hF =>
                  intro j hj v w h
                  simp only [List.mem_cons, List.not_mem_nil, or_false] at hj
                  subst hj
                  all_goals (obtain ⟨b, rfl, hB, _⟩ := h; exact hB.lt)
                case steps =>
                  refine AllOps.cons (Does.plain rfl fun lq aq wq hk hr K hK => ?_) ?_
                  · refine wp_of_call (f := 23) (vs := #[.string ⟨#[]⟩]) (by go_simp) (parse_no_v wq [] (by decide) (.inr ⟨by decide, by decide⟩) rfl) ?_
                    rintro e w1 ⟨u, rfl, hu, hb⟩
                    exact ⟨u, rfl, hK.out _ _ hb (fun w2 h2 => (let ⟨u0, e0, h0⟩ := hu; ⟨u0, e0, (h0).grow h2⟩)) (fun h => absurd h (by decide))⟩
                  refine AllOps.cons (Does.plain rfl fun lq aq wq hk hr K hK => ?_) ?_
                  · obtain ⟨v0, E0, -, r0⟩ := hk.dep hr 0 67 (by kernel_rfl) (by kernel_rfl)
                    have r0 : ∃ u0, v0 = .tuple #[u0, .bool false] ∧ ZV wq u0 0 := r0 wq (Grows.refl wq)
                    exact wp_of_value (by go_simp) (hK.out _ _ (Grows.refl _) (fun w2 h2 => (let ⟨u0, e0, h0⟩ := r0; ⟨u0, e0, (h0).grow h2⟩)) (fun h => absurd h (by decide)))
                  refine AllOps.cons (Does.plain rfl fun lq aq wq hk hr K hK => ?_) ?_
                  · obtain ⟨v1, E1, -, r1⟩ := hk.dep hr 1 66 (by kernel_rfl) (by kernel_rfl)
                    have r1 : ∃ u0, v1 = .tuple #[u0, .bool false] ∧ ZV wq u0 0 := r1 wq (Grows.refl wq)
                    obtain ⟨u0, rfl, h0⟩ := r1
                    exact wp_of_value (by go_simp) (hK.out _ _ (Grows.refl _) (fun w2 h2 => (h0).grow h2) (fun h => absurd h (by decide)))
                  refine AllOps.cons (Does.plain rfl fun lq aq wq hk hr K hK => ?_) ?_
                  · obtain ⟨v1, E1, -, r1⟩ := hk.dep hr 1 66 (by kernel_rfl) (by kernel_rfl)
                    have r1 : ∃ u0, v1 = .tuple #[u0, .bool false] ∧ ZV wq u0 0 := r1 wq (Grows.refl wq)
                    obtain ⟨u0, rfl, h0⟩ := r1
                    exact wp_of_value (by go_simp) (hK.out _ _ (Grows.refl _) (fun w2 h2 => rfl) (fun h => absurd h (by decide)))
                  refine AllOps.cons (Does.plain rfl fun lq aq wq hk hr K hK => ?_) ?_
                  · exact wp_of_value (by go_simp) (hK.out _ _ ((Grows.refl _).alloc _) (fun w2 h2 => ⟨_, rfl, (Box2.new wq 24 _ _).below h2, hk.ext.size⟩) (fun _ => Nat.le_refl _))
                  exact AllOps.nil
                case fin =>
                  intro V x12 hG hV hap
                  have r2 : ZV x12 (V 2) 0 := hV 2 (by decide)
                  have r3 : (V 3) = .bool false := hV 3 (by decide)
                  have r4 : ∃ bq, (V 4) = .pointer (some ⟨bq, 0, none⟩) ∧ Box2 x12 bq 24 (.bool false) (.slice none 0 0) ∧ (y11).heap.size ≤ bq := hV 4 (by decide)
                  clear hV
                  simp only [List.take_succ_cons, List.take_zero, List.drop_succ_cons, List.drop_zero, putAll, Act.put, List.setIfInBounds_toArray, List.set_cons_zero, List.set_cons_succ]
                  have hb := (show Below _ _ _ from hG)
                  obtain ⟨bq, eq, Dq, gq⟩ := r4
                  obtain ⟨nq, Aq, kq, cq, eq', sq⟩ := r2
                  simp only [eq, eq', r3]
                  clear eq eq' hap r3
                  refine wpList_of_skip rfl (op_store 17 68 _ rfl rfl Dq) ?_
                  have hB := put2_below (u := .bool nq) (v := .slice Aq kq cq) hb gq
                  replace sq := sq.put Dq (.bool nq) (.slice Aq kq cq)
                  replace Dq := put2_own (u := .bool nq) (v := .slice Aq kq cq) Dq
                  clear hb
                  generalize put2 x12 bq (.bool nq) (.slice Aq kq cq) = y13 at *
                  replace Do := Lib.hid (Box2.below Do.out hB)
                  replace So := Lib.hid (So.out.below hB)
                  replace Dz := Lib.hid (Box2.below Dz.out hB)
                  replace Sz := Lib.hid (Sz.out.below hB)
                  replace NO := Lib.hid (NO.out.below hB)
                  replace NZ := Lib.hid (NZ.out.below hB)
                  replace HB := Lib.hid (HB.out.trans (Below.mono hB HB.out.size))
                  replace Dq := Lib.hid Dq
                  have Sq := Lib.hid sq
                  clear hG hB gq sq
                  clear Dq Sq
                  go_upto_region 11 with fail
                  refine wp_region_calm 5 [4] ([fun vq wq => ∃ u0, vq = .tuple #[u0, .bool false] ∧ ZV wq u0 0,
                      fun vq wq => ∃ u0, vq = .tuple #[u0, .bool false] ∧ ZV wq u0 0,
                      fun vq wq => ZV wq vq 0,
                      fun vq _ => vq = .bool false,
                      fun vq wq => ∃ bq, vq = .pointer (some ⟨bq, 0, none⟩) ∧ Box2 wq bq 24 (.bool false) (.slice none 0 0) ∧ (y13).heap.size ≤ bq]) (by kernel_rfl) (by decide) ?hF ?steps ?fin
                  case hF =>
                    intro j hj v w h
                    simp only [List.mem_cons, List.not_mem_nil, or_false] at hj
                    subst hj
                    all_goals (obtain ⟨b, rfl, hB, _⟩ := h; exact hB.lt)
                  case steps =>
                    refine AllOps.cons (Does.plain rfl fun lq aq wq hk hr K hK => ?_) ?_
                    · refine wp_of_call (f := 23) (vs := #[.string ⟨#[45, 45, 49]⟩]) (by go_simp) (parse_no_v wq [45, 45, 49] (by decide) (.inl ⟨[45, 49], rfl, .inl (by decide)⟩) rfl) ?_
                      rintro e w1 ⟨u, rfl, hu, hb⟩
                      exact ⟨u, rfl, hK.out _ _ hb (fun w2 h2 => (let ⟨u0, e0, h0⟩ := hu; ⟨u0, e0, (h0).grow h2⟩)) (fun h => absurd h (by decide))⟩
                    refine AllOps.cons (Does.plain rfl fun lq aq wq hk hr K hK => ?_) ?_
                    · obtain ⟨v0, E0, -, r0⟩ := hk.dep hr 0 71 (by kernel_rfl) (by kernel_rfl)
                      have r0 : ∃ u0, v0 = .tuple #[u0, .bool false] ∧ ZV wq u0 0 := r0 wq (Grows.refl wq)
                      exact wp_of_value (by go_simp) (hK.out _ _ (Grows.refl _) (fun w2 h2 => (let ⟨u0, e0, h0⟩ := r0; ⟨u0, e0, (h0).grow h2⟩)) (fun h => absurd h (by decide)))
                    refine AllOps.cons (Does.plain rfl fun lq aq wq hk hr K hK => ?_) ?_
                    · obtain ⟨v1, E1, -, r1⟩ := hk.dep hr 1 70 (by kernel_rfl) (by kernel_rfl)
                      have r1 : ∃ u0, v1 = .tuple #[u0, .bool false] ∧ ZV wq u0 0 := r1 wq (Grows.refl wq)
                      obtain ⟨u0, rfl, h0⟩ := r1
                      exact wp_of_value (by go_simp) (hK.out _ _ (Grows.refl _) (fun w2 h2 => (h0).grow h2) (fun h => absurd h (by decide)))
                    refine AllOps.cons (Does.plain rfl fun lq aq wq hk hr K hK => ?_) ?_
                    · obtain ⟨v1, E1, -, r1⟩ := hk.dep hr 1 70 (by kernel_rfl) (by kernel_rfl)
                      have r1 : ∃ u0, v1 = .tuple #[u0, .bool false] ∧ ZV wq u0 0 := r1 wq (Grows.refl wq)
                      obtain ⟨u0, rfl, h0⟩ := r1
                      exact wp_of_value (by go_simp) (hK.out _ _ (Grows.refl _) (fun w2 h2 => rfl) (fun h => absurd h (by decide)))
                    refine AllOps.cons (Does.plain rfl fun lq aq wq hk hr K hK => ?_) ?_
                    · exact wp_of_value (by go_simp) (hK.out _ _ ((Grows.refl _).alloc _) (fun w2 h2 => ⟨_, rfl, (Box2.new wq 24 _ _).below h2, hk.ext.size⟩) (fun _ => Nat.le_refl _))
                    exact AllOps.nil
                  case fin =>
                    intro V x14 hG hV hap
                    have r2 : ZV x14 (V 2) 0 := hV 2 (by decide)
                    have r3 : (V 3) = .bool false := hV 3 (by decide)
                    have r4 : ∃ bq, (V 4) = .pointer (some ⟨bq, 0, none⟩) ∧ Box2 x14 bq 24 (.bool false) (.slice none 0 0) ∧ (y13).heap.size ≤ bq := hV 4 (by decide)
                    clear hV
                    simp only [List.take_succ_cons, List.take_zero, List.drop_succ_cons, List.drop_zero, putAll, Act.put, List.setIfInBounds_toArray, List.set_cons_zero, List.set_cons_succ]
                    have hb := (show Below _ _ _ from hG)
                    obtain ⟨bq, eq, Dq, gq⟩ := r4
                    obtain ⟨nq, Aq, kq, cq, eq', sq⟩ := r2
                    simp only [eq, eq', r3]
                    clear eq eq' hap r3
                    refine wpList_of_skip rfl (op_store 19 72 _ rfl rfl Dq) ?_
                    have hB := put2_below (u := .bool nq) (v := .slice Aq kq cq) hb gq
                    replace sq := sq.put Dq (.bool nq) (.slice Aq kq cq)
                    replace Dq := put2_own (u := .bool nq) (v := .slice Aq kq cq) Dq
                    clear hb
                    generalize put2 x14 bq (.bool nq) (.slice Aq kq cq) = y15 at *
                    replace Do := Lib.hid (Box2.below Do.out hB)
                    replace So := Lib.hid (So.out.below hB)
                    replace Dz := Lib.hid (Box2.below Dz.out hB)
                    replace Sz := Lib.hid (Sz.out.below hB)
                    replace NO := Lib.hid (NO.out.below hB)
                    replace NZ := Lib.hid (NZ.out.below hB)
                    replace HB := Lib.hid (HB.out.trans (Below.mono hB HB.out.size))
                    replace Dq := Lib.hid Dq
                    have Sq := Lib.hid sq
                    clear hG hB gq sq
                    clear Dq Sq
                    go_upto_region 12 with fail
                    refine wp_region_calm 5 [4] ([fun vq wq => ∃ u0, vq = .tuple #[u0, .bool false] ∧ ZV wq u0 0,
                        fun vq wq => ∃ u0, vq = .tuple #[u0, .bool false] ∧ ZV wq u0 0,
                        fun vq wq => ZV wq vq 0,
                        fun vq _ => vq = .bool false,
                        fun vq wq => ∃ bq, vq = .pointer (some ⟨bq, 0, none⟩) ∧ Box2 wq bq 24 (.bool false) (.slice none 0 0) ∧ (y15).heap.size ≤ bq]) (by kernel_rfl) (by decide) ?hF ?steps ?fin
                    case hF =>
                      intro j hj v w h
                      simp only [List.mem_cons, List.not_mem_nil, or_false] at hj
                      subst hj
                      all_goals (obtain ⟨b, rfl, hB, _⟩ := h; exact hB.lt)
                    case steps =>
                      refine AllOps.cons (Does.plain rfl fun lq aq wq hk hr K hK => ?_) ?_
                      · refine wp_of_call (f := 23) (vs := #[.string ⟨#[45, 48, 49]⟩]) (by go_simp) (parse_no_v wq [45, 48, 49] (by decide) (.inl ⟨[48, 49], rfl, .inl (by decide)⟩) rfl) ?_
                        rintro e w1 ⟨u, rfl, hu, hb⟩
                        exact ⟨u, rfl, hK.out _ _ hb (fun w2 h2 => (let ⟨u0, e0, h0⟩ := hu; ⟨u0, e0, (h0).grow h2⟩)) (fun h => absurd h (by decide))⟩
                      refine AllOps.cons (Does.plain rfl fun lq aq wq hk hr K hK => ?_) ?_
                      · obtain ⟨v0, E0, -, r0⟩ := hk.dep hr 0 75 (by kernel_rfl) (by kernel_rfl)
                        have r0 : ∃ u0, v0 = .tuple #[u0, .bool false] ∧ ZV wq u0 0 := r0 wq (Grows.refl wq)
                        exact wp_of_value (by go_simp) (hK.out _ _ (Grows.refl _) (fun w2 h2 => (let ⟨u0, e0, h0⟩ := r0; ⟨u0, e0, (h0).grow h2⟩)) (fun h => absurd h (by decide)))
                      refine AllOps.cons (Does.plain rfl fun lq aq wq hk hr K hK => ?_) ?_
                      · obtain ⟨v1, E1, -, r1⟩ := hk.dep hr 1 74 (by kernel_rfl) (by kernel_rfl)
                        have r1 : ∃ u0, v1 = .tuple #[u0, .bool false] ∧ ZV wq u0 0 := r1 wq (Grows.refl wq)
                        obtain ⟨u0, rfl, h0⟩ := r1
                        exact wp_of_value (by go_simp) (hK.out _ _ (Grows.refl _) (fun w2 h2 => (h0).grow h2) (fun h => absurd h (by decide)))
                      refine AllOps.cons (Does.plain rfl fun lq aq wq hk hr K hK => ?_) ?_
                      · obtain ⟨v1, E1, -, r1⟩ := hk.dep hr 1 74 (by kernel_rfl) (by kernel_rfl)
                        have r1 : ∃ u0, v1 = .tuple #[u0, .bool false] ∧ ZV wq u0 0 := r1 wq (Grows.refl wq)
                        obtain ⟨u0, rfl, h0⟩ := r1
                        exact wp_of_value (by go_simp) (hK.out _ _ (Grows.refl _) (fun w2 h2 => rfl) (fun h => absurd h (by decide)))
                      refine AllOps.cons (Does.plain rfl fun lq aq wq hk hr K hK => ?_) ?_
                      · exact wp_of_value (by go_simp) (hK.out _ _ ((Grows.refl _).alloc _) (fun w2 h2 => ⟨_, rfl, (Box2.new wq 24 _ _).below h2, hk.ext.size⟩) (fun _ => Nat.le_refl _))
                      exact AllOps.nil
                    case fin =>
                      intro V x16 hG hV hap
                      have r2 : ZV x16 (V 2) 0 := hV 2 (by decide)
                      have r3 : (V 3) = .bool false := hV 3 (by decide)
                      have r4 : ∃ bq, (V 4) = .pointer (some ⟨bq, 0, none⟩) ∧ Box2 x16 bq 24 (.bool false) (.slice none 0 0) ∧ (y15).heap.size ≤ bq := hV 4 (by decide)
                      clear hV
                      simp only [List.take_succ_cons, List.take_zero, List.drop_succ_cons, List.drop_zero, putAll, Act.put, List.setIfInBounds_toArray, List.set_cons_zero, List.set_cons_succ]
                      have hb := (show Below _ _ _ from hG)
                      obtain ⟨bq, eq, Dq, gq⟩ := r4
                      obtain ⟨nq, Aq, kq, cq, eq', sq⟩ := r2
                      simp only [eq, eq', r3]
                      clear eq eq' hap r3
                      refine wpList_of_skip rfl (op_store 21 76 _ rfl rfl Dq) ?_
                      have hB := put2_below (u := .bool nq) (v := .slice Aq kq cq) hb gq
                      replace sq := sq.put Dq (.bool nq) (.slice Aq kq cq)
                      replace Dq := put2_own (u := .bool nq) (v := .slice Aq kq cq) Dq
                      clear hb
                      generalize put2 x16 bq (.bool nq) (.slice Aq kq cq) = y17 at *
                      replace Do := Lib.hid (Box2.below Do.out hB)
                      replace So := Lib.hid (So.out.below hB)
                      replace Dz := Lib.hid (Box2.below Dz.out hB)
                      replace Sz := Lib.hid (Sz.out.below hB)
                      replace NO := Lib.hid (NO.out.below hB)
                      replace NZ := Lib.hid (NZ.out.below hB)
                      replace HB := Lib.hid (HB.out.trans (Below.mono hB HB.out.size))
                      replace Dq := Lib.hid Dq
                      have Sq := Lib.hid sq
                      clear hG hB gq sq
                      clear Dq Sq
                      go_upto_region 13 with fail
                      refine wp_region_going 122 [] ([fun vq _ => vq = .bool true,
                          fun vq _ => vq = .bool true,
                          fun vq _ => vq = .bool true,
                          fun vq _ => vq = .bool true,
                          fun vq _ => vq = .agg #[.bool true, .slice (some ⟨w.heap.size, 0, none⟩) 3 3],
                          fun vq _ => vq = .bool false,
                          fun vq _ => vq = .bool true,
                          fun vq _ => vq = .bool true,
                          fun vq _ => vq = .bool true,
                          fun vq _ => vq = .agg #[.bool true, .slice (some ⟨w.heap.size + 1 + 1, 0, none⟩) 1 1],
                          fun vq _ => vq = .bool false,
                          fun vq _ => vq = .bool true,
                          fun vq _ => vq = .bool true,
                          fun vq _ => vq = .bool true,
                          fun vq wq => ZV wq vq 0,
                          fun vq _ => vq = .bool true,
                          fun vq _ => vq = .bool true,
                          fun vq _ => vq = .bool true,
                          fun vq wq => WV wq vq 0,
                          fun vq _ => vq = .int .i64 0,
                          fun vq _ => vq = .bool true,
                          fun vq _ => vq = .bool true,
                          fun vq _ => vq = .bool true,
                          fun vq wq => WV wq vq ((-7)),
                          fun vq _ => vq = .int .i64 ((-1)),
                          fun vq _ => vq = .bool true,
                          fun vq _ => vq = .bool true,
                          fun vq _ => vq = .bool true,
                          fun vq wq => WV wq vq ((-7)),
                          fun vq wq => WV wq vq 0,
                          fun vq wq => RowV wq vq [(-7), 0],
                          fun vq wq => ZV wq vq (((-7) + 0)),
                          fun vq _ => vq = .bool true,
                          fun vq _ => vq = .bool true,
                          fun vq _ => vq = .bool true,
                          fun vq wq => WV wq vq 0,
                          fun vq wq => ZV wq vq ((-0)),
                          fun vq wq => ZV wq vq 0,
                          fun vq _ => vq = .bool true,
                          fun vq _ => vq = .bool true,
                          fun vq _ => vq = .bool true,
                          fun vq wq => WV wq vq ((-7)),
                          fun vq wq => ZV wq vq ((-7)),
                          fun vq _ => vq = .int .i64 0,
                          fun vq _ => vq = .bool true,
                          fun vq _ => vq = .bool true,
                          fun vq _ => vq = .bool true,
                          fun vq _ => vq = .bool true,
                          fun vq _ => vq = .bool true,
                          fun vq _ => vq = .bool true,
                          fun vq _ => vq = .int .i64 (-9223372036854775808),
                          fun vq _ => vq = .bool true,
                          fun vq _ => vq = .bool true,
                          fun vq _ => vq = .bool true,
                          fun vq _ => vq = .bool false,
                          fun vq _ => vq = .bool true,
                          fun vq _ => vq = .bool true,
                          fun vq _ => vq = .bool true,
                          fun vq _ => vq = .bool false,
                          fun vq _ => vq = .bool true,
                          fun vq _ => vq = .bool true,
                          fun vq _ => vq = .bool true,
                          fun vq _ => vq = .bool true,
                          fun vq _ => vq = .bool true,
                          fun vq _ => vq = .bool true,
                          fun vq _ => vq = .int .i64 9223372036854775807,
                          fun vq _ => vq = .bool true,
                          fun vq _ => vq = .bool true,
                          fun vq _ => vq = .bool true,
                          fun vq _ => vq = .int .i64 3,
                          fun vq _ => vq = .bool true,
                          fun vq _ => vq = .bool true,
                          fun vq _ => vq = .bool true,
                          fun vq _ => vq = .int .i64 3,
                          fun vq _ => vq = .bool true,
                          fun vq _ => vq = .bool true,
                          fun vq _ => vq = .bool true,
                          fun vq _ => vq = .bool false,
                          fun vq _ => vq = .bool true,
                          fun vq _ => vq = .bool true,
                          fun vq _ => vq = .bool true,
                          fun vq _ => vq = .bool false,
                          fun vq _ => vq = .bool true,
                          fun vq _ => vq = .bool true,
                          fun vq _ => vq = .bool true,
                          fun vq _ => vq = .bool false,
                          fun vq _ => vq = .bool true,
                          fun vq _ => vq = .bool true,
                          fun vq _ => vq = .bool true,
                          fun vq _ => vq = .bool false,
                          fun vq _ => vq = .bool true,
                          fun vq _ => vq = .bool true,
                          fun vq _ => vq = .bool true,
                          fun vq wq => ZV wq vq 0,
                          fun vq wq => ZV wq vq 0,
                          fun vq _ => vq = .bool true,
                          fun vq _ => vq = .bool true,
                          fun vq _ => vq = .bool true,
                          fun vq wq => WV wq vq ((-7)),
                          fun vq wq => WV wq vq ((-7)),
                          fun vq wq => WV wq vq ((-7)),
                          fun vq wq => RowV wq vq [(-7), (-7), (-7)],
                          fun vq wq => ZV wq vq (((-7) * (-7) * (-7))),
                          fun vq _ => vq = .bool true,
                          fun vq _ => vq = .bool true,
                          fun vq _ => vq = .bool true,
                          fun vq _ => vq = .bool true,
                          fun vq _ => vq = .bool true,
                          fun vq _ => vq = .bool true,
                          fun vq _ => vq = .bool true,
                          fun vq _ => vq = .bool true,
                          fun vq _ => vq = .bool true,
                          fun vq _ => vq = .bool true,
                          fun vq _ => vq = .bool true,
                          fun vq _ => vq = .bool true,
                          fun vq _ => vq = .bool true,
                          fun vq _ => vq = .bool true,
                          fun vq _ => vq = .bool true,
                          fun vq wq => ZV wq vq ((-9223372036854775808)),
                          fun vq wq => ZV wq vq ((-(-9223372036854775808))),
                          fun vq _ => vq = .bool true,
                          fun vq _ => vq = .bool true]) (by kernel_rfl) (by kernel_rfl) (by decide) (by kernel_rfl) (by kernel_rfl) ?hF ?steps ?fin
                      case hF =>
                        intro j hj; cases hj
                      case steps =>
                        refine AllOps.cons (Does.plain rfl fun lq aq wq hk hr K hK => ?_) ?_
                        · exact wp_of_value (by go_simp) (hK.out _ _ (Grows.refl _) (fun w2 h2 => rfl) (fun h => absurd h (by decide)))
                        refine AllOps.cons (Does.lets (g := 0) (d := 78) (t := true) rfl (by kernel_rfl) (by kernel_rfl) (fun vq wq h => h wq (Grows.refl wq)) fun lq aq wq hk hr K hK => ?_) ?_
                        · refine wp_of_call (f := 21) (vs := #[]) (by go_simp) (works_v wq) ?_
                          rintro e w1 ⟨u, rfl, hu, hb⟩
                          exact ⟨u, rfl, hK.out _ _ hb (fun w2 h2 => hu) (fun h => absurd h (by decide))⟩
                        refine AllOps.cons (Does.plain rfl fun lq aq wq hk hr K hK => ?_) ?_
                        · obtain ⟨v0, E0, -, r0⟩ := hk.dep hr 0 78 (by kernel_rfl) (by kernel_rfl)
                          replace E0 : ev aq (.tmp 78) = .bool true := E0.trans (r0 wq (Grows.refl wq))
                          obtain ⟨v1, E1, -, r1⟩ := hk.dep hr 1 79 (by kernel_rfl) (by kernel_rfl)
                          replace E1 : ev aq (.tmp 79) = .bool true := E1.trans (r1 wq (Grows.refl wq))
                          exact wp_of_value (by go_simp) (hK.out _ _ (Grows.refl _) (fun w2 h2 => rfl) (fun h => absurd h (by decide)))
                        refine AllOps.cons (Does.plain rfl fun lq aq wq hk hr K hK => ?_) ?_
                        · obtain ⟨v2, E2, -, r2⟩ := hk.dep hr 2 80 (by kernel_rfl) (by kernel_rfl)
                          replace E2 : ev aq (.tmp 80) = .bool true := E2.trans (r2 wq (Grows.refl wq))
                          exact wp_of_value (by go_simp) (hK.out _ _ (Grows.refl _) (fun w2 h2 => rfl) (fun h => absurd h (by decide)))
                        refine AllOps.cons (Does.lets (g := 3) (d := 81) (t := true) rfl (by kernel_rfl) (by kernel_rfl) (fun vq wq h => h wq (Grows.refl wq)) fun lq aq wq hk hr K hK => ?_) ?_
                        · have B1 : ev aq (.tmp 1) = .pointer (some ⟨w.heap.size + 1, 0, none⟩) := hk.base 1 (by kernel_rfl) rfl
                          have hb := grows_of hk.ext
                          exact wp_of_value (op_load 1 _ B1 (Box2.below Do.out hb)) (hK.out _ _ (Grows.refl _) (fun w2 h2 => rfl) (fun h => absurd h (by decide)))
                        refine AllOps.cons (Does.lets (g := 3) (d := 81) (t := true) rfl (by kernel_rfl) (by kernel_rfl) (fun vq wq h => h wq (Grows.refl wq)) fun lq aq wq hk hr K hK => ?_) ?_
                        · obtain ⟨v4, E4, -, r4⟩ := hk.dep hr 4 82 (by kernel_rfl) (by kernel_rfl)
                          replace E4 : ev aq (.tmp 82) = .agg #[.bool true, .slice (some ⟨w.heap.size, 0, none⟩) 3 3] := E4.trans (r4 wq (Grows.refl wq))
                          refine wp_of_call (f := 33) (vs := #[.agg #[.bool true, .slice (some ⟨w.heap.size, 0, none⟩) 3 3]]) (by go_simp) (rightL_v wq (NO.out.below (grows_of hk.ext)) (by decide) (t := false) (by rw [limbs7]; decide)) ?_
                          rintro e w1 ⟨u, rfl, hu, hb⟩
                          exact ⟨u, rfl, hK.out _ _ hb (fun w2 h2 => hu) (fun h => absurd h (by decide))⟩
                        refine AllOps.cons (Does.lets (g := 3) (d := 81) (t := true) rfl (by kernel_rfl) (by kernel_rfl) (fun vq wq h => h wq (Grows.refl wq)) fun lq aq wq hk hr K hK => ?_) ?_
                        · obtain ⟨v5, E5, -, r5⟩ := hk.dep hr 5 83 (by kernel_rfl) (by kernel_rfl)
                          replace E5 : ev aq (.tmp 83) = .bool false := E5.trans (r5 wq (Grows.refl wq))
                          exact wp_of_value (by go_simp) (hK.out _ _ (Grows.refl _) (fun w2 h2 => rfl) (fun h => absurd h (by decide)))
                        refine AllOps.cons (Does.plain rfl fun lq aq wq hk hr K hK => ?_) ?_
                        · obtain ⟨v3, E3, -, r3⟩ := hk.dep hr 3 81 (by kernel_rfl) (by kernel_rfl)
                          replace E3 : ev aq (.tmp 81) = .bool true := E3.trans (r3 wq (Grows.refl wq))
                          obtain ⟨v6, E6, -, r6⟩ := hk.dep hr 6 84 (by kernel_rfl) (by kernel_rfl)
                          replace E6 : ev aq (.tmp 84) = .bool true := E6.trans (r6 wq (Grows.refl wq))
                          exact wp_of_value (by go_simp) (hK.out _ _ (Grows.refl _) (fun w2 h2 => rfl) (fun h => absurd h (by decide)))
                        refine AllOps.cons (Does.plain rfl fun lq aq wq hk hr K hK => ?_) ?_
                        · obtain ⟨v7, E7, -, r7⟩ := hk.dep hr 7 85 (by kernel_rfl) (by kernel_rfl)
                          replace E7 : ev aq (.tmp 85) = .bool true := E7.trans (r7 wq (Grows.refl wq))
                          exact wp_of_value (by go_simp) (hK.out _ _ (Grows.refl _) (fun w2 h2 => rfl) (fun h => absurd h (by decide)))
                        refine AllOps.cons (Does.lets (g := 8) (d := 86) (t := true) rfl (by kernel_rfl) (by kernel_rfl) (fun vq wq h => h wq (Grows.refl wq)) fun lq aq wq hk hr K hK => ?_) ?_
                        · have B2 : ev aq (.tmp 2) = .pointer (some ⟨w.heap.size + 1 + 1 + 1, 0, none⟩) := hk.base 2 (by kernel_rfl) rfl
                          have hb := grows_of hk.ext
                          exact wp_of_value (op_load 2 _ B2 (Box2.below Dz.out hb)) (hK.out _ _ (Grows.refl _) (fun w2 h2 => rfl) (fun h => absurd h (by decide)))
                        refine AllOps.cons (Does.lets (g := 8) (d := 86) (t := true) rfl (by kernel_rfl) (by kernel_rfl) (fun vq wq h => h wq (Grows.refl wq)) fun lq aq wq hk hr K hK => ?_) ?_
                        · obtain ⟨v9, E9, -, r9⟩ := hk.dep hr 9 87 (by kernel_rfl) (by kernel_rfl)
                          replace E9 : ev aq (.tmp 87) = .agg #[.bool true, .slice (some ⟨w.heap.size + 1 + 1, 0, none⟩) 1 1] := E9.trans (r9 wq (Grows.refl wq))
                          refine wp_of_call (f := 33) (vs := #[.agg #[.bool true, .slice (some ⟨w.heap.size + 1 + 1, 0, none⟩) 1 1]]) (by go_simp) (rightL_v wq (NZ.out.below (grows_of hk.ext)) (by decide) (t := false) (by rw [limbs0]; decide)) ?_
                          rintro e w1 ⟨u, rfl, hu, hb⟩
                          exact ⟨u, rfl, hK.out _ _ hb (fun w2 h2 => hu) (fun h => absurd h (by decide))⟩
                        refine AllOps.cons (Does.lets (g := 8) (d := 86) (t := true) rfl (by kernel_rfl) (by kernel_rfl) (fun vq wq h => h wq (Grows.refl wq)) fun lq aq wq hk hr K hK => ?_) ?_
                        · obtain ⟨v10, E10, -, r10⟩ := hk.dep hr 10 88 (by kernel_rfl) (by kernel_rfl)
                          replace E10 : ev aq (.tmp 88) = .bool false := E10.trans (r10 wq (Grows.refl wq))
                          exact wp_of_value (by go_simp) (hK.out _ _ (Grows.refl _) (fun w2 h2 => rfl) (fun h => absurd h (by decide)))
                        refine AllOps.cons (Does.plain rfl fun lq aq wq hk hr K hK => ?_) ?_
                        · obtain ⟨v8, E8, -, r8⟩ := hk.dep hr 8 86 (by kernel_rfl) (by kernel_rfl)
                          replace E8 : ev aq (.tmp 86) = .bool true := E8.trans (r8 wq (Grows.refl wq))
                          obtain ⟨v11, E11, -, r11⟩ := hk.dep hr 11 89 (by kernel_rfl) (by kernel_rfl)
                          replace E11 : ev aq (.tmp 89) = .bool true := E11.trans (r11 wq (Grows.refl wq))
                          exact wp_of_value (by go_simp) (hK.out _ _ (Grows.refl _) (fun w2 h2 => rfl) (fun h => absurd h (by decide)))
                        refine AllOps.cons (Does.plain rfl fun lq aq wq hk hr K hK => ?_) ?_
                        · obtain ⟨v12, E12, -, r12⟩ := hk.dep hr 12 90 (by kernel_rfl) (by kernel_rfl)
                          replace E12 : ev aq (.tmp 90) = .bool true := E12.trans (r12 wq (Grows.refl wq))
                          exact wp_of_value (by go_simp) (hK.out _ _ (Grows.refl _) (fun w2 h2 => rfl) (fun h => absurd h (by decide)))
                        refine AllOps.cons (Does.lets (g := 13) (d := 91) (t := true) rfl (by kernel_rfl) (by kernel_rfl) (fun vq wq h => h wq (Grows.refl wq)) fun lq aq wq hk hr K hK => ?_) ?_
                        · exact wp_of_value (by go_simp) (hK.out _ _ (Grows.refl _) (fun w2 h2 => (ZV.zero _ 0).grow h2) (fun h => absurd h (by decide)))
                        refine AllOps.cons (Does.lets (g := 13) (d := 91) (t := true) rfl (by kernel_rfl) (by kernel_rfl) (fun vq wq h => h wq (Grows.refl wq)) fun lq aq wq hk hr K hK => ?_) ?_
                        · obtain ⟨v14, E14, -, r14⟩ := hk.dep hr 14 92 (by kernel_rfl) (by kernel_rfl)
                          have r14 : ZV wq v14 0 := r14 wq (Grows.refl wq)
                          refine wp_of_call (f := 33) (vs := #[v14]) (by go_simp) (right_v wq r14) ?_
                          rintro e w1 ⟨u, rfl, hu, hb⟩
                          exact ⟨u, rfl, hK.out _ _ hb (fun w2 h2 => hu) (fun h => absurd h (by decide))⟩
                        refine AllOps.cons (Does.plain rfl fun lq aq wq hk hr K hK => ?_) ?_
                        · obtain ⟨v13, E13, -, r13⟩ := hk.dep hr 13 91 (by kernel_rfl) (by kernel_rfl)
                          replace E13 : ev aq (.tmp 91) = .bool true := E13.trans (r13 wq (Grows.refl wq))
                          obtain ⟨v15, E15, -, r15⟩ := hk.dep hr 15 93 (by kernel_rfl) (by kernel_rfl)
                          replace E15 : ev aq (.tmp 93) = .bool true := E15.trans (r15 wq (Grows.refl wq))
                          exact wp_of_value (by go_simp) (hK.out _ _ (Grows.refl _) (fun w2 h2 => rfl) (fun h => absurd h (by decide)))
                        refine AllOps.cons (Does.plain rfl fun lq aq wq hk hr K hK => ?_) ?_
                        · obtain ⟨v16, E16, -, r16⟩ := hk.dep hr 16 94 (by kernel_rfl) (by kernel_rfl)
                          replace E16 : ev aq (.tmp 94) = .bool true := E16.trans (r16 wq (Grows.refl wq))
                          exact wp_of_value (by go_simp) (hK.out _ _ (Grows.refl _) (fun w2 h2 => rfl) (fun h => absurd h (by decide)))
                        refine AllOps.cons (Does.lets (g := 17) (d := 95) (t := true) rfl (by kernel_rfl) (by kernel_rfl) (fun vq wq h => h wq (Grows.refl wq)) fun lq aq wq hk hr K hK => ?_) ?_
                        · have B2 : ev aq (.tmp 2) = .pointer (some ⟨w.heap.size + 1 + 1 + 1, 0, none⟩) := hk.base 2 (by kernel_rfl) rfl
                          have hb := grows_of hk.ext
                          exact wp_of_value (op_load 2 _ B2 (Box2.below Dz.out hb)) (hK.out _ _ (Grows.refl _) (fun w2 h2 => ⟨_, _, _, _, rfl, (Sz.out.below hb).below h2⟩) (fun h => absurd h (by decide)))
                        refine AllOps.cons (Does.lets (g := 17) (d := 95) (t := true) rfl (by kernel_rfl) (by kernel_rfl) (fun vq wq h => h wq (Grows.refl wq)) fun lq aq wq hk hr K hK => ?_) ?_
                        · obtain ⟨v18, E18, -, r18⟩ := hk.dep hr 18 96 (by kernel_rfl) (by kernel_rfl)
                          have r18 : WV wq v18 0 := r18 wq (Grows.refl wq)
                          refine wp_of_call (f := 36) (vs := #[v18]) (by go_simp) (sign_v wq r18 (k := 0) rfl) ?_
                          rintro e w1 ⟨u, rfl, hu, hb⟩
                          exact ⟨u, rfl, hK.out _ _ hb (fun w2 h2 => hu) (fun h => absurd h (by decide))⟩
                        refine AllOps.cons (Does.lets (g := 17) (d := 95) (t := true) rfl (by kernel_rfl) (by kernel_rfl) (fun vq wq h => h wq (Grows.refl wq)) fun lq aq wq hk hr K hK => ?_) ?_
                        · obtain ⟨v19, E19, -, r19⟩ := hk.dep hr 19 97 (by kernel_rfl) (by kernel_rfl)
                          replace E19 : ev aq (.tmp 97) = .int .i64 0 := E19.trans (r19 wq (Grows.refl wq))
                          exact wp_of_value (by go_simp) (hK.out _ _ (Grows.refl _) (fun w2 h2 => rfl) (fun h => absurd h (by decide)))
                        refine AllOps.cons (Does.plain rfl fun lq aq wq hk hr K hK => ?_) ?_
                        · obtain ⟨v17, E17, -, r17⟩ := hk.dep hr 17 95 (by kernel_rfl) (by kernel_rfl)
                          replace E17 : ev aq (.tmp 95) = .bool true := E17.trans (r17 wq (Grows.refl wq))
                          obtain ⟨v20, E20, -, r20⟩ := hk.dep hr 20 98 (by kernel_rfl) (by kernel_rfl)
                          replace E20 : ev aq (.tmp 98) = .bool true := E20.trans (r20 wq (Grows.refl wq))
                          exact wp_of_value (by go_simp) (hK.out _ _ (Grows.refl _) (fun w2 h2 => rfl) (fun h => absurd h (by decide)))
                        refine AllOps.cons (Does.plain rfl fun lq aq wq hk hr K hK => ?_) ?_
                        · obtain ⟨v21, E21, -, r21⟩ := hk.dep hr 21 99 (by kernel_rfl) (by kernel_rfl)
                          replace E21 : ev aq (.tmp 99) = .bool true := E21.trans (r21 wq (Grows.refl wq))
                          exact wp_of_value (by go_simp) (hK.out _ _ (Grows.refl _) (fun w2 h2 => rfl) (fun h => absurd h (by decide)))
                        refine AllOps.cons (Does.lets (g := 22) (d := 100) (t := true) rfl (by kernel_rfl) (by kernel_rfl) (fun vq wq h => h wq (Grows.refl wq)) fun lq aq wq hk hr K hK => ?_) ?_
                        · have B1 : ev aq (.tmp 1) = .pointer (some ⟨w.heap.size + 1, 0, none⟩) := hk.base 1 (by kernel_rfl) rfl
                          have hb := grows_of hk.ext
                          exact wp_of_value (op_load 1 _ B1 (Box2.below Do.out hb)) (hK.out _ _ (Grows.refl _) (fun w2 h2 => ⟨_, _, _, _, rfl, (So.out.below hb).below h2⟩) (fun h => absurd h (by decide)))
                        refine AllOps.cons (Does.lets (g := 22) (d := 100) (t := true) rfl (by kernel_rfl) (by kernel_rfl) (fun vq wq h => h wq (Grows.refl wq)) fun lq aq wq hk hr K hK => ?_) ?_
                        · obtain ⟨v23, E23, -, r23⟩ := hk.dep hr 23 101 (by kernel_rfl) (by kernel_rfl)
                          have r23 : WV wq v23 ((-7)) := r23 wq (Grows.refl wq)
                          refine wp_of_call (f := 36) (vs := #[v23]) (by go_simp) (sign_v wq r23 (k := (-1)) rfl) ?_
                          rintro e w1 ⟨u, rfl, hu, hb⟩
                          exact ⟨u, rfl, hK.out _ _ hb (fun w2 h2 => hu) (fun h => absurd h (by decide))⟩
                        refine AllOps.cons (Does.lets (g := 22) (d := 100) (t := true) rfl (by kernel_rfl) (by kernel_rfl) (fun vq wq h => h wq (Grows.refl wq)) fun lq aq wq hk hr K hK => ?_) ?_
                        · obtain ⟨v24, E24, -, r24⟩ := hk.dep hr 24 102 (by kernel_rfl) (by kernel_rfl)
                          replace E24 : ev aq (.tmp 102) = .int .i64 ((-1)) := E24.trans (r24 wq (Grows.refl wq))
                          exact wp_of_value (by go_simp) (hK.out _ _ (Grows.refl _) (fun w2 h2 => rfl) (fun h => absurd h (by decide)))
                        refine AllOps.cons (Does.plain rfl fun lq aq wq hk hr K hK => ?_) ?_
                        · obtain ⟨v22, E22, -, r22⟩ := hk.dep hr 22 100 (by kernel_rfl) (by kernel_rfl)
                          replace E22 : ev aq (.tmp 100) = .bool true := E22.trans (r22 wq (Grows.refl wq))
                          obtain ⟨v25, E25, -, r25⟩ := hk.dep hr 25 103 (by kernel_rfl) (by kernel_rfl)
                          replace E25 : ev aq (.tmp 103) = .bool true := E25.trans (r25 wq (Grows.refl wq))
                          exact wp_of_value (by go_simp) (hK.out _ _ (Grows.refl _) (fun w2 h2 => rfl) (fun h => absurd h (by decide)))
                        refine AllOps.cons (Does.plain rfl fun lq aq wq hk hr K hK => ?_) ?_
                        · obtain ⟨v26, E26, -, r26⟩ := hk.dep hr 26 104 (by kernel_rfl) (by kernel_rfl)
                          replace E26 : ev aq (.tmp 104) = .bool true := E26.trans (r26 wq (Grows.refl wq))
                          exact wp_of_value (by go_simp) (hK.out _ _ (Grows.refl _) (fun w2 h2 => rfl) (fun h => absurd h (by decide)))
                        refine AllOps.cons (Does.lets (g := 27) (d := 105) (t := true) rfl (by kernel_rfl) (by kernel_rfl) (fun vq wq h => h wq (Grows.refl wq)) fun lq aq wq hk hr K hK => ?_) ?_
                        · have B1 : ev aq (.tmp 1) = .pointer (some ⟨w.heap.size + 1, 0, none⟩) := hk.base 1 (by kernel_rfl) rfl
                          have hb := grows_of hk.ext
                          exact wp_of_value (op_load 1 _ B1 (Box2.below Do.out hb)) (hK.out _ _ (Grows.refl _) (fun w2 h2 => ⟨_, _, _, _, rfl, (So.out.below hb).below h2⟩) (fun h => absurd h (by decide)))
                        refine AllOps.cons (Does.lets (g := 27) (d := 105) (t := true) rfl (by kernel_rfl) (by kernel_rfl) (fun vq wq h => h wq (Grows.refl wq)) fun lq aq wq hk hr K hK => ?_) ?_
                        · have B2 : ev aq (.tmp 2) = .pointer (some ⟨w.heap.size + 1 + 1 + 1, 0, none⟩) := hk.base 2 (by kernel_rfl) rfl
                          have hb := grows_of hk.ext
                          exact wp_of_value (op_load 2 _ B2 (Box2.below Dz.out hb)) (hK.out _ _ (Grows.refl _) (fun w2 h2 => ⟨_, _, _, _, rfl, (Sz.out.below hb).below h2⟩) (fun h => absurd h (by decide)))
                        refine AllOps.cons (Does.lets (g := 27) (d := 105) (t := true) rfl (by kernel_rfl) (by kernel_rfl) (fun vq wq h => h wq (Grows.refl wq)) fun lq aq wq hk hr K hK => ?_) ?_
                        · obtain ⟨v28, E28, -, r28⟩ := hk.dep hr 28 106 (by kernel_rfl) (by kernel_rfl)
                          have r28 : WV wq v28 ((-7)) := r28 wq (Grows.refl wq)
                          obtain ⟨n28, A28, k28, c28, rfl, s28⟩ := r28
                          obtain ⟨v29, E29, -, r29⟩ := hk.dep hr 29 107 (by kernel_rfl) (by kernel_rfl)
                          have r29 : WV wq v29 0 := r29 wq (Grows.refl wq)
                          obtain ⟨n29, A29, k29, c29, rfl, s29⟩ := r29
                          exact wp_of_value (op_row2 106 107 E28 E29) (hK.out _ _ ((Grows.refl _).alloc _) (fun w2 h2 => (RowV.two s28 s29).grow h2) (fun h => absurd h (by decide)))
                        refine AllOps.cons (Does.lets (g := 27) (d := 105) (t := true) rfl (by kernel_rfl) (by kernel_rfl) (fun vq wq h => h wq (Grows.refl wq)) fun lq aq wq hk hr K hK => ?_) ?_
                        · obtain ⟨v30, E30, -, r30⟩ := hk.dep hr 30 108 (by kernel_rfl) (by kernel_rfl)
                          have r30 : RowV wq v30 [(-7), 0] := r30 wq (Grows.refl wq)
                          refine wp_of_call (f := 27) (vs := #[v30]) (by go_simp) (add2_v wq r30 (Nat.le_trans sz7 (by decide)) (Nat.le_trans (szz_add sz7 szz_zero) (by decide))) ?_
                          rintro e w1 ⟨u, rfl, hu, hb⟩
                          exact ⟨u, rfl, hK.out _ _ hb (fun w2 h2 => (hu).grow h2) (fun h => absurd h (by decide))⟩
                        refine AllOps.cons (Does.lets (g := 27) (d := 105) (t := true) rfl (by kernel_rfl) (by kernel_rfl) (fun vq wq h => h wq (Grows.refl wq)) fun lq aq wq hk hr K hK => ?_) ?_
                        · obtain ⟨v31, E31, -, r31⟩ := hk.dep hr 31 109 (by kernel_rfl) (by kernel_rfl)
                          have r31 : ZV wq v31 (((-7) + 0)) := r31 wq (Grows.refl wq)
                          refine wp_of_call (f := 47) (vs := #[v31, .string ⟨#[45, 55]⟩]) (by go_simp) (is_v wq r31 ⟨#[45, 55]⟩ (congrArg (fun l : List UInt8 => ByteArray.mk l.toArray) kt_7)) ?_
                          rintro e w1 ⟨u, rfl, hu, hb⟩
                          exact ⟨u, rfl, hK.out _ _ hb (fun w2 h2 => hu) (fun h => absurd h (by decide))⟩
                        refine AllOps.cons (Does.plain rfl fun lq aq wq hk hr K hK => ?_) ?_
                        · obtain ⟨v27, E27, -, r27⟩ := hk.dep hr 27 105 (by kernel_rfl) (by kernel_rfl)
                          replace E27 : ev aq (.tmp 105) = .bool true := E27.trans (r27 wq (Grows.refl wq))
                          obtain ⟨v32, E32, -, r32⟩ := hk.dep hr 32 110 (by kernel_rfl) (by kernel_rfl)
                          replace E32 : ev aq (.tmp 110) = .bool true := E32.trans (r32 wq (Grows.refl wq))
                          exact wp_of_value (by go_simp) (hK.out _ _ (Grows.refl _) (fun w2 h2 => rfl) (fun h => absurd h (by decide)))
                        refine AllOps.cons (Does.plain rfl fun lq aq wq hk hr K hK => ?_) ?_
                        · obtain ⟨v33, E33, -, r33⟩ := hk.dep hr 33 111 (by kernel_rfl) (by kernel_rfl)
                          replace E33 : ev aq (.tmp 111) = .bool true := E33.trans (r33 wq (Grows.refl wq))
                          exact wp_of_value (by go_simp) (hK.out _ _ (Grows.refl _) (fun w2 h2 => rfl) (fun h => absurd h (by decide)))
                        refine AllOps.cons (Does.lets (g := 34) (d := 112) (t := true) rfl (by kernel_rfl) (by kernel_rfl) (fun vq wq h => h wq (Grows.refl wq)) fun lq aq wq hk hr K hK => ?_) ?_
                        · have B2 : ev aq (.tmp 2) = .pointer (some ⟨w.heap.size + 1 + 1 + 1, 0, none⟩) := hk.base 2 (by kernel_rfl) rfl
                          have hb := grows_of hk.ext
                          exact wp_of_value (op_load 2 _ B2 (Box2.below Dz.out hb)) (hK.out _ _ (Grows.refl _) (fun w2 h2 => ⟨_, _, _, _, rfl, (Sz.out.below hb).below h2⟩) (fun h => absurd h (by decide)))
                        refine AllOps.cons (Does.lets (g := 34) (d := 112) (t := true) rfl (by kernel_rfl) (by kernel_rfl) (fun vq wq h => h wq (Grows.refl wq)) fun lq aq wq hk hr K hK => ?_) ?_
                        · obtain ⟨v35, E35, -, r35⟩ := hk.dep hr 35 113 (by kernel_rfl) (by kernel_rfl)
                          have r35 : WV wq v35 0 := r35 wq (Grows.refl wq)
                          refine wp_of_call (f := 30) (vs := #[v35]) (by go_simp) (neg_v wq r35 (Nat.le_trans (szz_neg szz_zero) (by decide))) ?_
                          rintro e w1 ⟨u, rfl, hu, hb⟩
                          exact ⟨u, rfl, hK.out _ _ hb (fun w2 h2 => (hu).grow h2) (fun h => absurd h (by decide))⟩
                        refine AllOps.cons (Does.lets (g := 34) (d := 112) (t := true) rfl (by kernel_rfl) (by kernel_rfl) (fun vq wq h => h wq (Grows.refl wq)) fun lq aq wq hk hr K hK => ?_) ?_
                        · exact wp_of_value (by go_simp) (hK.out _ _ (Grows.refl _) (fun w2 h2 => (ZV.zero _ 0).grow h2) (fun h => absurd h (by decide)))
                        refine AllOps.cons (Does.lets (g := 34) (d := 112) (t := true) rfl (by kernel_rfl) (by kernel_rfl) (fun vq wq h => h wq (Grows.refl wq)) fun lq aq wq hk hr K hK => ?_) ?_
                        · obtain ⟨v36, E36, -, r36⟩ := hk.dep hr 36 114 (by kernel_rfl) (by kernel_rfl)
                          have r36 : ZV wq v36 ((-0)) := r36 wq (Grows.refl wq)
                          obtain ⟨v37, E37, -, r37⟩ := hk.dep hr 37 115 (by kernel_rfl) (by kernel_rfl)
                          have r37 : ZV wq v37 0 := r37 wq (Grows.refl wq)
                          refine wp_of_call (f := 26) (vs := #[v36, v37]) (by go_simp) (same_v wq r36 r37 (t := true) (decide_eq_true rfl)) ?_
                          rintro e w1 ⟨u, rfl, hu, hb⟩
                          exact ⟨u, rfl, hK.out _ _ hb (fun w2 h2 => hu) (fun h => absurd h (by decide))⟩
                        refine AllOps.cons (Does.plain rfl fun lq aq wq hk hr K hK => ?_) ?_
                        · obtain ⟨v34, E34, -, r34⟩ := hk.dep hr 34 112 (by kernel_rfl) (by kernel_rfl)
                          replace E34 : ev aq (.tmp 112) = .bool true := E34.trans (r34 wq (Grows.refl wq))
                          obtain ⟨v38, E38, -, r38⟩ := hk.dep hr 38 116 (by kernel_rfl) (by kernel_rfl)
                          replace E38 : ev aq (.tmp 116) = .bool true := E38.trans (r38 wq (Grows.refl wq))
                          exact wp_of_value (by go_simp) (hK.out _ _ (Grows.refl _) (fun w2 h2 => rfl) (fun h => absurd h (by decide)))
                        refine AllOps.cons (Does.plain rfl fun lq aq wq hk hr K hK => ?_) ?_
                        · obtain ⟨v39, E39, -, r39⟩ := hk.dep hr 39 117 (by kernel_rfl) (by kernel_rfl)
                          replace E39 : ev aq (.tmp 117) = .bool true := E39.trans (r39 wq (Grows.refl wq))
                          exact wp_of_value (by go_simp) (hK.out _ _ (Grows.refl _) (fun w2 h2 => rfl) (fun h => absurd h (by decide)))
                        refine AllOps.cons (Does.lets (g := 40) (d := 118) (t := true) rfl (by kernel_rfl) (by kernel_rfl) (fun vq wq h => h wq (Grows.refl wq)) fun lq aq wq hk hr K hK => ?_) ?_
                        · have B1 : ev aq (.tmp 1) = .pointer (some ⟨w.heap.size + 1, 0, none⟩) := hk.base 1 (by kernel_rfl) rfl
                          have hb := grows_of hk.ext
                          exact wp_of_value (op_load 1 _ B1 (Box2.below Do.out hb)) (hK.out _ _ (Grows.refl _) (fun w2 h2 => ⟨_, _, _, _, rfl, (So.out.below hb).below h2⟩) (fun h => absurd h (by decide)))
                        refine AllOps.cons (Does.lets (g := 40) (d := 118) (t := true) rfl (by kernel_rfl) (by kernel_rfl) (fun vq wq h => h wq (Grows.refl wq)) fun lq aq wq hk hr K hK => ?_) ?_
                        · refine wp_of_call (f := 31) (vs := #[.int .i64 (-7)]) (by go_simp) (from_v wq ((-7)) (by decide) (by decide)) ?_
                          rintro e w1 ⟨u, rfl, hu, hb⟩
                          exact ⟨u, rfl, hK.out _ _ hb (fun w2 h2 => (hu).grow h2) (fun h => absurd h (by decide))⟩
                        refine AllOps.cons (Does.lets (g := 40) (d := 118) (t := true) rfl (by kernel_rfl) (by kernel_rfl) (fun vq wq h => h wq (Grows.refl wq)) fun lq aq wq hk hr K hK => ?_) ?_
                        · obtain ⟨v41, E41, -, r41⟩ := hk.dep hr 41 119 (by kernel_rfl) (by kernel_rfl)
                          have r41 : WV wq v41 ((-7)) := r41 wq (Grows.refl wq)
                          obtain ⟨v42, E42, -, r42⟩ := hk.dep hr 42 120 (by kernel_rfl) (by kernel_rfl)
                          have r42 : ZV wq v42 ((-7)) := r42 wq (Grows.refl wq)
                          refine wp_of_call (f := 37) (vs := #[v41, v42]) (by go_simp) (cmp_v wq r41 (r42).wv (k := 0) rfl) ?_
                          rintro e w1 ⟨u, rfl, hu, hb⟩
                          exact ⟨u, rfl, hK.out _ _ hb (fun w2 h2 => hu) (fun h => absurd h (by decide))⟩
                        refine AllOps.cons (Does.lets (g := 40) (d := 118) (t := true) rfl (by kernel_rfl) (by kernel_rfl) (fun vq wq h => h wq (Grows.refl wq)) fun lq aq wq hk hr K hK => ?_) ?_
                        · obtain ⟨v43, E43, -, r43⟩ := hk.dep hr 43 121 (by kernel_rfl) (by kernel_rfl)
                          replace E43 : ev aq (.tmp 121) = .int .i64 0 := E43.trans (r43 wq (Grows.refl wq))
                          exact wp_of_value (by go_simp) (hK.out _ _ (Grows.refl _) (fun w2 h2 => rfl) (fun h => absurd h (by decide)))
                        refine AllOps.cons (Does.plain rfl fun lq aq wq hk hr K hK => ?_) ?_
                        · obtain ⟨v40, E40, -, r40⟩ := hk.dep hr 40 118 (by kernel_rfl) (by kernel_rfl)
                          replace E40 : ev aq (.tmp 118) = .bool true := E40.trans (r40 wq (Grows.refl wq))
                          obtain ⟨v44, E44, -, r44⟩ := hk.dep hr 44 122 (by kernel_rfl) (by kernel_rfl)
                          replace E44 : ev aq (.tmp 122) = .bool true := E44.trans (r44 wq (Grows.refl wq))
                          exact wp_of_value (by go_simp) (hK.out _ _ (Grows.refl _) (fun w2 h2 => rfl) (fun h => absurd h (by decide)))
                        refine AllOps.cons (Does.plain rfl fun lq aq wq hk hr K hK => ?_) ?_
                        · obtain ⟨v45, E45, -, r45⟩ := hk.dep hr 45 123 (by kernel_rfl) (by kernel_rfl)
                          replace E45 : ev aq (.tmp 123) = .bool true := E45.trans (r45 wq (Grows.refl wq))
                          exact wp_of_value (by go_simp) (hK.out _ _ (Grows.refl _) (fun w2 h2 => rfl) (fun h => absurd h (by decide)))
                        refine AllOps.cons (Does.lets (g := 46) (d := 124) (t := true) rfl (by kernel_rfl) (by kernel_rfl) (fun vq wq h => h wq (Grows.refl wq)) fun lq aq wq hk hr K hK => ?_) ?_
                        · have B4 : ev aq (.tmp 4) = .bool true := hk.base 4 (by kernel_rfl) rfl
                          exact wp_of_value (by go_simp) (hK.out _ _ (Grows.refl _) (fun w2 h2 => rfl) (fun h => absurd h (by decide)))
                        refine AllOps.cons (Does.plain rfl fun lq aq wq hk hr K hK => ?_) ?_
                        · obtain ⟨v46, E46, -, r46⟩ := hk.dep hr 46 124 (by kernel_rfl) (by kernel_rfl)
                          replace E46 : ev aq (.tmp 124) = .bool true := E46.trans (r46 wq (Grows.refl wq))
                          obtain ⟨v47, E47, -, r47⟩ := hk.dep hr 47 125 (by kernel_rfl) (by kernel_rfl)
                          replace E47 : ev aq (.tmp 125) = .bool true := E47.trans (r47 wq (Grows.refl wq))
                          exact wp_of_value (by go_simp) (hK.out _ _ (Grows.refl _) (fun w2 h2 => rfl) (fun h => absurd h (by decide)))
                        refine AllOps.cons (Does.plain rfl fun lq aq wq hk hr K hK => ?_) ?_
                        · obtain ⟨v48, E48, -, r48⟩ := hk.dep hr 48 126 (by kernel_rfl) (by kernel_rfl)
                          replace E48 : ev aq (.tmp 126) = .bool true := E48.trans (r48 wq (Grows.refl wq))
                          exact wp_of_value (by go_simp) (hK.out _ _ (Grows.refl _) (fun w2 h2 => rfl) (fun h => absurd h (by decide)))
                        refine AllOps.cons (Does.lets (g := 49) (d := 127) (t := true) rfl (by kernel_rfl) (by kernel_rfl) (fun vq wq h => h wq (Grows.refl wq)) fun lq aq wq hk hr K hK => ?_) ?_
                        · have B3 : ev aq (.tmp 3) = .int .i64 (-9223372036854775808) := hk.base 3 (by kernel_rfl) rfl
                          exact wp_of_value (by go_simp) (hK.out _ _ (Grows.refl _) (fun w2 h2 => rfl) (fun h => absurd h (by decide)))
                        refine AllOps.cons (Does.lets (g := 49) (d := 127) (t := true) rfl (by kernel_rfl) (by kernel_rfl) (fun vq wq h => h wq (Grows.refl wq)) fun lq aq wq hk hr K hK => ?_) ?_
                        · obtain ⟨v50, E50, -, r50⟩ := hk.dep hr 50 128 (by kernel_rfl) (by kernel_rfl)
                          replace E50 : ev aq (.tmp 128) = .int .i64 (-9223372036854775808) := E50.trans (r50 wq (Grows.refl wq))
                          exact wp_of_value (by go_simp) (hK.out _ _ (Grows.refl _) (fun w2 h2 => rfl) (fun h => absurd h (by decide)))
                        refine AllOps.cons (Does.plain rfl fun lq aq wq hk hr K hK => ?_) ?_
                        · obtain ⟨v49, E49, -, r49⟩ := hk.dep hr 49 127 (by kernel_rfl) (by kernel_rfl)
                          replace E49 : ev aq (.tmp 127) = .bool true := E49.trans (r49 wq (Grows.refl wq))
                          obtain ⟨v51, E51, -, r51⟩ := hk.dep hr 51 129 (by kernel_rfl) (by kernel_rfl)
                          replace E51 : ev aq (.tmp 129) = .bool true := E51.trans (r51 wq (Grows.refl wq))
                          exact wp_of_value (by go_simp) (hK.out _ _ (Grows.refl _) (fun w2 h2 => rfl) (fun h => absurd h (by decide)))
                        refine AllOps.cons (Does.plain rfl fun lq aq wq hk hr K hK => ?_) ?_
                        · obtain ⟨v52, E52, -, r52⟩ := hk.dep hr 52 130 (by kernel_rfl) (by kernel_rfl)
                          replace E52 : ev aq (.tmp 130) = .bool true := E52.trans (r52 wq (Grows.refl wq))
                          exact wp_of_value (by go_simp) (hK.out _ _ (Grows.refl _) (fun w2 h2 => rfl) (fun h => absurd h (by decide)))
                        refine AllOps.cons (Does.lets (g := 53) (d := 131) (t := true) rfl (by kernel_rfl) (by kernel_rfl) (fun vq wq h => h wq (Grows.refl wq)) fun lq aq wq hk hr K hK => ?_) ?_
                        · have B6 : ev aq (.tmp 6) = .bool false := hk.base 6 (by kernel_rfl) rfl
                          exact wp_of_value (by go_simp) (hK.out _ _ (Grows.refl _) (fun w2 h2 => rfl) (fun h => absurd h (by decide)))
                        refine AllOps.cons (Does.lets (g := 53) (d := 131) (t := true) rfl (by kernel_rfl) (by kernel_rfl) (fun vq wq h => h wq (Grows.refl wq)) fun lq aq wq hk hr K hK => ?_) ?_
                        · obtain ⟨v54, E54, -, r54⟩ := hk.dep hr 54 132 (by kernel_rfl) (by kernel_rfl)
                          replace E54 : ev aq (.tmp 132) = .bool false := E54.trans (r54 wq (Grows.refl wq))
                          exact wp_of_value (by go_simp) (hK.out _ _ (Grows.refl _) (fun w2 h2 => rfl) (fun h => absurd h (by decide)))
                        refine AllOps.cons (Does.plain rfl fun lq aq wq hk hr K hK => ?_) ?_
                        · obtain ⟨v53, E53, -, r53⟩ := hk.dep hr 53 131 (by kernel_rfl) (by kernel_rfl)
                          replace E53 : ev aq (.tmp 131) = .bool true := E53.trans (r53 wq (Grows.refl wq))
                          obtain ⟨v55, E55, -, r55⟩ := hk.dep hr 55 133 (by kernel_rfl) (by kernel_rfl)
                          replace E55 : ev aq (.tmp 133) = .bool true := E55.trans (r55 wq (Grows.refl wq))
                          exact wp_of_value (by go_simp) (hK.out _ _ (Grows.refl _) (fun w2 h2 => rfl) (fun h => absurd h (by decide)))
                        refine AllOps.cons (Does.plain rfl fun lq aq wq hk hr K hK => ?_) ?_
                        · obtain ⟨v56, E56, -, r56⟩ := hk.dep hr 56 134 (by kernel_rfl) (by kernel_rfl)
                          replace E56 : ev aq (.tmp 134) = .bool true := E56.trans (r56 wq (Grows.refl wq))
                          exact wp_of_value (by go_simp) (hK.out _ _ (Grows.refl _) (fun w2 h2 => rfl) (fun h => absurd h (by decide)))
                        refine AllOps.cons (Does.lets (g := 57) (d := 135) (t := true) rfl (by kernel_rfl) (by kernel_rfl) (fun vq wq h => h wq (Grows.refl wq)) fun lq aq wq hk hr K hK => ?_) ?_
                        · have B8 : ev aq (.tmp 8) = .bool false := hk.base 8 (by kernel_rfl) rfl
                          exact wp_of_value (by go_simp) (hK.out _ _ (Grows.refl _) (fun w2 h2 => rfl) (fun h => absurd h (by decide)))
                        refine AllOps.cons (Does.lets (g := 57) (d := 135) (t := true) rfl (by kernel_rfl) (by kernel_rfl) (fun vq wq h => h wq (Grows.refl wq)) fun lq aq wq hk hr K hK => ?_) ?_
                        · obtain ⟨v58, E58, -, r58⟩ := hk.dep hr 58 136 (by kernel_rfl) (by kernel_rfl)
                          replace E58 : ev aq (.tmp 136) = .bool false := E58.trans (r58 wq (Grows.refl wq))
                          exact wp_of_value (by go_simp) (hK.out _ _ (Grows.refl _) (fun w2 h2 => rfl) (fun h => absurd h (by decide)))
                        refine AllOps.cons (Does.plain rfl fun lq aq wq hk hr K hK => ?_) ?_
                        · obtain ⟨v57, E57, -, r57⟩ := hk.dep hr 57 135 (by kernel_rfl) (by kernel_rfl)
                          replace E57 : ev aq (.tmp 135) = .bool true := E57.trans (r57 wq (Grows.refl wq))
                          obtain ⟨v59, E59, -, r59⟩ := hk.dep hr 59 137 (by kernel_rfl) (by kernel_rfl)
                          replace E59 : ev aq (.tmp 137) = .bool true := E59.trans (r59 wq (Grows.refl wq))
                          exact wp_of_value (by go_simp) (hK.out _ _ (Grows.refl _) (fun w2 h2 => rfl) (fun h => absurd h (by decide)))
                        refine AllOps.cons (Does.plain rfl fun lq aq wq hk hr K hK => ?_) ?_
                        · obtain ⟨v60, E60, -, r60⟩ := hk.dep hr 60 138 (by kernel_rfl) (by kernel_rfl)
                          replace E60 : ev aq (.tmp 138) = .bool true := E60.trans (r60 wq (Grows.refl wq))
                          exact wp_of_value (by go_simp) (hK.out _ _ (Grows.refl _) (fun w2 h2 => rfl) (fun h => absurd h (by decide)))
                        refine AllOps.cons (Does.lets (g := 61) (d := 139) (t := true) rfl (by kernel_rfl) (by kernel_rfl) (fun vq wq h => h wq (Grows.refl wq)) fun lq aq wq hk hr K hK => ?_) ?_
                        · have B10 : ev aq (.tmp 10) = .bool true := hk.base 10 (by kernel_rfl) rfl
                          exact wp_of_value (by go_simp) (hK.out _ _ (Grows.refl _) (fun w2 h2 => rfl) (fun h => absurd h (by decide)))
                        refine AllOps.cons (Does.plain rfl fun lq aq wq hk hr K hK => ?_) ?_
                        · obtain ⟨v61, E61, -, r61⟩ := hk.dep hr 61 139 (by kernel_rfl) (by kernel_rfl)
                          replace E61 : ev aq (.tmp 139) = .bool true := E61.trans (r61 wq (Grows.refl wq))
                          obtain ⟨v62, E62, -, r62⟩ := hk.dep hr 62 140 (by kernel_rfl) (by kernel_rfl)
                          replace E62 : ev aq (.tmp 140) = .bool true := E62.trans (r62 wq (Grows.refl wq))
                          exact wp_of_value (by go_simp) (hK.out _ _ (Grows.refl _) (fun w2 h2 => rfl) (fun h => absurd h (by decide)))
                        refine AllOps.cons (Does.plain rfl fun lq aq wq hk hr K hK => ?_) ?_
                        · obtain ⟨v63, E63, -, r63⟩ := hk.dep hr 63 141 (by kernel_rfl) (by kernel_rfl)
                          replace E63 : ev aq (.tmp 141) = .bool true := E63.trans (r63 wq (Grows.refl wq))
                          exact wp_of_value (by go_simp) (hK.out _ _ (Grows.refl _) (fun w2 h2 => rfl) (fun h => absurd h (by decide)))
                        refine AllOps.cons (Does.lets (g := 64) (d := 142) (t := true) rfl (by kernel_rfl) (by kernel_rfl) (fun vq wq h => h wq (Grows.refl wq)) fun lq aq wq hk hr K hK => ?_) ?_
                        · have B9 : ev aq (.tmp 9) = .int .i64 9223372036854775807 := hk.base 9 (by kernel_rfl) rfl
                          exact wp_of_value (by go_simp) (hK.out _ _ (Grows.refl _) (fun w2 h2 => rfl) (fun h => absurd h (by decide)))
                        refine AllOps.cons (Does.lets (g := 64) (d := 142) (t := true) rfl (by kernel_rfl) (by kernel_rfl) (fun vq wq h => h wq (Grows.refl wq)) fun lq aq wq hk hr K hK => ?_) ?_
                        · obtain ⟨v65, E65, -, r65⟩ := hk.dep hr 65 143 (by kernel_rfl) (by kernel_rfl)
                          replace E65 : ev aq (.tmp 143) = .int .i64 9223372036854775807 := E65.trans (r65 wq (Grows.refl wq))
                          exact wp_of_value (by go_simp) (hK.out _ _ (Grows.refl _) (fun w2 h2 => rfl) (fun h => absurd h (by decide)))
                        refine AllOps.cons (Does.plain rfl fun lq aq wq hk hr K hK => ?_) ?_
                        · obtain ⟨v64, E64, -, r64⟩ := hk.dep hr 64 142 (by kernel_rfl) (by kernel_rfl)
                          replace E64 : ev aq (.tmp 142) = .bool true := E64.trans (r64 wq (Grows.refl wq))
                          obtain ⟨v66, E66, -, r66⟩ := hk.dep hr 66 144 (by kernel_rfl) (by kernel_rfl)
                          replace E66 : ev aq (.tmp 144) = .bool true := E66.trans (r66 wq (Grows.refl wq))
                          exact wp_of_value (by go_simp) (hK.out _ _ (Grows.refl _) (fun w2 h2 => rfl) (fun h => absurd h (by decide)))
                        refine AllOps.cons (Does.plain rfl fun lq aq wq hk hr K hK => ?_) ?_
                        · obtain ⟨v67, E67, -, r67⟩ := hk.dep hr 67 145 (by kernel_rfl) (by kernel_rfl)
                          replace E67 : ev aq (.tmp 145) = .bool true := E67.trans (r67 wq (Grows.refl wq))
                          exact wp_of_value (by go_simp) (hK.out _ _ (Grows.refl _) (fun w2 h2 => rfl) (fun h => absurd h (by decide)))
                        refine AllOps.cons (Does.lets (g := 68) (d := 146) (t := true) rfl (by kernel_rfl) (by kernel_rfl) (fun vq wq h => h wq (Grows.refl wq)) fun lq aq wq hk hr K hK => ?_) ?_
                        · have B12 : ev aq (.tmp 12) = .int .i64 3 := hk.base 12 (by kernel_rfl) rfl
                          exact wp_of_value (by go_simp) (hK.out _ _ (Grows.refl _) (fun w2 h2 => rfl) (fun h => absurd h (by decide)))
                        refine AllOps.cons (Does.lets (g := 68) (d := 146) (t := true) rfl (by kernel_rfl) (by kernel_rfl) (fun vq wq h => h wq (Grows.refl wq)) fun lq aq wq hk hr K hK => ?_) ?_
                        · obtain ⟨v69, E69, -, r69⟩ := hk.dep hr 69 147 (by kernel_rfl) (by kernel_rfl)
                          replace E69 : ev aq (.tmp 147) = .int .i64 3 := E69.trans (r69 wq (Grows.refl wq))
                          exact wp_of_value (by go_simp) (hK.out _ _ (Grows.refl _) (fun w2 h2 => rfl) (fun h => absurd h (by decide)))
                        refine AllOps.cons (Does.plain rfl fun lq aq wq hk hr K hK => ?_) ?_
                        · obtain ⟨v68, E68, -, r68⟩ := hk.dep hr 68 146 (by kernel_rfl) (by kernel_rfl)
                          replace E68 : ev aq (.tmp 146) = .bool true := E68.trans (r68 wq (Grows.refl wq))
                          obtain ⟨v70, E70, -, r70⟩ := hk.dep hr 70 148 (by kernel_rfl) (by kernel_rfl)
                          replace E70 : ev aq (.tmp 148) = .bool true := E70.trans (r70 wq (Grows.refl wq))
                          exact wp_of_value (by go_simp) (hK.out _ _ (Grows.refl _) (fun w2 h2 => rfl) (fun h => absurd h (by decide)))
                        refine AllOps.cons (Does.plain rfl fun lq aq wq hk hr K hK => ?_) ?_
                        · obtain ⟨v71, E71, -, r71⟩ := hk.dep hr 71 149 (by kernel_rfl) (by kernel_rfl)
                          replace E71 : ev aq (.tmp 149) = .bool true := E71.trans (r71 wq (Grows.refl wq))
                          exact wp_of_value (by go_simp) (hK.out _ _ (Grows.refl _) (fun w2 h2 => rfl) (fun h => absurd h (by decide)))
                        refine AllOps.cons (Does.lets (g := 72) (d := 150) (t := true) rfl (by kernel_rfl) (by kernel_rfl) (fun vq wq h => h wq (Grows.refl wq)) fun lq aq wq hk hr K hK => ?_) ?_
                        · have B14 : ev aq (.tmp 14) = .int .i64 3 := hk.base 14 (by kernel_rfl) rfl
                          exact wp_of_value (by go_simp) (hK.out _ _ (Grows.refl _) (fun w2 h2 => rfl) (fun h => absurd h (by decide)))
                        refine AllOps.cons (Does.lets (g := 72) (d := 150) (t := true) rfl (by kernel_rfl) (by kernel_rfl) (fun vq wq h => h wq (Grows.refl wq)) fun lq aq wq hk hr K hK => ?_) ?_
                        · obtain ⟨v73, E73, -, r73⟩ := hk.dep hr 73 151 (by kernel_rfl) (by kernel_rfl)
                          replace E73 : ev aq (.tmp 151) = .int .i64 3 := E73.trans (r73 wq (Grows.refl wq))
                          exact wp_of_value (by go_simp) (hK.out _ _ (Grows.refl _) (fun w2 h2 => rfl) (fun h => absurd h (by decide)))
                        refine AllOps.cons (Does.plain rfl fun lq aq wq hk hr K hK => ?_) ?_
                        · obtain ⟨v72, E72, -, r72⟩ := hk.dep hr 72 150 (by kernel_rfl) (by kernel_rfl)
                          replace E72 : ev aq (.tmp 150) = .bool true := E72.trans (r72 wq (Grows.refl wq))
                          obtain ⟨v74, E74, -, r74⟩ := hk.dep hr 74 152 (by kernel_rfl) (by kernel_rfl)
                          replace E74 : ev aq (.tmp 152) = .bool true := E74.trans (r74 wq (Grows.refl wq))
                          exact wp_of_value (by go_simp) (hK.out _ _ (Grows.refl _) (fun w2 h2 => rfl) (fun h => absurd h (by decide)))
                        refine AllOps.cons (Does.plain rfl fun lq aq wq hk hr K hK => ?_) ?_
                        · obtain ⟨v75, E75, -, r75⟩ := hk.dep hr 75 153 (by kernel_rfl) (by kernel_rfl)
                          replace E75 : ev aq (.tmp 153) = .bool true := E75.trans (r75 wq (Grows.refl wq))
                          exact wp_of_value (by go_simp) (hK.out _ _ (Grows.refl _) (fun w2 h2 => rfl) (fun h => absurd h (by decide)))
                        refine AllOps.cons (Does.lets (g := 76) (d := 154) (t := true) rfl (by kernel_rfl) (by kernel_rfl) (fun vq wq h => h wq (Grows.refl wq)) fun lq aq wq hk hr K hK => ?_) ?_
                        · have B16 : ev aq (.tmp 16) = .bool false := hk.base 16 (by kernel_rfl) rfl
                          exact wp_of_value (by go_simp) (hK.out _ _ (Grows.refl _) (fun w2 h2 => rfl) (fun h => absurd h (by decide)))
                        refine AllOps.cons (Does.lets (g := 76) (d := 154) (t := true) rfl (by kernel_rfl) (by kernel_rfl) (fun vq wq h => h wq (Grows.refl wq)) fun lq aq wq hk hr K hK => ?_) ?_
                        · obtain ⟨v77, E77, -, r77⟩ := hk.dep hr 77 155 (by kernel_rfl) (by kernel_rfl)
                          replace E77 : ev aq (.tmp 155) = .bool false := E77.trans (r77 wq (Grows.refl wq))
                          exact wp_of_value (by go_simp) (hK.out _ _ (Grows.refl _) (fun w2 h2 => rfl) (fun h => absurd h (by decide)))
                        refine AllOps.cons (Does.plain rfl fun lq aq wq hk hr K hK => ?_) ?_
                        · obtain ⟨v76, E76, -, r76⟩ := hk.dep hr 76 154 (by kernel_rfl) (by kernel_rfl)
                          replace E76 : ev aq (.tmp 154) = .bool true := E76.trans (r76 wq (Grows.refl wq))
                          obtain ⟨v78, E78, -, r78⟩ := hk.dep hr 78 156 (by kernel_rfl) (by kernel_rfl)
                          replace E78 : ev aq (.tmp 156) = .bool true := E78.trans (r78 wq (Grows.refl wq))
                          exact wp_of_value (by go_simp) (hK.out _ _ (Grows.refl _) (fun w2 h2 => rfl) (fun h => absurd h (by decide)))
                        refine AllOps.cons (Does.plain rfl fun lq aq wq hk hr K hK => ?_) ?_
                        · obtain ⟨v79, E79, -, r79⟩ := hk.dep hr 79 157 (by kernel_rfl) (by kernel_rfl)
                          replace E79 : ev aq (.tmp 157) = .bool true := E79.trans (r79 wq (Grows.refl wq))
                          exact wp_of_value (by go_simp) (hK.out _ _ (Grows.refl _) (fun w2 h2 => rfl) (fun h => absurd h (by decide)))
                        refine AllOps.cons (Does.lets (g := 80) (d := 158) (t := true) rfl (by kernel_rfl) (by kernel_rfl) (fun vq wq h => h wq (Grows.refl wq)) fun lq aq wq hk hr K hK => ?_) ?_
                        · have B18 : ev aq (.tmp 18) = .bool false := hk.base 18 (by kernel_rfl) rfl
                          exact wp_of_value (by go_simp) (hK.out _ _ (Grows.refl _) (fun w2 h2 => rfl) (fun h => absurd h (by decide)))
                        refine AllOps.cons (Does.lets (g := 80) (d := 158) (t := true) rfl (by kernel_rfl) (by kernel_rfl) (fun vq wq h => h wq (Grows.refl wq)) fun lq aq wq hk hr K hK => ?_) ?_
                        · obtain ⟨v81, E81, -, r81⟩ := hk.dep hr 81 159 (by kernel_rfl) (by kernel_rfl)
                          replace E81 : ev aq (.tmp 159) = .bool false := E81.trans (r81 wq (Grows.refl wq))
                          exact wp_of_value (by go_simp) (hK.out _ _ (Grows.refl _) (fun w2 h2 => rfl) (fun h => absurd h (by decide)))
                        refine AllOps.cons (Does.plain rfl fun lq aq wq hk hr K hK => ?_) ?_
                        · obtain ⟨v80, E80, -, r80⟩ := hk.dep hr 80 158 (by kernel_rfl) (by kernel_rfl)
                          replace E80 : ev aq (.tmp 158) = .bool true := E80.trans (r80 wq (Grows.refl wq))
                          obtain ⟨v82, E82, -, r82⟩ := hk.dep hr 82 160 (by kernel_rfl) (by kernel_rfl)
                          replace E82 : ev aq (.tmp 160) = .bool true := E82.trans (r82 wq (Grows.refl wq))
                          exact wp_of_value (by go_simp) (hK.out _ _ (Grows.refl _) (fun w2 h2 => rfl) (fun h => absurd h (by decide)))
                        refine AllOps.cons (Does.plain rfl fun lq aq wq hk hr K hK => ?_) ?_
                        · obtain ⟨v83, E83, -, r83⟩ := hk.dep hr 83 161 (by kernel_rfl) (by kernel_rfl)
                          replace E83 : ev aq (.tmp 161) = .bool true := E83.trans (r83 wq (Grows.refl wq))
                          exact wp_of_value (by go_simp) (hK.out _ _ (Grows.refl _) (fun w2 h2 => rfl) (fun h => absurd h (by decide)))
                        refine AllOps.cons (Does.lets (g := 84) (d := 162) (t := true) rfl (by kernel_rfl) (by kernel_rfl) (fun vq wq h => h wq (Grows.refl wq)) fun lq aq wq hk hr K hK => ?_) ?_
                        · have B20 : ev aq (.tmp 20) = .bool false := hk.base 20 (by kernel_rfl) rfl
                          exact wp_of_value (by go_simp) (hK.out _ _ (Grows.refl _) (fun w2 h2 => rfl) (fun h => absurd h (by decide)))
                        refine AllOps.cons (Does.lets (g := 84) (d := 162) (t := true) rfl (by kernel_rfl) (by kernel_rfl) (fun vq wq h => h wq (Grows.refl wq)) fun lq aq wq hk hr K hK => ?_) ?_
                        · obtain ⟨v85, E85, -, r85⟩ := hk.dep hr 85 163 (by kernel_rfl) (by kernel_rfl)
                          replace E85 : ev aq (.tmp 163) = .bool false := E85.trans (r85 wq (Grows.refl wq))
                          exact wp_of_value (by go_simp) (hK.out _ _ (Grows.refl _) (fun w2 h2 => rfl) (fun h => absurd h (by decide)))
                        refine AllOps.cons (Does.plain rfl fun lq aq wq hk hr K hK => ?_) ?_
                        · obtain ⟨v84, E84, -, r84⟩ := hk.dep hr 84 162 (by kernel_rfl) (by kernel_rfl)
                          replace E84 : ev aq (.tmp 162) = .bool true := E84.trans (r84 wq (Grows.refl wq))
                          obtain ⟨v86, E86, -, r86⟩ := hk.dep hr 86 164 (by kernel_rfl) (by kernel_rfl)
                          replace E86 : ev aq (.tmp 164) = .bool true := E86.trans (r86 wq (Grows.refl wq))
                          exact wp_of_value (by go_simp) (hK.out _ _ (Grows.refl _) (fun w2 h2 => rfl) (fun h => absurd h (by decide)))
                        refine AllOps.cons (Does.plain rfl fun lq aq wq hk hr K hK => ?_) ?_
                        · obtain ⟨v87, E87, -, r87⟩ := hk.dep hr 87 165 (by kernel_rfl) (by kernel_rfl)
                          replace E87 : ev aq (.tmp 165) = .bool true := E87.trans (r87 wq (Grows.refl wq))
                          exact wp_of_value (by go_simp) (hK.out _ _ (Grows.refl _) (fun w2 h2 => rfl) (fun h => absurd h (by decide)))
                        refine AllOps.cons (Does.lets (g := 88) (d := 166) (t := true) rfl (by kernel_rfl) (by kernel_rfl) (fun vq wq h => h wq (Grows.refl wq)) fun lq aq wq hk hr K hK => ?_) ?_
                        · have B22 : ev aq (.tmp 22) = .bool false := hk.base 22 (by kernel_rfl) rfl
                          exact wp_of_value (by go_simp) (hK.out _ _ (Grows.refl _) (fun w2 h2 => rfl) (fun h => absurd h (by decide)))
                        refine AllOps.cons (Does.lets (g := 88) (d := 166) (t := true) rfl (by kernel_rfl) (by kernel_rfl) (fun vq wq h => h wq (Grows.refl wq)) fun lq aq wq hk hr K hK => ?_) ?_
                        · obtain ⟨v89, E89, -, r89⟩ := hk.dep hr 89 167 (by kernel_rfl) (by kernel_rfl)
                          replace E89 : ev aq (.tmp 167) = .bool false := E89.trans (r89 wq (Grows.refl wq))
                          exact wp_of_value (by go_simp) (hK.out _ _ (Grows.refl _) (fun w2 h2 => rfl) (fun h => absurd h (by decide)))
                        refine AllOps.cons (Does.plain rfl fun lq aq wq hk hr K hK => ?_) ?_
                        · obtain ⟨v88, E88, -, r88⟩ := hk.dep hr 88 166 (by kernel_rfl) (by kernel_rfl)
                          replace E88 : ev aq (.tmp 166) = .bool true := E88.trans (r88 wq (Grows.refl wq))
                          obtain ⟨v90, E90, -, r90⟩ := hk.dep hr 90 168 (by kernel_rfl) (by kernel_rfl)
                          replace E90 : ev aq (.tmp 168) = .bool true := E90.trans (r90 wq (Grows.refl wq))
                          exact wp_of_value (by go_simp) (hK.out _ _ (Grows.refl _) (fun w2 h2 => rfl) (fun h => absurd h (by decide)))
                        refine AllOps.cons (Does.plain rfl fun lq aq wq hk hr K hK => ?_) ?_
                        · obtain ⟨v91, E91, -, r91⟩ := hk.dep hr 91 169 (by kernel_rfl) (by kernel_rfl)
                          replace E91 : ev aq (.tmp 169) = .bool true := E91.trans (r91 wq (Grows.refl wq))
                          exact wp_of_value (by go_simp) (hK.out _ _ (Grows.refl _) (fun w2 h2 => rfl) (fun h => absurd h (by decide)))
                        refine AllOps.cons (Does.lets (g := 92) (d := 170) (t := true) rfl (by kernel_rfl) (by kernel_rfl) (fun vq wq h => h wq (Grows.refl wq)) fun lq aq wq hk hr K hK => ?_) ?_
                        · refine wp_of_call (f := 27) (vs := #[.slice none 0 0]) (by go_simp) (add0_v wq 0) ?_
                          rintro e w1 ⟨u, rfl, hu, hb⟩
                          exact ⟨u, rfl, hK.out _ _ hb (fun w2 h2 => (hu).grow h2) (fun h => absurd h (by decide))⟩
                        refine AllOps.cons (Does.lets (g := 92) (d := 170) (t := true) rfl (by kernel_rfl) (by kernel_rfl) (fun vq wq h => h wq (Grows.refl wq)) fun lq aq wq hk hr K hK => ?_) ?_
                        · exact wp_of_value (by go_simp) (hK.out _ _ (Grows.refl _) (fun w2 h2 => (ZV.zero _ 0).grow h2) (fun h => absurd h (by decide)))
                        refine AllOps.cons (Does.lets (g := 92) (d := 170) (t := true) rfl (by kernel_rfl) (by kernel_rfl) (fun vq wq h => h wq (Grows.refl wq)) fun lq aq wq hk hr K hK => ?_) ?_
                        · obtain ⟨v93, E93, -, r93⟩ := hk.dep hr 93 171 (by kernel_rfl) (by kernel_rfl)
                          have r93 : ZV wq v93 0 := r93 wq (Grows.refl wq)
                          obtain ⟨v94, E94, -, r94⟩ := hk.dep hr 94 172 (by kernel_rfl) (by kernel_rfl)
                          have r94 : ZV wq v94 0 := r94 wq (Grows.refl wq)
                          refine wp_of_call (f := 26) (vs := #[v93, v94]) (by go_simp) (same_v wq r93 r94 (t := true) (decide_eq_true rfl)) ?_
                          rintro e w1 ⟨u, rfl, hu, hb⟩
                          exact ⟨u, rfl, hK.out _ _ hb (fun w2 h2 => hu) (fun h => absurd h (by decide))⟩
                        refine AllOps.cons (Does.plain rfl fun lq aq wq hk hr K hK => ?_) ?_
                        · obtain ⟨v92, E92, -, r92⟩ := hk.dep hr 92 170 (by kernel_rfl) (by kernel_rfl)
                          replace E92 : ev aq (.tmp 170) = .bool true := E92.trans (r92 wq (Grows.refl wq))
                          obtain ⟨v95, E95, -, r95⟩ := hk.dep hr 95 173 (by kernel_rfl) (by kernel_rfl)
                          replace E95 : ev aq (.tmp 173) = .bool true := E95.trans (r95 wq (Grows.refl wq))
                          exact wp_of_value (by go_simp) (hK.out _ _ (Grows.refl _) (fun w2 h2 => rfl) (fun h => absurd h (by decide)))
                        refine AllOps.cons (Does.plain rfl fun lq aq wq hk hr K hK => ?_) ?_
                        · obtain ⟨v96, E96, -, r96⟩ := hk.dep hr 96 174 (by kernel_rfl) (by kernel_rfl)
                          replace E96 : ev aq (.tmp 174) = .bool true := E96.trans (r96 wq (Grows.refl wq))
                          exact wp_of_value (by go_simp) (hK.out _ _ (Grows.refl _) (fun w2 h2 => rfl) (fun h => absurd h (by decide)))
                        refine AllOps.cons (Does.lets (g := 97) (d := 175) (t := true) rfl (by kernel_rfl) (by kernel_rfl) (fun vq wq h => h wq (Grows.refl wq)) fun lq aq wq hk hr K hK => ?_) ?_
                        · have B1 : ev aq (.tmp 1) = .pointer (some ⟨w.heap.size + 1, 0, none⟩) := hk.base 1 (by kernel_rfl) rfl
                          have hb := grows_of hk.ext
                          exact wp_of_value (op_load 1 _ B1 (Box2.below Do.out hb)) (hK.out _ _ (Grows.refl _) (fun w2 h2 => ⟨_, _, _, _, rfl, (So.out.below hb).below h2⟩) (fun h => absurd h (by decide)))
                        refine AllOps.cons (Does.lets (g := 97) (d := 175) (t := true) rfl (by kernel_rfl) (by kernel_rfl) (fun vq wq h => h wq (Grows.refl wq)) fun lq aq wq hk hr K hK => ?_) ?_
                        · have B1 : ev aq (.tmp 1) = .pointer (some ⟨w.heap.size + 1, 0, none⟩) := hk.base 1 (by kernel_rfl) rfl
                          have hb := grows_of hk.ext
                          exact wp_of_value (op_load 1 _ B1 (Box2.below Do.out hb)) (hK.out _ _ (Grows.refl _) (fun w2 h2 => ⟨_, _, _, _, rfl, (So.out.below hb).below h2⟩) (fun h => absurd h (by decide)))
                        refine AllOps.cons (Does.lets (g := 97) (d := 175) (t := true) rfl (by kernel_rfl) (by kernel_rfl) (fun vq wq h => h wq (Grows.refl wq)) fun lq aq wq hk hr K hK => ?_) ?_
                        · have B1 : ev aq (.tmp 1) = .pointer (some ⟨w.heap.size + 1, 0, none⟩) := hk.base 1 (by kernel_rfl) rfl
                          have hb := grows_of hk.ext
                          exact wp_of_value (op_load 1 _ B1 (Box2.below Do.out hb)) (hK.out _ _ (Grows.refl _) (fun w2 h2 => ⟨_, _, _, _, rfl, (So.out.below hb).below h2⟩) (fun h => absurd h (by decide)))
                        refine AllOps.cons (Does.lets (g := 97) (d := 175) (t := true) rfl (by kernel_rfl) (by kernel_rfl) (fun vq wq h => h wq (Grows.refl wq)) fun lq aq wq hk hr K hK => ?_) ?_
                        · obtain ⟨v98, E98, -, r98⟩ := hk.dep hr 98 176 (by kernel_rfl) (by kernel_rfl)
                          have r98 : WV wq v98 ((-7)) := r98 wq (Grows.refl wq)
                          obtain ⟨n98, A98, k98, c98, rfl, s98⟩ := r98
                          obtain ⟨v99, E99, -, r99⟩ := hk.dep hr 99 177 (by kernel_rfl) (by kernel_rfl)
                          have r99 : WV wq v99 ((-7)) := r99 wq (Grows.refl wq)
                          obtain ⟨n99, A99, k99, c99, rfl, s99⟩ := r99
                          obtain ⟨v100, E100, -, r100⟩ := hk.dep hr 100 178 (by kernel_rfl) (by kernel_rfl)
                          have r100 : WV wq v100 ((-7)) := r100 wq (Grows.refl wq)
                          obtain ⟨n100, A100, k100, c100, rfl, s100⟩ := r100
                          exact wp_of_value (op_row3 176 177 178 E98 E99 E100) (hK.out _ _ ((Grows.refl _).alloc _) (fun w2 h2 => (RowV.three s98 s99 s100).grow h2) (fun h => absurd h (by decide)))
                        refine AllOps.cons (Does.lets (g := 97) (d := 175) (t := true) rfl (by kernel_rfl) (by kernel_rfl) (fun vq wq h => h wq (Grows.refl wq)) fun lq aq wq hk hr K hK => ?_) ?_
                        · obtain ⟨v101, E101, -, r101⟩ := hk.dep hr 101 179 (by kernel_rfl) (by kernel_rfl)
                          have r101 : RowV wq v101 [(-7), (-7), (-7)] := r101 wq (Grows.refl wq)
                          refine wp_of_call (f := 28) (vs := #[v101]) (by go_simp) (mul3_v wq r101 (Nat.le_trans sz7 (by decide)) (Nat.le_trans (szz_mul sz7 sz7) (by decide)) (Nat.le_trans (szz_mul (szz_mul sz7 sz7) sz7) (by decide))) ?_
                          rintro e w1 ⟨u, rfl, hu, hb⟩
                          exact ⟨u, rfl, hK.out _ _ hb (fun w2 h2 => (hu).grow h2) (fun h => absurd h (by decide))⟩
                        refine AllOps.cons (Does.lets (g := 97) (d := 175) (t := true) rfl (by kernel_rfl) (by kernel_rfl) (fun vq wq h => h wq (Grows.refl wq)) fun lq aq wq hk hr K hK => ?_) ?_
                        · obtain ⟨v102, E102, -, r102⟩ := hk.dep hr 102 180 (by kernel_rfl) (by kernel_rfl)
                          have r102 : ZV wq v102 (((-7) * (-7) * (-7))) := r102 wq (Grows.refl wq)
                          refine wp_of_call (f := 47) (vs := #[v102, .string ⟨#[45, 51, 52, 51]⟩]) (by go_simp) (is_v wq r102 ⟨#[45, 51, 52, 51]⟩ (congrArg (fun l : List UInt8 => ByteArray.mk l.toArray) kt_343)) ?_
                          rintro e w1 ⟨u, rfl, hu, hb⟩
                          exact ⟨u, rfl, hK.out _ _ hb (fun w2 h2 => hu) (fun h => absurd h (by decide))⟩
                        refine AllOps.cons (Does.plain rfl fun lq aq wq hk hr K hK => ?_) ?_
                        · obtain ⟨v97, E97, -, r97⟩ := hk.dep hr 97 175 (by kernel_rfl) (by kernel_rfl)
                          replace E97 : ev aq (.tmp 175) = .bool true := E97.trans (r97 wq (Grows.refl wq))
                          obtain ⟨v103, E103, -, r103⟩ := hk.dep hr 103 181 (by kernel_rfl) (by kernel_rfl)
                          replace E103 : ev aq (.tmp 181) = .bool true := E103.trans (r103 wq (Grows.refl wq))
                          exact wp_of_value (by go_simp) (hK.out _ _ (Grows.refl _) (fun w2 h2 => rfl) (fun h => absurd h (by decide)))
                        refine AllOps.cons (Does.plain rfl fun lq aq wq hk hr K hK => ?_) ?_
                        · obtain ⟨v104, E104, -, r104⟩ := hk.dep hr 104 182 (by kernel_rfl) (by kernel_rfl)
                          replace E104 : ev aq (.tmp 182) = .bool true := E104.trans (r104 wq (Grows.refl wq))
                          exact wp_of_value (by go_simp) (hK.out _ _ (Grows.refl _) (fun w2 h2 => rfl) (fun h => absurd h (by decide)))
                        refine AllOps.cons (Does.lets (g := 105) (d := 183) (t := true) rfl (by kernel_rfl) (by kernel_rfl) (fun vq wq h => h wq (Grows.refl wq)) fun lq aq wq hk hr K hK => ?_) ?_
                        · refine wp_of_call (f := 48) (vs := #[.int .i64 0, .int .i64 (-5), .int .i64 0, .int .i64 0]) (by go_simp) (divs_v wq 0 ((-5)) 0 0 (by decide) (by decide) (by decide) (by decide) (by decide) (by decide) (by decide) (by decide) (by decide) (by decide) (by decide)) ?_
                          rintro e w1 ⟨u, rfl, hu, hb⟩
                          exact ⟨u, rfl, hK.out _ _ hb (fun w2 h2 => hu) (fun h => absurd h (by decide))⟩
                        refine AllOps.cons (Does.plain rfl fun lq aq wq hk hr K hK => ?_) ?_
                        · obtain ⟨v105, E105, -, r105⟩ := hk.dep hr 105 183 (by kernel_rfl) (by kernel_rfl)
                          replace E105 : ev aq (.tmp 183) = .bool true := E105.trans (r105 wq (Grows.refl wq))
                          obtain ⟨v106, E106, -, r106⟩ := hk.dep hr 106 184 (by kernel_rfl) (by kernel_rfl)
                          replace E106 : ev aq (.tmp 184) = .bool true := E106.trans (r106 wq (Grows.refl wq))
                          exact wp_of_value (by go_simp) (hK.out _ _ (Grows.refl _) (fun w2 h2 => rfl) (fun h => absurd h (by decide)))
                        refine AllOps.cons (Does.plain rfl fun lq aq wq hk hr K hK => ?_) ?_
                        · obtain ⟨v107, E107, -, r107⟩ := hk.dep hr 107 185 (by kernel_rfl) (by kernel_rfl)
                          replace E107 : ev aq (.tmp 185) = .bool true := E107.trans (r107 wq (Grows.refl wq))
                          exact wp_of_value (by go_simp) (hK.out _ _ (Grows.refl _) (fun w2 h2 => rfl) (fun h => absurd h (by decide)))
                        refine AllOps.cons (Does.lets (g := 108) (d := 186) (t := true) rfl (by kernel_rfl) (by kernel_rfl) (fun vq wq h => h wq (Grows.refl wq)) fun lq aq wq hk hr K hK => ?_) ?_
                        · refine wp_of_call (f := 48) (vs := #[.int .i64 (-6), .int .i64 3, .int .i64 (-2), .int .i64 0]) (by go_simp) (divs_v wq ((-6)) 3 ((-2)) 0 (by decide) (by decide) (by decide) (by decide) (by decide) (by decide) (by decide) (by decide) (by decide) (by decide) (by decide)) ?_
                          rintro e w1 ⟨u, rfl, hu, hb⟩
                          exact ⟨u, rfl, hK.out _ _ hb (fun w2 h2 => hu) (fun h => absurd h (by decide))⟩
                        refine AllOps.cons (Does.plain rfl fun lq aq wq hk hr K hK => ?_) ?_
                        · obtain ⟨v108, E108, -, r108⟩ := hk.dep hr 108 186 (by kernel_rfl) (by kernel_rfl)
                          replace E108 : ev aq (.tmp 186) = .bool true := E108.trans (r108 wq (Grows.refl wq))
                          obtain ⟨v109, E109, -, r109⟩ := hk.dep hr 109 187 (by kernel_rfl) (by kernel_rfl)
                          replace E109 : ev aq (.tmp 187) = .bool true := E109.trans (r109 wq (Grows.refl wq))
                          exact wp_of_value (by go_simp) (hK.out _ _ (Grows.refl _) (fun w2 h2 => rfl) (fun h => absurd h (by decide)))
                        refine AllOps.cons (Does.plain rfl fun lq aq wq hk hr K hK => ?_) ?_
                        · obtain ⟨v110, E110, -, r110⟩ := hk.dep hr 110 188 (by kernel_rfl) (by kernel_rfl)
                          replace E110 : ev aq (.tmp 188) = .bool true := E110.trans (r110 wq (Grows.refl wq))
                          exact wp_of_value (by go_simp) (hK.out _ _ (Grows.refl _) (fun w2 h2 => rfl) (fun h => absurd h (by decide)))
                        refine AllOps.cons (Does.lets (g := 111) (d := 189) (t := true) rfl (by kernel_rfl) (by kernel_rfl) (fun vq wq h => h wq (Grows.refl wq)) fun lq aq wq hk hr K hK => ?_) ?_
                        · refine wp_of_call (f := 48) (vs := #[.int .i64 6, .int .i64 (-3), .int .i64 (-2), .int .i64 0]) (by go_simp) (divs_v wq 6 ((-3)) ((-2)) 0 (by decide) (by decide) (by decide) (by decide) (by decide) (by decide) (by decide) (by decide) (by decide) (by decide) (by decide)) ?_
                          rintro e w1 ⟨u, rfl, hu, hb⟩
                          exact ⟨u, rfl, hK.out _ _ hb (fun w2 h2 => hu) (fun h => absurd h (by decide))⟩
                        refine AllOps.cons (Does.plain rfl fun lq aq wq hk hr K hK => ?_) ?_
                        · obtain ⟨v111, E111, -, r111⟩ := hk.dep hr 111 189 (by kernel_rfl) (by kernel_rfl)
                          replace E111 : ev aq (.tmp 189) = .bool true := E111.trans (r111 wq (Grows.refl wq))
                          obtain ⟨v112, E112, -, r112⟩ := hk.dep hr 112 190 (by kernel_rfl) (by kernel_rfl)
                          replace E112 : ev aq (.tmp 190) = .bool true := E112.trans (r112 wq (Grows.refl wq))
                          exact wp_of_value (by go_simp) (hK.out _ _ (Grows.refl _) (fun w2 h2 => rfl) (fun h => absurd h (by decide)))
                        refine AllOps.cons (Does.plain rfl fun lq aq wq hk hr K hK => ?_) ?_
                        · obtain ⟨v113, E113, -, r113⟩ := hk.dep hr 113 191 (by kernel_rfl) (by kernel_rfl)
                          replace E113 : ev aq (.tmp 191) = .bool true := E113.trans (r113 wq (Grows.refl wq))
                          exact wp_of_value (by go_simp) (hK.out _ _ (Grows.refl _) (fun w2 h2 => rfl) (fun h => absurd h (by decide)))
                        refine AllOps.cons (Does.lets (g := 114) (d := 192) (t := true) rfl (by kernel_rfl) (by kernel_rfl) (fun vq wq h => h wq (Grows.refl wq)) fun lq aq wq hk hr K hK => ?_) ?_
                        · refine wp_of_call (f := 48) (vs := #[.int .i64 1, .int .i64 (-9223372036854775808), .int .i64 (-1), .int .i64 (-9223372036854775807)]) (by go_simp) (divs_v wq 1 ((-9223372036854775808)) ((-1)) ((-9223372036854775807)) (by decide) (by decide) (by decide) (by decide) (by decide) (by decide) (by decide) (by decide) (by decide) (by decide) (by decide)) ?_
                          rintro e w1 ⟨u, rfl, hu, hb⟩
                          exact ⟨u, rfl, hK.out _ _ hb (fun w2 h2 => hu) (fun h => absurd h (by decide))⟩
                        refine AllOps.cons (Does.plain rfl fun lq aq wq hk hr K hK => ?_) ?_
                        · obtain ⟨v114, E114, -, r114⟩ := hk.dep hr 114 192 (by kernel_rfl) (by kernel_rfl)
                          replace E114 : ev aq (.tmp 192) = .bool true := E114.trans (r114 wq (Grows.refl wq))
                          obtain ⟨v115, E115, -, r115⟩ := hk.dep hr 115 193 (by kernel_rfl) (by kernel_rfl)
                          replace E115 : ev aq (.tmp 193) = .bool true := E115.trans (r115 wq (Grows.refl wq))
                          exact wp_of_value (by go_simp) (hK.out _ _ (Grows.refl _) (fun w2 h2 => rfl) (fun h => absurd h (by decide)))
                        refine AllOps.cons (Does.plain rfl fun lq aq wq hk hr K hK => ?_) ?_
                        · obtain ⟨v116, E116, -, r116⟩ := hk.dep hr 116 194 (by kernel_rfl) (by kernel_rfl)
                          replace E116 : ev aq (.tmp 194) = .bool true := E116.trans (r116 wq (Grows.refl wq))
                          exact wp_of_value (by go_simp) (hK.out _ _ (Grows.refl _) (fun w2 h2 => rfl) (fun h => absurd h (by decide)))
                        refine AllOps.cons (Does.lets (g := 117) (d := 195) (t := true) rfl (by kernel_rfl) (by kernel_rfl) (fun vq wq h => h wq (Grows.refl wq)) fun lq aq wq hk hr K hK => ?_) ?_
                        · refine wp_of_call (f := 31) (vs := #[.int .i64 (-9223372036854775808)]) (by go_simp) (from_v wq ((-9223372036854775808)) (by decide) (by decide)) ?_
                          rintro e w1 ⟨u, rfl, hu, hb⟩
                          exact ⟨u, rfl, hK.out _ _ hb (fun w2 h2 => (hu).grow h2) (fun h => absurd h (by decide))⟩
                        refine AllOps.cons (Does.lets (g := 117) (d := 195) (t := true) rfl (by kernel_rfl) (by kernel_rfl) (fun vq wq h => h wq (Grows.refl wq)) fun lq aq wq hk hr K hK => ?_) ?_
                        · obtain ⟨v118, E118, -, r118⟩ := hk.dep hr 118 196 (by kernel_rfl) (by kernel_rfl)
                          have r118 : ZV wq v118 ((-9223372036854775808)) := r118 wq (Grows.refl wq)
                          refine wp_of_call (f := 30) (vs := #[v118]) (by go_simp) (neg_v wq (r118).wv (Nat.le_trans (szz_neg (szz_i64 (by decide) (by decide))) (by decide))) ?_
                          rintro e w1 ⟨u, rfl, hu, hb⟩
                          exact ⟨u, rfl, hK.out _ _ hb (fun w2 h2 => (hu).grow h2) (fun h => absurd h (by decide))⟩
                        refine AllOps.cons (Does.lets (g := 117) (d := 195) (t := true) rfl (by kernel_rfl) (by kernel_rfl) (fun vq wq h => h wq (Grows.refl wq)) fun lq aq wq hk hr K hK => ?_) ?_
                        · obtain ⟨v119, E119, -, r119⟩ := hk.dep hr 119 197 (by kernel_rfl) (by kernel_rfl)
                          have r119 : ZV wq v119 ((-(-9223372036854775808))) := r119 wq (Grows.refl wq)
                          refine wp_of_call (f := 47) (vs := #[v119, .string ⟨#[57, 50, 50, 51, 51, 55, 50, 48, 51, 54, 56, 53, 52, 55, 55, 53, 56, 48, 56]⟩]) (by go_simp) (is_v wq r119 ⟨#[57, 50, 50, 51, 51, 55, 50, 48, 51, 54, 56, 53, 52, 55, 55, 53, 56, 48, 56]⟩ (congrArg (fun l : List UInt8 => ByteArray.mk l.toArray) kt_63)) ?_
                          rintro e w1 ⟨u, rfl, hu, hb⟩
                          exact ⟨u, rfl, hK.out _ _ hb (fun w2 h2 => hu) (fun h => absurd h (by decide))⟩
                        refine AllOps.cons (Does.plain rfl fun lq aq wq hk hr K hK => ?_) ?_
                        · obtain ⟨v117, E117, -, r117⟩ := hk.dep hr 117 195 (by kernel_rfl) (by kernel_rfl)
                          replace E117 : ev aq (.tmp 195) = .bool true := E117.trans (r117 wq (Grows.refl wq))
                          obtain ⟨v120, E120, -, r120⟩ := hk.dep hr 120 198 (by kernel_rfl) (by kernel_rfl)
                          replace E120 : ev aq (.tmp 198) = .bool true := E120.trans (r120 wq (Grows.refl wq))
                          exact wp_of_value (by go_simp) (hK.out _ _ (Grows.refl _) (fun w2 h2 => rfl) (fun h => absurd h (by decide)))
                        exact AllOps.nil
                      case fin =>
                        intro V x18 hG hV hap
                        have r43 : (V 43) = .int .i64 0 := hV 43 (by decide)
                        have r121 : (V 121) = .bool true := hV 121 (by decide)
                        clear hV hap
                        simp only [List.append_eq, List.cons_append, List.nil_append, List.take_succ_cons, List.take_zero, List.drop_succ_cons, List.drop_zero, putAll, Act.put, List.setIfInBounds_toArray, List.set_cons_zero, List.set_cons_succ]
                        have hb := grows_of hG
                        replace Do := Lib.hid (Box2.below Do.out hb)
                        replace So := Lib.hid (So.out.below hb)
                        replace Dz := Lib.hid (Box2.below Dz.out hb)
                        replace Sz := Lib.hid (Sz.out.below hb)
                        replace NO := Lib.hid (NO.out.below hb)
                        replace NZ := Lib.hid (NZ.out.below hb)
                        replace HB := Lib.hid (HB.out.trans (Below.mono hb HB.out.size))
                        rw [r121]
                        clear r121 hb hG
                        go_wp2_with fail
                        go_ret
                        exact ⟨rfl, HB.out⟩
end Go.Proofs.YtmajcjdhhnhmmaaDoor
