import Derived.Test.YtdmghakmhfhpiaaDoorShared
import Derived.Deep.CutRange
import Derived.BigRegion
import Derived.RegionTactic
/- litmuslaw01.NatShares returns true. -/
namespace Go.Proofs.YtdmghakmhfhpiaaDoor
open Go.RowKit Go.Num
attribute [local go_sem] Oper.semAt_some u64_mask
set_option maxHeartbeats 16000000 in
set_option maxRecDepth 100000 in
theorem natShares_any (w : World) (va vb : Value) (la lb : List Nat) (ha : Arg encU w va la) (hla : Lim la) (hna : la.length ≤ 9223372036854775807) (hb : Arg encU w vb lb) (hlb : Lim lb) (hnb : lb.length ≤ 9223372036854775807) :
    Calls Tryd.prog 12 #[va, vb] w fun e w' => e = .returned (.bool true) ∧ Below w.heap.size w w' := by
  obtain ⟨i0, hi, hz0, hz1, hz2⟩ := info_parts infoU
  go_enter Tryd.func12, Tryd.ntmps12
  have HB : Below w.heap.size w w := Below.refl _ _
  go_wp2_with fail
  refine (works_any _).mono ?_
  rintro e w0 ⟨rfl, hq⟩
  replace ha := ha.below hq
  replace hb := hb.below hq
  replace HB := HB.trans (hq.mono HB.size)
  clear hq
  go_wp2_with fail
  refine (few_any _ _ la 10 ha (by decide) hna).mono ?_
  rintro e w9 ⟨ua, rfl, hw9, ga⟩
  subst w9
  obtain ⟨a, ax, al9, na, ka⟩ : ∃ y x, x.length ≤ 10 ∧ Num w0 ua x y ∧ sz y ≤ 10 := ⟨_, _, by rw [List.length_take]; omega, num_few ga hla (by decide), sz_few 10 hla⟩
  clear ga ha hla hna
  go_wp2_with fail
  refine (few_any _ _ lb 10 hb (by decide) hnb).mono ?_
  rintro e w9 ⟨ub, rfl, hw9, gb⟩
  subst w9
  obtain ⟨b, bx, bl9, nb, kb⟩ : ∃ y x, x.length ≤ 10 ∧ Num w0 ub x y ∧ sz y ≤ 10 := ⟨_, _, by rw [List.length_take]; omega, num_few gb hlb (by decide), sz_few 10 hlb⟩
  clear gb hb hlb hnb
  go_upto_region 4 with fail
  go_cut [5, 6] from 22 to 27 (fun xv yv wx => Arg encU wx xv ax ∧ Arg encU wx yv bx ∧ Below w0.heap.size w0 wx)
  case first =>
    obtain ⟨A, ac, rfl, _, har⟩ := na.arg.open_
    obtain ⟨B, bc, rfl, _, hbr⟩ := nb.arg.open_
    clear na nb
    cases A with
    | none =>
      have ha0 := nil_of har
      subst ha0
      cases B with
      | none =>
        have hb0 := nil_of hbr
        subst hb0
        go_wp2_with fail
        go_meet
        case rel => exact ⟨Arg.nil_ _ _ _ _, Arg.nil_ _ _ _ _, ((Below.refl _ w0).alloc (Nat.le_refl _) _).alloc (by simp) _⟩
      | some b1 =>
        have bnews := news_of hbr
        have bbel : Below w0.heap.size w0 (w0.alloc (.cells #[] 39)) := (Below.refl _ w0).alloc (Nat.le_refl _) _
        go_wp2_with (at_builtin; refine wpList_append_own _ rfl _ _ 22 rfl (w0.alloc (.cells #[] 39)).heap.size 39 i0 (.int .u32 0) 1 4 Tryd.underlying22 hi hz0 hz1 hz2 rfl (by decide) _ _ _ rfl (made_at (w0.alloc (.cells #[] 39)) (w0.heap.size + 1) (size_alloc _ _).symm) b1 bx.length bc (bx.map encU) rfl ?qb1 ?qb2 ?qb3 ?qb4 ?qb5 ?qb6 ?_)
        case qb1 => simp
        case qb2 => exact bnews (w0.alloc (.cells #[] 39)) bbel
        case qb3 => intro u hu; simp at hu; obtain ⟨x, _, rfl⟩ := hu; rfl
        case qb4 => unfold maxLen; omega
        case qb5 => omega
        case qb6 => simp
        intro v2 w2 hown2 hgrow2 _
        have hb2 : Below (w0.alloc (.cells #[] 39)).heap.size (w0.alloc (.cells #[] 39)) w2 := ((Below.refl _ (w0.alloc (.cells #[] 39))).alloc (Nat.le_refl _) _).grown hgrow2 (by simp) (by intro k hk; simp [Value.ownBlock] at hk; first | omega | (simp; omega))
        have har2 : Arg encU w2 v2 bx := ownsRow_arg (enc := encU) (l := bx) (by simpa using hown2)
        clear hown2 hgrow2
        go_wp2_with fail
        go_meet
        case rel => exact ⟨Arg.nil_ _ _ _ _, har2, bbel.trans (hb2.mono bbel.size)⟩
    | some a1 =>
      have anews := news_of har
      have abel := Below.refl w0.heap.size w0
      go_wp2_with (at_builtin; refine wpList_append_own _ rfl _ _ 22 rfl w0.heap.size 39 i0 (.int .u32 0) 1 4 Tryd.underlying22 hi hz0 hz1 hz2 rfl (by decide) _ _ _ rfl (World.ownsRow_made w0 #[] 0 (Nat.le_refl _) (Nat.zero_le _) (by simp)) a1 ax.length ac (ax.map encU) rfl ?qa1 ?qa2 ?qa3 ?qa4 ?qa5 ?qa6 ?_)
      case qa1 => simp
      case qa2 => exact anews w0 abel
      case qa3 => intro u hu; simp at hu; obtain ⟨x, _, rfl⟩ := hu; rfl
      case qa4 => unfold maxLen; omega
      case qa5 => omega
      case qa6 => simp
      intro v1 w1 hown1 hgrow1 _
      have hb1 : Below w0.heap.size w0 w1 := ((Below.refl _ w0).alloc (Nat.le_refl _) _).grown hgrow1 (by simp) (by intro k hk; simp [Value.ownBlock] at hk; first | omega | (simp; omega))
      have har1 : Arg encU w1 v1 ax := ownsRow_arg (enc := encU) (l := ax) (by simpa using hown1)
      clear hown1 hgrow1
      cases B with
      | none =>
        have hb0 := nil_of hbr
        subst hb0
        go_wp2_with fail
        go_meet
        case rel => exact ⟨har1.alloc _, Arg.nil_ _ _ _ _, hb1.alloc hb1.size _⟩
      | some b1 =>
        have bnews := news_of hbr
        have bbel := hb1
        go_wp2_with (at_builtin; refine wpList_append_own _ rfl _ _ 22 rfl w1.heap.size 39 i0 (.int .u32 0) 1 4 Tryd.underlying22 hi hz0 hz1 hz2 rfl (by decide) _ _ _ rfl (World.ownsRow_made w1 #[] 0 (Nat.le_refl _) (Nat.zero_le _) (by simp)) b1 bx.length bc (bx.map encU) rfl ?qb1 ?qb2 ?qb3 ?qb4 ?qb5 ?qb6 ?_)
        case qb1 => simp
        case qb2 => exact bnews w1 bbel
        case qb3 => intro u hu; simp at hu; obtain ⟨x, _, rfl⟩ := hu; rfl
        case qb4 => unfold maxLen; omega
        case qb5 => omega
        case qb6 => simp
        intro v2 w2 hown2 hgrow2 _
        have hb2 : Below w1.heap.size w1 w2 := ((Below.refl _ w1).alloc (Nat.le_refl _) _).grown hgrow2 (by simp) (by intro k hk; simp [Value.ownBlock] at hk; first | omega | (simp; omega))
        have har2 : Arg encU w2 v2 bx := ownsRow_arg (enc := encU) (l := bx) (by simpa using hown2)
        clear hown2 hgrow2
        go_wp2_with fail
        go_meet
        case rel => exact ⟨har1.below hb2, har2, bbel.trans (hb2.mono bbel.size)⟩
  case rest =>
    obtain ⟨hx, hy, hb9⟩ := hcut
    have nx : Num wc u5 ax a := ⟨hx, na.lim, na.len, na.val⟩
    have ny : Num wc u6 bx b := ⟨hy, nb.lim, nb.len, nb.val⟩
    have nx0 := nx
    have ny0 := ny
    replace na := na.below hb9
    replace nb := nb.below hb9
    have HBw := HB.trans (hb9.mono HB.size)
    have HC := Below.refl wc.heap.size wc
    have hsa := Nat.le_trans (sz_num nx) nx.len
    clear hx hy hb9 HB hi hz0 hz1 hz2
    go_wp2_with fail
    refine (sub_row _ _ _ _ _ a b nx ny).mono ?_
    rintro e w1 ⟨v1, t1, l1, rfl, g1, m1⟩
    have hq := g1.below
    have r1 := (RowU.of_gives g1 m1).wider HC.size (Nat.le_refl _)
    replace nx := nx.below hq
    replace ny := ny.below hq
    replace HC := HC.trans (hq.mono HC.size)
    clear hq g1 m1
    go_wp2_with fail
    refine (div_row _ _ _ _ _ a b nx ny).mono ?_
    rintro e w2 ⟨v2, v3, cz, l2, l3, rfl, g2, g3, m2, m3⟩
    have hq := g3.below
    have r2 := (RowU.of_gives g2 m2).wider HC.size (Nat.le_refl _)
    have r3 := (RowU.of_gives g3 m3).wider HC.size (Nat.le_refl _)
    replace r1 := (r1.kept fun k hk => hq.block k hk).wider (Nat.le_refl _) hq.size
    replace nx := nx.below hq
    replace ny := ny.below hq
    replace HC := HC.trans (hq.mono HC.size)
    clear hq g2 g3 m2 m3
    go_wp2_with fail
    refine (trim_num _ _ _ a nx).mono ?_
    rintro e w3 ⟨v4, rfl, g4⟩
    have hq := g4.below
    have r4 := (RowU.of_gives g4 (limbs_lim _)).wider HC.size (Nat.le_refl _)
    replace r1 := (r1.kept fun k hk => hq.block k hk).wider (Nat.le_refl _) hq.size
    replace r2 := (r2.kept fun k hk => hq.block k hk).wider (Nat.le_refl _) hq.size
    replace r3 := (r3.kept fun k hk => hq.block k hk).wider (Nat.le_refl _) hq.size
    replace nx := nx.below hq
    replace ny := ny.below hq
    replace HC := HC.trans (hq.mono HC.size)
    clear hq g4
    go_wp2_with fail
    refine (add_any _ _ _ _ _ a b nx ny).mono ?_
    rintro e w4 ⟨v5, rfl, g5⟩
    have hq := g5.below
    have r5 := (RowU.of_gives g5 (limbs_lim _)).wider HC.size (Nat.le_refl _)
    replace r1 := (r1.kept fun k hk => hq.block k hk).wider (Nat.le_refl _) hq.size
    replace r2 := (r2.kept fun k hk => hq.block k hk).wider (Nat.le_refl _) hq.size
    replace r3 := (r3.kept fun k hk => hq.block k hk).wider (Nat.le_refl _) hq.size
    replace r4 := (r4.kept fun k hk => hq.block k hk).wider (Nat.le_refl _) hq.size
    replace nx := nx.below hq
    replace ny := ny.below hq
    replace HC := HC.trans (hq.mono HC.size)
    clear hq g5
    go_wp2_with fail
    refine (add_any _ _ _ _ _ a 0 nx (num_nil _ _)).mono ?_
    rintro e w5 ⟨v6, rfl, g6⟩
    have hq := g6.below
    have r6 := (RowU.of_gives g6 (limbs_lim _)).wider HC.size (Nat.le_refl _)
    replace r1 := (r1.kept fun k hk => hq.block k hk).wider (Nat.le_refl _) hq.size
    replace r2 := (r2.kept fun k hk => hq.block k hk).wider (Nat.le_refl _) hq.size
    replace r3 := (r3.kept fun k hk => hq.block k hk).wider (Nat.le_refl _) hq.size
    replace r4 := (r4.kept fun k hk => hq.block k hk).wider (Nat.le_refl _) hq.size
    replace r5 := (r5.kept fun k hk => hq.block k hk).wider (Nat.le_refl _) hq.size
    replace nx := nx.below hq
    replace ny := ny.below hq
    replace HC := HC.trans (hq.mono HC.size)
    clear hq g6
    go_wp2_with fail
    refine (mul_any _ _ _ _ _ a b nx ny).mono ?_
    rintro e w6 ⟨v7, rfl, g7⟩
    have hq := g7.below
    have r7 := (RowU.of_gives g7 (limbs_lim _)).wider HC.size (Nat.le_refl _)
    replace r1 := (r1.kept fun k hk => hq.block k hk).wider (Nat.le_refl _) hq.size
    replace r2 := (r2.kept fun k hk => hq.block k hk).wider (Nat.le_refl _) hq.size
    replace r3 := (r3.kept fun k hk => hq.block k hk).wider (Nat.le_refl _) hq.size
    replace r4 := (r4.kept fun k hk => hq.block k hk).wider (Nat.le_refl _) hq.size
    replace r5 := (r5.kept fun k hk => hq.block k hk).wider (Nat.le_refl _) hq.size
    replace r6 := (r6.kept fun k hk => hq.block k hk).wider (Nat.le_refl _) hq.size
    replace nx := nx.below hq
    replace ny := ny.below hq
    replace HC := HC.trans (hq.mono HC.size)
    clear hq g7
    go_wp2_with fail
    refine (gcd_any _ _ _ _ _ a b nx ny).mono ?_
    rintro e w7 ⟨v8, rfl, g8⟩
    have hq := g8.below
    have r8 := (RowU.of_gives g8 (limbs_lim _)).wider HC.size (Nat.le_refl _)
    replace r1 := (r1.kept fun k hk => hq.block k hk).wider (Nat.le_refl _) hq.size
    replace r2 := (r2.kept fun k hk => hq.block k hk).wider (Nat.le_refl _) hq.size
    replace r3 := (r3.kept fun k hk => hq.block k hk).wider (Nat.le_refl _) hq.size
    replace r4 := (r4.kept fun k hk => hq.block k hk).wider (Nat.le_refl _) hq.size
    replace r5 := (r5.kept fun k hk => hq.block k hk).wider (Nat.le_refl _) hq.size
    replace r6 := (r6.kept fun k hk => hq.block k hk).wider (Nat.le_refl _) hq.size
    replace r7 := (r7.kept fun k hk => hq.block k hk).wider (Nat.le_refl _) hq.size
    replace nx := nx.below hq
    replace ny := ny.below hq
    replace HC := HC.trans (hq.mono HC.size)
    clear hq g8
    go_wp2_with fail
    refine (gcd_any _ _ _ _ _ a 0 nx (num_nil _ _)).mono ?_
    rintro e w8 ⟨v9, rfl, g9⟩
    have hq := g9.below
    have r9 := (RowU.of_gives g9 (limbs_lim _)).wider HC.size (Nat.le_refl _)
    replace r1 := (r1.kept fun k hk => hq.block k hk).wider (Nat.le_refl _) hq.size
    replace r2 := (r2.kept fun k hk => hq.block k hk).wider (Nat.le_refl _) hq.size
    replace r3 := (r3.kept fun k hk => hq.block k hk).wider (Nat.le_refl _) hq.size
    replace r4 := (r4.kept fun k hk => hq.block k hk).wider (Nat.le_refl _) hq.size
    replace r5 := (r5.kept fun k hk => hq.block k hk).wider (Nat.le_refl _) hq.size
    replace r6 := (r6.kept fun k hk => hq.block k hk).wider (Nat.le_refl _) hq.size
    replace r7 := (r7.kept fun k hk => hq.block k hk).wider (Nat.le_refl _) hq.size
    replace r8 := (r8.kept fun k hk => hq.block k hk).wider (Nat.le_refl _) hq.size
    replace nx := nx.below hq
    replace ny := ny.below hq
    replace HC := HC.trans (hq.mono HC.size)
    clear hq g9
    have q1 := r1
    obtain ⟨A1, m1, c1, rfl, _, _⟩ := q1
    have q2 := r2
    obtain ⟨A2, m2, c2, rfl, _, _⟩ := q2
    have q3 := r3
    obtain ⟨A3, m3, c3, rfl, _, _⟩ := q3
    have q4 := r4
    obtain ⟨A4, m4, c4, rfl, _, _⟩ := q4
    have q5 := r5
    obtain ⟨A5, m5, c5, rfl, _, _⟩ := q5
    have q6 := r6
    obtain ⟨A6, m6, c6, rfl, _, _⟩ := q6
    have q7 := r7
    obtain ⟨A7, m7, c7, rfl, _, _⟩ := q7
    have q8 := r8
    obtain ⟨A8, m8, c8, rfl, _, _⟩ := q8
    have q9 := r9
    obtain ⟨A9, m9, c9, rfl, _, _⟩ := q9
    go_wp2_with fail
    refine (add_any _ _ _ _ _ a b (nx.alloc _) (ny.alloc _)).mono ?_
    rintro e w9 ⟨vs, rfl, gs⟩
    have hB9 := ((HC.alloc HC.size (.cells #[.slice A4 m4 c4, .slice A5 m5 c5, .slice A6 m6 c6, .slice A7 m7 c7, .slice A8 m8 c8, .slice A9 m9 c9, .slice A1 m1 c1, .slice A2 m2 c2, .slice A3 m3 c3] 22)).trans (gs.below.mono (Nat.le_trans HC.size (by simp))))
    have hall0 : ∀ j v, [Value.slice A4 m4 c4, .slice A5 m5 c5, .slice A6 m6 c6, .slice A7 m7 c7, .slice A8 m8 c8, .slice A9 m9 c9, .slice A1 m1 c1, .slice A2 m2 c2, .slice A3 m3 c3][j]? = some v → w9.cell? ⟨w8.heap.size, j, none⟩ = some v := fun j v hj => by
      have h1 : (w8.alloc (.cells #[.slice A4 m4 c4, .slice A5 m5 c5, .slice A6 m6 c6, .slice A7 m7 c7, .slice A8 m8 c8, .slice A9 m9 c9, .slice A1 m1 c1, .slice A2 m2 c2, .slice A3 m3 c3] 22)).cell? ⟨w8.heap.size, j, none⟩ = some v := by
        rw [cell_of_row _ _ _ _ _ _ (heap_alloc_new w8 _)]; simpa using hj
      exact (gs.below.cell (World.block_lt_of_cell? _ _ h1)).trans h1
    have hkeep : ∀ k, k < w8.heap.size → w9.heap[k]? = w8.heap[k]? := fun k hk => (gs.below.block k (by simp; omega)).trans (Below.heap_alloc w8 _ k hk)
    have hrows : ∀ v ∈ [Value.slice A4 m4 c4, .slice A5 m5 c5, .slice A6 m6 c6, .slice A7 m7 c7, .slice A8 m8 c8, .slice A9 m9 c9, .slice A1 m1 c1, .slice A2 m2 c2, .slice A3 m3 c3], RowU wc.heap.size w8.heap.size w9 v := by
      intro v hv
      simp only [List.mem_cons, List.mem_nil_iff, or_false] at hv
      rcases hv with rfl | rfl | rfl | rfl | rfl | rfl | rfl | rfl | rfl
      · exact r4.kept hkeep
      · exact r5.kept hkeep
      · exact r6.kept hkeep
      · exact r7.kept hkeep
      · exact r8.kept hkeep
      · exact r9.kept hkeep
      · exact r1.kept hkeep
      · exact r2.kept hkeep
      · exact r3.kept hkeep
    have hfar : Far (w8.heap.size + 1) vs := fun ad n c ev => by
      subst ev
      have := (World.ownsRow.lt gs.own ad.block (by rcases gs.own.2 with ⟨e0, _⟩ | ⟨g, cap, cur, e0, _⟩ <;> cases e0; rfl)).1
      simpa using this
    have harg := gs.arg
    obtain ⟨C, hC⟩ : ∃ C, C = w8.heap.size := ⟨_, rfl⟩
    have hCB : wc.heap.size ≤ C := by rw [hC]; exact HC.size
    rw [← hC] at hall0 hrows hfar
    obtain ⟨L, hL⟩ : ∃ L, L = [Value.slice A4 m4 c4, .slice A5 m5 c5, .slice A6 m6 c6, .slice A7 m7 c7, .slice A8 m8 c8, .slice A9 m9 c9, .slice A1 m1 c1, .slice A2 m2 c2, .slice A3 m3 c3] := ⟨_, rfl⟩
    have hLn : L.length = 9 := by rw [hL]; rfl
    rw [← hL] at hall0 hrows
    have HI0 := Lib.hid (And.intro hall0 (And.intro hrows (And.intro harg hB9)))
    have HLN := Lib.hid hLn
    clear hall0 hkeep hrows harg hB9 gs HC nx ny r1 r2 r3 r4 r5 r6 r7 r8 r9 hL hLn
    go_wp2_with fail
    rw [← hC]
    have HCe := Lib.hid hC
    clear hC
    go_loopw [14] (fun iv wr => ∃ i : Nat, i ≤ 9 ∧ iv = .int .i64 i ∧ Hid ((∀ j v, L[j]? = some v → wr.cell? ⟨C, j, none⟩ = some v) ∧ (∀ v ∈ L, RowU wc.heap.size C wr v) ∧ Arg encU wr vs (limbs (a + b)) ∧ Below wc.heap.size wc wr)) (fun iv _ => 9 - (intOf iv).toNat)
    case atStart => exact ⟨0, by decide, rfl, HI0⟩
    case round =>
      obtain ⟨i, hi9, rfl, HI⟩ := hrel
      by_cases hlt : i < 9
      · obtain ⟨v, hv⟩ := get_some (l := L) (k := i) (by have := HLN.out; omega)
        have hcv := HI.out.1 i v hv
        have HV := Lib.hid hv
        obtain ⟨A, n, c, rfl, hn9, _⟩ := HI.out.2.1 v (List.mem_of_getElem? hv)
        clear hv
        go_wp2_with fail
        go_loopw [15] (fun kv wr => ∃ k : Nat, k ≤ n ∧ kv = .int .i64 k ∧ Hid ((∀ j v, L[j]? = some v → wr.cell? ⟨C, j, none⟩ = some v) ∧ (∀ v ∈ L, RowU wc.heap.size C wr v) ∧ Arg encU wr vs (limbs (a + b)) ∧ Below wc.heap.size wc wr)) (fun kv _ => n - (intOf kv).toNat)
        case atStart => exact ⟨0, Nat.zero_le _, rfl, HI⟩
        case round =>
          clear HI hcv
          obtain ⟨k, hkn, rfl, HI⟩ := hrel
          have hcv := HI.out.1 i _ HV.out
          by_cases hk : k < n
          · obtain ⟨A', n', c', e, _, h0 | ⟨g, cur, eA, hg, hgC, hc, hx⟩⟩ := HI.out.2.1 _ (List.mem_of_getElem? HV.out)
            · exfalso
              cases e
              omega
            · cases e
              subst eA
              obtain ⟨z, hz, hz2⟩ := hx k hk
              have hcz : wr.cell? ⟨g, k, none⟩ = some (.int .u32 (z : Int)) := by rw [cell_of_row _ _ _ _ _ _ hc]; exact hz
              have hfz : wr.frozen? ⟨g, k, none⟩ = false := by simp [World.frozen?, hc]
              obtain ⟨z', hz', hzl⟩ : ∃ z' : Nat, IntKind.u32.wrap ((z : Int) + 1) = (z' : Int) ∧ z' < 4294967296 := ⟨(z + 1) % 4294967296, by rw [IntKind.wrap_u32]; omega, Nat.mod_lt _ (by decide)⟩
              have HG := Lib.hid (And.intro hg hgC)
              clear hc hx hz hg hgC
              go_wp2_with fail
              go_region
              all_goals (go_wp2_with fail; go_roundw)
              case rel =>
                obtain ⟨f1, f2, f3, f4⟩ := HI.out
                refine ⟨k + 1, by omega, by go_num, ?_, ?_, ?_, ?_⟩
                · intro j v hj
                  have h1 := f1 j v hj
                  show (wr.setCell ⟨g, k, none⟩ (.int .u32 (z' : Int))).cell? ⟨C, j, none⟩ = some v
                  rw [World.cell?_setCell_far _ _ _ _ (by show g ≠ C; have := HG.out.2; omega)]
                  exact h1
                · exact fun v hv => (f2 v hv).set z' hzl
                · exact (Arg.setFar f3 hfar (Nat.lt_succ_of_lt HG.out.2)).keep fun _ _ => rfl
                · exact (f4.setCell (p := ⟨g, k, none⟩) HG.out.1 _).drew
              case measure => simp [intOf]; omega
          · go_wp2_with fail
            go_roundw
            case rel => exact ⟨i + 1, by omega, by go_num, HI⟩
            case measure => simp [intOf]; omega
      · have hB := HI.out.2.2.2
        have nsum := num_of' HI.out.2.2.1 (Nat.le_trans (sz_add_le (i := 10) (j := 10) ka kb) (by decide))
        have n1 := nx0.below hB
        have n2 := ny0.below hB
        have n3 := na.below hB
        have n4 := nb.below hB
        have hB2 := HBw.trans (hB.mono HBw.size)
        clear nx0 ny0 na nb HI HI0 HBw
        go_wp2_with fail
        refine (same_yes _ _ _ _ _ n1 n3 rfl).mono ?_
        rintro e x1 ⟨rfl, hq⟩
        replace n1 := n1.below hq
        replace n2 := n2.below hq
        replace n4 := n4.below hq
        replace nsum := nsum.below hq
        replace hB2 := hB2.trans (hq.mono hB2.size)
        clear hq n3
        go_wp2_with fail
        refine (same_yes _ _ _ _ _ n2 n4 rfl).mono ?_
        rintro e x2 ⟨rfl, hq⟩
        replace n1 := n1.below hq
        replace n2 := n2.below hq
        replace nsum := nsum.below hq
        replace hB2 := hB2.trans (hq.mono hB2.size)
        clear hq n4
        go_wp2_with fail
        refine (add_any _ _ _ _ _ a b n1 n2).mono ?_
        rintro e x3 ⟨v11, rfl, g11⟩
        have hq := g11.below
        have n5 := g11.num (Nat.le_trans (sz_add_le (i := 10) (j := 10) ka kb) (by decide))
        replace nsum := nsum.below hq
        replace hB2 := hB2.trans (hq.mono hB2.size)
        clear hq n1 n2 g11
        go_wp2_with fail
        refine (sub2_any _ _ _ nsum.arg (Nat.le_trans nsum.len (by decide))).mono ?_
        rintro e x4 ⟨v12, rfl, g12, hq⟩
        replace n5 := n5.below hq
        replace hB2 := hB2.trans (hq.mono hB2.size)
        have n6 : Num x4 v12 (limbs (a + b)) (a + b) := ⟨g12, nsum.lim, nsum.len, nsum.val⟩
        clear hq nsum g12
        go_wp2_with fail
        refine (same_yes _ _ _ _ _ n5 n6 rfl).mono ?_
        rintro e x5 ⟨rfl, hq⟩
        replace hB2 := hB2.trans (hq.mono hB2.size)
        go_wp2_with fail
        go_ret
        exact ⟨rfl, hB2⟩

end Go.Proofs.YtdmghakmhfhpiaaDoor
