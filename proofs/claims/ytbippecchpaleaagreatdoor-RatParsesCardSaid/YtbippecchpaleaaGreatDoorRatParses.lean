import Derived.BigRegion
import Derived.RegionTactic
import Derived.Test.YtbippecchpaleaaGreatDoorRefQ9
import Derived.Test.YtbippecchpaleaaGreatDoorGRatF
import Derived.Test.YtbippecchpaleaaGreatDoorGTx
/- litmuslaw03.RatParses returns true. -/
namespace Go.Proofs.YtbippecchpaleaaGreatDoor
open Go.RowKit Go.Num Go.Kp
attribute [local go_sem] Oper.semAt_some u64_mask ev_const ev_func ev_global
theorem qtext_sz {q : Rat} (h : (qtext q).length ≤ 200) : Qsz q 100 := by
  by_cases hd : q.den = 1
  · rw [qtext_one hd] at h
    exact ⟨ztext_sz h, by rw [hd]; exact sz_le (by decide)⟩
  · rw [qtext_far hd, List.length_append, List.length_cons] at h
    exact ⟨ztext_sz (by omega), dec_sz (by omega)⟩
theorem readsQ_any {l : List UInt8} (hl : l.length ≤ 200) : ∃ q t, ReadsQ l q t := by
  by_cases h : ∃ q, l = qtext q
  · obtain ⟨q, rfl⟩ := h
    exact ⟨q, true, .inl ⟨rfl, rfl, qtext_sz hl⟩⟩
  · exact ⟨0, false, .inr ⟨rfl, rfl, fun q e => h ⟨q, e⟩⟩⟩
theorem rqparse_t (w : World) {l : List UInt8} {q : Rat} (hQ : ReadsQ l q true) (hl : l.length ≤ 200) : Calls Tryz.prog 46 #[.string ⟨l.toArray⟩] w fun e w' => ∃ y, e = .returned y ∧ (∃ x, y = .tuple #[x, .bool true] ∧ RV w' x q) ∧ Grows w w' := by
  refine (rqparse_w w hQ hl rfl rfl).mono ?_
  rintro e w1 ⟨y, rfl, ⟨x, rfl, _, h⟩, g⟩
  exact ⟨_, rfl, ⟨x, rfl, h rfl⟩, g⟩
theorem rqparse_f (w : World) {l : List UInt8} {q : Rat} (hQ : ReadsQ l q false) (hl : l.length ≤ 200) : Calls Tryz.prog 46 #[.string ⟨l.toArray⟩] w fun e w' => ∃ y, e = .returned y ∧ (∃ x, y = .tuple #[x, .bool false] ∧ QV w' x q) ∧ Grows w w' := by
  refine (rqparse_w w hQ hl rfl rfl).mono ?_
  rintro e w1 ⟨y, rfl, ⟨x, rfl, h, _⟩, g⟩
  exact ⟨_, rfl, ⟨x, rfl, h⟩, g⟩
theorem ext_take (l : List UInt8) (k : Nat) : (ByteArray.mk l.toArray).extract 0 (min l.length k) = ⟨(l.take k).toArray⟩ := by
  apply ByteArray.ext
  simp [ByteArray.data_extract, Nat.min_comm]
theorem idx_pair (u v : List UInt8) (i : Fin 2) (w : World) : (Instr.index 53 (.agg #[.string ⟨u.toArray⟩, .string ⟨v.toArray⟩]) (.int .i64 (i.val : Int))).run Tryz.prog w = .ok (.string ⟨(if i.val = 0 then u else v).toArray⟩) w := by
  have h : Tryz.prog.underlying 53 = some (.array 2 9) := Tryz.underlying53
  rcases i with ⟨k, hk⟩
  have : k = 0 ∨ k = 1 := by omega
  rcases this with rfl | rfl <;> simp [Instr.index, run_underlying h, asIntOf, part, go_sem]
theorem DRow.arg {w : World} {g n c : Nat} {D : List UInt8} (h : DRow w g n D) (hc : n ≤ c) : Arg encY w (.slice (some ⟨g, 0, none⟩) n c) D :=
  ⟨_, c, by rw [h.len], by rw [h.len]; exact hc, fun _ => ⟨g, 0, rfl, fun j x hj => by rw [Nat.zero_add]; exact h.cell hj⟩⟩
set_option maxHeartbeats 8000000 in
set_option maxRecDepth 60000 in
theorem ratParses_any (w : World) (l : List UInt8) (x y : Nat) (hlen : HasLen w) (hl : l.length ≤ 9223372036854775807) (hx : x < 256) (hy : y < 256) :
    Calls Tryz.prog 6 #[.string ⟨l.toArray⟩, .agg #[.int .u8 x, .int .u8 y]] w fun e w' => e = .returned (.bool true) ∧ Below w.heap.size w w' := by
  have HL := Lib.hid hlen
  clear hlen
  have hsz : (ByteArray.mk l.toArray).size = l.length := by show l.toArray.size = _; simp
  have hext := ext_take l 60
  obtain ⟨D, hD⟩ : ∃ D, D = l.take 60 := ⟨_, rfl⟩
  have hDn : D.length ≤ 60 := by rw [hD, List.length_take]; omega
  rw [← hD] at hext
  obtain ⟨m, hm⟩ : ∃ m, m = min l.length 60 := ⟨_, rfl⟩
  have hmi : min (l.length : Int) 60 = (m : Int) := by omega
  have hml : m ≤ l.length := by omega
  rw [← hm] at hext
  clear hm
  obtain ⟨n, hn⟩ : ∃ n, D.length = n := ⟨_, rfl⟩
  rw [hn] at hDn
  obtain ⟨W1, hW1⟩ : ∃ W1, W1 = w.alloc (.cells #[.int .u8 (x : Int), .int .u8 (y : Int)] 51) := ⟨_, rfl⟩
  obtain ⟨W2, hW2⟩ : ∃ W2, W2 = textRow W1 D := ⟨_, rfl⟩
  obtain ⟨c, hc⟩ : ∃ c, c = grownCap W1 n 0 5 := ⟨_, rfl⟩
  have hs1 : W1.heap.size = w.heap.size + 1 := by rw [hW1, World.size_alloc]
  have hcv : (convert 9 52 (.string ⟨D.toArray⟩)).run Tryz.prog (w.alloc (.cells #[.int .u8 (x : Int), .int .u8 (y : Int)] 51)) = .ok (.slice (some ⟨w.heap.size + 1, 0, none⟩) n c) W2 := by
    have h1 := conv_text W1 D
    rw [hn, ← hW2, hs1, ← hc, hW1] at h1
    exact h1
  have hnc : n ≤ c := by rw [hc]; exact grownCap_ge _ _ _ _
  have hrow : DRow W2 (w.heap.size + 1) n D := by
    have h1 := textRow_row W1 D
    rwa [hn, ← hW2, hs1] at h1
  have hb12 : Below W1.heap.size W1 W2 := by rw [hW2]; exact textRow_below W1 D
  have hB2 : Below w.heap.size w W2 := ((Below.refl _ w).alloc (Nat.le_refl _) _).trans (by rw [← hW1]; exact hb12.mono (by omega))
  have hx1 : W1.cell? ⟨w.heap.size, 0, none⟩ = some (.int .u8 (x : Int)) := by rw [hW1, cell_of_row _ _ _ _ _ _ (heap_alloc_new w _)]; rfl
  have hy1 : W1.cell? ⟨w.heap.size, 1, none⟩ = some (.int .u8 (y : Int)) := by rw [hW1, cell_of_row _ _ _ _ _ _ (heap_alloc_new w _)]; rfl
  have hx2 := (hb12.cell (by show w.heap.size < W1.heap.size; omega)).trans hx1
  have hy2 := (hb12.cell (by show w.heap.size < W1.heap.size; omega)).trans hy1
  have HLD := Lib.hid (show D.length ≤ 60 by omega)
  have HN := Lib.hid hn
  clear hD hn hW1 hW2 hc hs1 hb12 hx1 hy1
  go_enter Tryz.func6, Tryz.ntmps6
  go_upto_if 21 with fail
  go_cut [] from 12 (fun wx => ∃ E : List UInt8, E.length ≤ 60 ∧ Arg encY wx (.slice (some ⟨w.heap.size + 1, 0, none⟩) n c) E ∧ Below w.heap.size w wx)
  case first =>
    rcases Nat.eq_zero_or_pos n with h0 | h0
    · subst h0
      go_wp2_with fail
      go_meet
      exact ⟨[], by decide, Arg.nil_ _ _ _ _, hB2⟩
    · obtain ⟨j, hj⟩ : ∃ j, j = x % n := ⟨_, rfl⟩
      have hji : (x : Int) % (n : Int) = (j : Int) := by rw [hj]; simp
      have hjn : j < n := by rw [hj]; exact Nat.mod_lt _ h0
      obtain ⟨z, hz⟩ := get_some (l := D) (k := j) (by have := HN.out; omega)
      have hcz := hrow.cell hz
      have hfz := hrow.free hjn
      have HZ := Lib.hid hj
      have HR := Lib.hid hrow
      clear hj hz hrow
      go_wp2_with fail
      go_region
      obtain ⟨b, hb⟩ : ∃ b : UInt8, encY b = .int .u8 (y : Int) := ⟨UInt8.ofNat y, by show Value.int .u8 ((UInt8.ofNat y).toNat : Int) = _; rw [UInt8.toNat_ofNat']; congr 2; omega⟩
      have hrow3 := (HR.out.set j b).drew
      rw [hb] at hrow3
      have hB3 := (hB2.setCell (p := ⟨w.heap.size + 1, j, none⟩) (by show w.heap.size ≤ w.heap.size + 1; omega) (.int .u8 (y : Int))).drew
      generalize (W2.setCell ⟨w.heap.size + 1, j, none⟩ (.int .u8 (y : Int))).drew = w3 at hrow3 hB3 ⊢
      obtain ⟨E, hE⟩ : ∃ E, E = D.set j b := ⟨_, rfl⟩
      rw [← hE] at hrow3
      go_wp2_with fail
      go_meet
      exact ⟨E, by rw [hE, List.length_set]; exact HLD.out, hrow3.arg hnc, hB3⟩
  case rest =>
    obtain ⟨E, hLE, hArg, hB3⟩ := hcut
    have hback := conv_any wc _ E hArg
    have HLE := Lib.hid hLE
    have hidx0 : ∀ w : World, (Instr.index 53 (.agg #[.string ⟨D.toArray⟩, .string ⟨E.toArray⟩]) (.int .i64 0)).run Tryz.prog w = .ok (.string ⟨D.toArray⟩) w := fun w => idx_pair D E 0 w
    have hidx1 : ∀ w : World, (Instr.index 53 (.agg #[.string ⟨D.toArray⟩, .string ⟨E.toArray⟩]) (.int .i64 1)).run Tryz.prog w = .ok (.string ⟨E.toArray⟩) w := fun w => idx_pair D E 1 w
    clear hLE hArg hrow hB2 hx2 hy2
    go_wp2_with fail
    go_loopw [36] (fun iv wr => ∃ k : Nat, k ≤ 2 ∧ iv = .int .i64 k ∧ Below w.heap.size w wr) (fun iv _ => 2 - (intOf iv).toNat)
    case atStart => exact ⟨0, by decide, rfl, hB3⟩
    case round =>
      clear hB3
      obtain ⟨k, hk, rfl, hB4⟩ := hrel
      rcases Nat.lt_or_ge k 2 with hlt | hge
      · obtain ⟨u, hu6, hidx⟩ : ∃ u : List UInt8, u.length ≤ 60 ∧ ∀ w : World, (Instr.index 53 (.agg #[.string ⟨D.toArray⟩, .string ⟨E.toArray⟩]) (.int .i64 k)).run Tryz.prog w = .ok (.string ⟨u.toArray⟩) w := by
          have hk2 : k = 0 ∨ k = 1 := by omega
          rcases hk2 with rfl | rfl
          · exact ⟨D, HLD.out, hidx0⟩
          · exact ⟨E, HLE.out, hidx1⟩
        clear hidx0 hidx1
        have hlu := Lib.hid (show u.length ≤ 200 by omega)
        obtain ⟨q, t, hR⟩ := readsQ_any hlu.out
        have hkq := hR.sz
        have HB := Lib.hid hB4
        clear hB4
        rcases t with _ | _
        · skip
          obtain rfl : q = 0 := by
            rcases hR with ⟨h, _⟩ | ⟨_, h, _⟩
            · cases h
            · exact h
          replace hR := Lib.hid hR
          go_upto_region 8 with fail
          refine wp_region_calm 6 [5] ([fun vq _ => vq = .string ⟨u.toArray⟩,
              fun vq wq => ∃ u0, vq = .tuple #[u0, .bool false] ∧ RV wq u0 ((0 : Rat)),
              fun vq wq => ∃ u0, vq = .tuple #[u0, .bool false] ∧ RV wq u0 ((0 : Rat)),
              fun vq wq => RV wq vq ((0 : Rat)),
              fun vq _ => vq = .bool false,
              fun vq wq => ∃ bq, vq = .pointer (some ⟨bq, 0, none⟩) ∧ BoxN wq bq 26 #[.bool false, .slice none 0 0, .slice none 0 0] ∧ (wr).heap.size ≤ bq]) (by kernel_rfl) (by decide) ?_ ?_ ?_
          · intro j hj v w h
            simp only [List.mem_cons, List.not_mem_nil, or_false] at hj
            subst hj
            all_goals (obtain ⟨b, rfl, hB, _⟩ := h; exact hB.lt)
          · refine po rfl (fun lq aq wq hk hr K hK => ?_) ?_
            · have B7 : ev aq (.tmp 7) = .string ⟨u.toArray⟩ := hk.base 7 (by kernel_rfl) rfl
              exact vc hK (by go_simp) (fun w2 h2 => rfl)
            refine po rfl (fun lq aq wq hk hr K hK => ?_) ?_
            · have E0 : ev aq (.tmp 40) = .string ⟨u.toArray⟩ := hk.dc hr 0 (by kernel_rfl) fun _ _ h => h
              exact yc hK (by go_simp) (qparse_v wq (HL.out.below (HB.out.trans (Below.mono hk.ext HB.out.size))) hR.out hlu.out rfl) (fun u w1 hu w2 h2 => (let ⟨u0, e0, h0⟩ := hu; ⟨u0, e0, (h0).grow h2⟩))
            refine po rfl (fun lq aq wq hk hr K hK => ?_) ?_
            · obtain ⟨v1, E1, r1⟩ := hk.dp hr 1 41 (by kernel_rfl)
              have r1 : ∃ u0, v1 = .tuple #[u0, .bool false] ∧ RV wq u0 ((0 : Rat)) := r1
              exact vc hK (by go_simp) (fun w2 h2 => (let ⟨u0, e0, h0⟩ := r1; ⟨u0, e0, (h0).grow h2⟩))
            refine po rfl (fun lq aq wq hk hr K hK => ?_) ?_
            · obtain ⟨v2, E2, r2⟩ := hk.dp hr 2 39 (by kernel_rfl)
              have r2 : ∃ u0, v2 = .tuple #[u0, .bool false] ∧ RV wq u0 ((0 : Rat)) := r2
              obtain ⟨u0, rfl, h0⟩ := r2
              exact vc hK (by go_simp) (fun w2 h2 => (h0).grow h2)
            refine po rfl (fun lq aq wq hk hr K hK => ?_) ?_
            · obtain ⟨v2, E2, r2⟩ := hk.dp hr 2 39 (by kernel_rfl)
              have r2 : ∃ u0, v2 = .tuple #[u0, .bool false] ∧ RV wq u0 ((0 : Rat)) := r2
              obtain ⟨u0, rfl, h0⟩ := r2
              exact vc hK (by go_simp) (fun w2 h2 => rfl)
            refine po rfl (fun lq aq wq hk hr K hK => ?_) ?_
            · exact wp_of_value (by go_simp) (hK.out _ _ ((Grows.refl _).alloc _) (fun w2 h2 => ⟨_, rfl, (BoxN.new wq 26 _).below h2, hk.ext.size⟩) (fun _ => Nat.le_refl _))
            exact AllOps.nil
          intro V x1 hG hV hap
          have r3 : RV x1 (V 3) ((0 : Rat)) := hV 3 (by decide)
          have r4 : (V 4) = .bool false := hV 4 (by decide)
          have r5 : ∃ bq, (V 5) = .pointer (some ⟨bq, 0, none⟩) ∧ BoxN x1 bq 26 #[.bool false, .slice none 0 0, .slice none 0 0] ∧ (wr).heap.size ≤ bq := hV 5 (by decide)
          clear hV
          simp only [List.take_succ_cons, List.take_zero, List.drop_succ_cons, List.drop_zero, putAll, Act.put, List.setIfInBounds_toArray, List.set_cons_zero, List.set_cons_succ]
          have hb := (show Below _ _ _ from hG)
          obtain ⟨bp, ep, Dp, gp⟩ := r5
          obtain ⟨np, Ap, kp, cp, Bp, jp, dp, ep9, sp, tp, hdp⟩ := r3
          simp only [ep, ep9, r4]
          clear ep ep9 hap hG r4
          replace Dp : Box3 _ bp 26 (.bool false) (.slice none 0 0) (.slice none 0 0) := Dp
          refine wpList_of_skip rfl (op_store3 8 42 _ rfl rfl Dp) ?_
          have hB := put3_below (x' := .bool np) (y' := .slice Ap kp cp) (z' := .slice Bp jp dp) hb gp
          replace sp := sp.put3 Dp (.bool np) (.slice Ap kp cp) (.slice Bp jp dp)
          replace tp := tp.put3 Dp (.bool np) (.slice Ap kp cp) (.slice Bp jp dp)
          replace Dp := put3_own (x' := .bool np) (y' := .slice Ap kp cp) (z' := .slice Bp jp dp) Dp
          clear hb
          generalize put3 x1 bp (.bool np) (.slice Ap kp cp) (.slice Bp jp dp) = y2 at *
          replace HB := Lib.hid (HB.out.trans (Below.mono hB HB.out.size))
          replace Dp := Lib.hid Dp
          have SNp := Lib.hid sp
          have SDp := Lib.hid tp
          clear hB gp sp tp
          go_upto_region 9 with fail
          have lwp := Dp.out.lt
          refine wp_region_calm 6 [5] ([fun vq _ => vq = .string ⟨u.toArray⟩,
              fun vq wq => ∃ u0, vq = .tuple #[u0, .bool false] ∧ QV wq u0 ((0 : Rat)),
              fun vq wq => ∃ u0, vq = .tuple #[u0, .bool false] ∧ QV wq u0 ((0 : Rat)),
              fun vq wq => QV wq vq ((0 : Rat)),
              fun vq _ => vq = .bool false,
              fun vq wq => ∃ bq, vq = .pointer (some ⟨bq, 0, none⟩) ∧ BoxN wq bq 26 #[.bool false, .slice none 0 0, .slice none 0 0] ∧ (y2).heap.size ≤ bq]) (by kernel_rfl) (by decide) ?_ ?_ ?_
          · intro j hj v w h
            simp only [List.mem_cons, List.not_mem_nil, or_false] at hj
            subst hj
            all_goals (obtain ⟨b, rfl, hB, _⟩ := h; exact hB.lt)
          · refine po rfl (fun lq aq wq hk hr K hK => ?_) ?_
            · have B7 : ev aq (.tmp 7) = .string ⟨u.toArray⟩ := hk.base 7 (by kernel_rfl) rfl
              exact vc hK (by go_simp) (fun w2 h2 => rfl)
            refine po rfl (fun lq aq wq hk hr K hK => ?_) ?_
            · have E0 : ev aq (.tmp 45) = .string ⟨u.toArray⟩ := hk.dc hr 0 (by kernel_rfl) fun _ _ h => h
              exact yc hK (by go_simp) (rqparse_f wq hR.out hlu.out) (fun u w1 hu w2 h2 => (let ⟨u0, e0, h0⟩ := hu; ⟨u0, e0, (h0).grow h2⟩))
            refine po rfl (fun lq aq wq hk hr K hK => ?_) ?_
            · obtain ⟨v1, E1, r1⟩ := hk.dp hr 1 46 (by kernel_rfl)
              have r1 : ∃ u0, v1 = .tuple #[u0, .bool false] ∧ QV wq u0 ((0 : Rat)) := r1
              exact vc hK (by go_simp) (fun w2 h2 => (let ⟨u0, e0, h0⟩ := r1; ⟨u0, e0, (h0).grow h2⟩))
            refine po rfl (fun lq aq wq hk hr K hK => ?_) ?_
            · obtain ⟨v2, E2, r2⟩ := hk.dp hr 2 44 (by kernel_rfl)
              have r2 : ∃ u0, v2 = .tuple #[u0, .bool false] ∧ QV wq u0 ((0 : Rat)) := r2
              obtain ⟨u0, rfl, h0⟩ := r2
              exact vc hK (by go_simp) (fun w2 h2 => (h0).grow h2)
            refine po rfl (fun lq aq wq hk hr K hK => ?_) ?_
            · obtain ⟨v2, E2, r2⟩ := hk.dp hr 2 44 (by kernel_rfl)
              have r2 : ∃ u0, v2 = .tuple #[u0, .bool false] ∧ QV wq u0 ((0 : Rat)) := r2
              obtain ⟨u0, rfl, h0⟩ := r2
              exact vc hK (by go_simp) (fun w2 h2 => rfl)
            refine po rfl (fun lq aq wq hk hr K hK => ?_) ?_
            · exact wp_of_value (by go_simp) (hK.out _ _ ((Grows.refl _).alloc _) (fun w2 h2 => ⟨_, rfl, (BoxN.new wq 26 _).below h2, hk.ext.size⟩) (fun _ => Nat.le_refl _))
            exact AllOps.nil
          intro V x3 hG hV hap
          have r3 : QV x3 (V 3) ((0 : Rat)) := hV 3 (by decide)
          have r4 : (V 4) = .bool false := hV 4 (by decide)
          have r5 : ∃ bq, (V 5) = .pointer (some ⟨bq, 0, none⟩) ∧ BoxN x3 bq 26 #[.bool false, .slice none 0 0, .slice none 0 0] ∧ (y2).heap.size ≤ bq := hV 5 (by decide)
          clear hV
          simp only [List.take_succ_cons, List.take_zero, List.drop_succ_cons, List.drop_zero, putAll, Act.put, List.setIfInBounds_toArray, List.set_cons_zero, List.set_cons_succ]
          have hb := (show Below _ _ _ from hG)
          obtain ⟨br, er, Dr, gr⟩ := r5
          obtain ⟨nr, Ar, kr, cr, Br, jr, dr, er9, zr, lr, ar, sr, tr, hlr, er8⟩ := r3
          simp only [er, er9, r4]
          clear er er9 hap hG r4
          have hkr : szz zr ≤ 1000 := sr.size
          replace Dr : Box3 _ br 26 (.bool false) (.slice none 0 0) (.slice none 0 0) := Dr
          refine wpList_of_skip rfl (op_store3 10 47 _ rfl rfl Dr) ?_
          have hB := put3_below (x' := .bool nr) (y' := .slice Ar kr cr) (z' := .slice Br jr dr) hb gr
          replace sr := sr.put3 Dr (.bool nr) (.slice Ar kr cr) (.slice Br jr dr)
          replace tr := tr.put3 Dr (.bool nr) (.slice Ar kr cr) (.slice Br jr dr)
          replace Dr := put3_own (x' := .bool nr) (y' := .slice Ar kr cr) (z' := .slice Br jr dr) Dr
          clear hb
          generalize put3 x3 br (.bool nr) (.slice Ar kr cr) (.slice Br jr dr) = y4 at *
          replace Dp := Lib.hid (Dp.out.below hB)
          replace SNp := Lib.hid (SNp.out.below hB)
          replace SDp := Lib.hid (SDp.out.below hB)
          replace HB := Lib.hid (HB.out.trans (Below.mono hB HB.out.size))
          replace lwp := Nat.lt_of_lt_of_le lwp gr
          replace Dr := Lib.hid Dr
          have SNr := Lib.hid sr
          have SDr := Lib.hid tr
          clear hB gr sr tr
          go_upto_region 10 with fail
          refine wp_region_going 23 [] ([fun vq _ => vq = .bool false,
              fun vq _ => vq = .bool false,
              fun vq _ => vq = .bool false,
              fun vq _ => vq = .bool false,
              fun vq _ => vq = .bool false,
              fun vq _ => vq = .bool false,
              fun vq _ => vq = undef,
              fun vq _ => vq = undef,
              fun vq _ => vq = undef,
              fun vq _ => vq = undef,
              fun vq _ => vq = .bool false,
              fun vq _ => vq = .bool false,
              fun vq _ => vq = .bool false,
              fun vq _ => vq = .bool false,
              fun vq _ => vq = .bool true,
              fun vq _ => vq = .bool true,
              fun vq wq => RV wq vq ((0 : Rat)),
              fun vq wq => QV wq vq ((0 : Rat)),
              fun vq wq => RV wq vq ((0 : Rat)),
              fun vq _ => vq = .bool true,
              fun vq _ => vq = .bool false,
              fun vq _ => vq = .bool false,
              fun vq _ => vq = .bool false]) (by kernel_rfl) (by kernel_rfl) (by decide) (by kernel_rfl) (by kernel_rfl) ?_ ?_ ?_
          · intro j hj; cases hj
          · refine po rfl (fun lq aq wq hk hr K hK => ?_) ?_
            · have B9 : ev aq (.tmp 9) = .bool false := hk.base 9 (by kernel_rfl) rfl
              exact vc hK (by go_simp) (fun w2 h2 => rfl)
            refine po rfl (fun lq aq wq hk hr K hK => ?_) ?_
            · have B11 : ev aq (.tmp 11) = .bool false := hk.base 11 (by kernel_rfl) rfl
              exact vc hK (by go_simp) (fun w2 h2 => rfl)
            refine po rfl (fun lq aq wq hk hr K hK => ?_) ?_
            · have E0 : ev aq (.tmp 49) = .bool false := hk.dc hr 0 (by kernel_rfl) fun _ _ h => h
              have E1 : ev aq (.tmp 50) = .bool false := hk.dc hr 1 (by kernel_rfl) fun _ _ h => h
              exact vc hK (by go_simp) (fun w2 h2 => rfl)
            refine po rfl (fun lq aq wq hk hr K hK => ?_) ?_
            · have E2 : ev aq (.tmp 51) = .bool false := hk.dc hr 2 (by kernel_rfl) fun _ _ h => h
              exact vc hK (by go_simp) (fun w2 h2 => rfl)
            refine pl 3 52 false rfl (by kernel_rfl) (fun _ _ h => h) (fun lq aq wq hk hr K hK => ?_) ?_
            · have B9 : ev aq (.tmp 9) = .bool false := hk.base 9 (by kernel_rfl) rfl
              exact vc hK (by go_simp) (fun w2 h2 => rfl)
            refine pl 3 52 false rfl (by kernel_rfl) (fun _ _ h => h) (fun lq aq wq hk hr K hK => ?_) ?_
            · have E4 : ev aq (.tmp 53) = .bool false := hk.dc hr 4 (by kernel_rfl) fun _ _ h => h
              exact vc hK (by go_simp) (fun w2 h2 => rfl)
            refine pb 5 54 true false rfl (by kernel_rfl) (fun _ _ h => h) (by decide) (fun _ => rfl) rfl ?_
            refine pb 5 54 true false rfl (by kernel_rfl) (fun _ _ h => h) (by decide) (fun _ => rfl) rfl ?_
            refine pb 5 54 true false rfl (by kernel_rfl) (fun _ _ h => h) (by decide) (fun _ => rfl) rfl ?_
            refine pb 5 54 true false rfl (by kernel_rfl) (fun _ _ h => h) (by decide) (fun _ => rfl) rfl ?_
            refine pl 3 52 false rfl (by kernel_rfl) (fun _ _ h => h) (fun lq aq wq hk hr K hK => ?_) ?_
            · have E5 : ev aq (.tmp 54) = .bool false := hk.dc hr 5 (by kernel_rfl) fun _ _ h => h
              exact vc hK (by go_simp) (fun w2 h2 => rfl)
            refine po rfl (fun lq aq wq hk hr K hK => ?_) ?_
            · have E3 : ev aq (.tmp 52) = .bool false := hk.dc hr 3 (by kernel_rfl) fun _ _ h => h
              have E10 : ev aq (.tmp 59) = .bool false := hk.dc hr 10 (by kernel_rfl) fun _ _ h => h
              exact vc hK (by go_simp) (fun w2 h2 => rfl)
            refine po rfl (fun lq aq wq hk hr K hK => ?_) ?_
            · have E11 : ev aq (.tmp 60) = .bool false := hk.dc hr 11 (by kernel_rfl) fun _ _ h => h
              exact vc hK (by go_simp) (fun w2 h2 => rfl)
            refine pl 12 61 false rfl (by kernel_rfl) (fun _ _ h => h) (fun lq aq wq hk hr K hK => ?_) ?_
            · have B9 : ev aq (.tmp 9) = .bool false := hk.base 9 (by kernel_rfl) rfl
              exact vc hK (by go_simp) (fun w2 h2 => rfl)
            refine pl 12 61 false rfl (by kernel_rfl) (fun _ _ h => h) (fun lq aq wq hk hr K hK => ?_) ?_
            · have E13 : ev aq (.tmp 62) = .bool false := hk.dc hr 13 (by kernel_rfl) fun _ _ h => h
              exact vc hK (by go_simp) (fun w2 h2 => rfl)
            refine pl 12 61 false rfl (by kernel_rfl) (fun _ _ h => h) (fun lq aq wq hk hr K hK => ?_) ?_
            · have E14 : ev aq (.tmp 63) = .bool true := hk.dc hr 14 (by kernel_rfl) fun _ _ h => h
              exact vc hK (by go_simp) (fun w2 h2 => rfl)
            refine pl 15 64 true rfl (by kernel_rfl) (fun _ _ h => h) (fun lq aq wq hk hr K hK => ?_) ?_
            · have B8 : ev aq (.tmp 8) = .pointer (some ⟨bp, 0, none⟩) := hk.base 8 (by kernel_rfl) rfl
              have hb := grows_of hk.ext
              exact vc hK (op_load3 8 _ B8 (Dp.out.below hb)) (fun w2 h2 => RV.grow ⟨_, _, _, _, _, _, _, rfl, (SNp.out.below hb), (SDp.out.below hb), hdp⟩ h2)
            refine pl 15 64 true rfl (by kernel_rfl) (fun _ _ h => h) (fun lq aq wq hk hr K hK => ?_) ?_
            · exact vc hK (by go_simp) (fun w2 h2 => (QV.zero _).grow h2)
            refine pl 15 64 true rfl (by kernel_rfl) (fun _ _ h => h) (fun lq aq wq hk hr K hK => ?_) ?_
            · obtain ⟨v17, E17, r17⟩ := hk.dp hr 17 66 (by kernel_rfl)
              have r17 : QV wq v17 ((0 : Rat)) := r17
              exact yc hK (by go_simp) (rmadeQ_v wq r17) (fun u w1 hu w2 h2 => (hu).grow h2)
            refine pl 15 64 true rfl (by kernel_rfl) (fun _ _ h => h) (fun lq aq wq hk hr K hK => ?_) ?_
            · obtain ⟨v16, E16, r16⟩ := hk.dp hr 16 65 (by kernel_rfl)
              have r16 : RV wq v16 ((0 : Rat)) := r16
              obtain ⟨v18, E18, r18⟩ := hk.dp hr 18 67 (by kernel_rfl)
              have r18 : RV wq v18 ((0 : Rat)) := r18
              exact yc hK (by go_simp) (lsameR_v wq r16 r18 (t := true) (decide_eq_true rfl)) (fun u w1 hu w2 h2 => hu)
            refine pl 15 64 true rfl (by kernel_rfl) (fun _ _ h => h) (fun lq aq wq hk hr K hK => ?_) ?_
            · have E19 : ev aq (.tmp 68) = .bool true := hk.dc hr 19 (by kernel_rfl) fun _ _ h => h
              exact vc hK (by go_simp) (fun w2 h2 => rfl)
            refine pl 12 61 false rfl (by kernel_rfl) (fun _ _ h => h) (fun lq aq wq hk hr K hK => ?_) ?_
            · have E15 : ev aq (.tmp 64) = .bool true := hk.dc hr 15 (by kernel_rfl) fun _ _ h => h
              have E20 : ev aq (.tmp 69) = .bool false := hk.dc hr 20 (by kernel_rfl) fun _ _ h => h
              exact vc hK (by go_simp) (fun w2 h2 => rfl)
            refine po rfl (fun lq aq wq hk hr K hK => ?_) ?_
            · have E12 : ev aq (.tmp 61) = .bool false := hk.dc hr 12 (by kernel_rfl) fun _ _ h => h
              have E21 : ev aq (.tmp 70) = .bool false := hk.dc hr 21 (by kernel_rfl) fun _ _ h => h
              exact vc hK (by go_simp) (fun w2 h2 => rfl)
            exact AllOps.nil
          intro V x5 hG hV hap
          have r22 : (V 22) = .bool false := hV 22 (by decide)
          clear hV hap
          simp only [List.take_succ_cons, List.take_nil, List.drop_succ_cons, List.drop_nil, putAll, Act.put, List.setIfInBounds_toArray, List.set_cons_zero, List.set_cons_succ]
          have hb := grows_of hG
          replace Dp := Lib.hid (Dp.out.below hb)
          replace SNp := Lib.hid (SNp.out.below hb)
          replace SDp := Lib.hid (SDp.out.below hb)
          replace Dr := Lib.hid (Dr.out.below hb)
          replace SNr := Lib.hid (SNr.out.below hb)
          replace SDr := Lib.hid (SDr.out.below hb)
          replace HB := Lib.hid (HB.out.trans (Below.mono hb HB.out.size))
          clear hb hG
          rw [r22]
          clear r22
          go_wp2_with fail
          go_roundw
          case rel =>
            first
              | exact ⟨k + 1, by omega, (by first | rfl | simp | go_num), HB.out⟩
              | ((repeat apply Exists.intro); refine ⟨?_, rfl⟩; exact ⟨k + 1, by omega, (by first | rfl | simp | go_num), HB.out⟩)
          case measure => simp [intOf]; omega
        · skip
          replace hR := Lib.hid hR
          go_upto_region 8 with fail
          refine wp_region_calm 6 [5] ([fun vq _ => vq = .string ⟨u.toArray⟩,
              fun vq wq => ∃ u0, vq = .tuple #[u0, .bool true] ∧ RV wq u0 q,
              fun vq wq => ∃ u0, vq = .tuple #[u0, .bool true] ∧ RV wq u0 q,
              fun vq wq => RV wq vq q,
              fun vq _ => vq = .bool true,
              fun vq wq => ∃ bq, vq = .pointer (some ⟨bq, 0, none⟩) ∧ BoxN wq bq 26 #[.bool false, .slice none 0 0, .slice none 0 0] ∧ (wr).heap.size ≤ bq]) (by kernel_rfl) (by decide) ?_ ?_ ?_
          · intro j hj v w h
            simp only [List.mem_cons, List.not_mem_nil, or_false] at hj
            subst hj
            all_goals (obtain ⟨b, rfl, hB, _⟩ := h; exact hB.lt)
          · refine po rfl (fun lq aq wq hk hr K hK => ?_) ?_
            · have B7 : ev aq (.tmp 7) = .string ⟨u.toArray⟩ := hk.base 7 (by kernel_rfl) rfl
              exact vc hK (by go_simp) (fun w2 h2 => rfl)
            refine po rfl (fun lq aq wq hk hr K hK => ?_) ?_
            · have E0 : ev aq (.tmp 40) = .string ⟨u.toArray⟩ := hk.dc hr 0 (by kernel_rfl) fun _ _ h => h
              exact yc hK (by go_simp) (qparse_v wq (HL.out.below (HB.out.trans (Below.mono hk.ext HB.out.size))) hR.out hlu.out rfl) (fun u w1 hu w2 h2 => (let ⟨u0, e0, h0⟩ := hu; ⟨u0, e0, (h0).grow h2⟩))
            refine po rfl (fun lq aq wq hk hr K hK => ?_) ?_
            · obtain ⟨v1, E1, r1⟩ := hk.dp hr 1 41 (by kernel_rfl)
              have r1 : ∃ u0, v1 = .tuple #[u0, .bool true] ∧ RV wq u0 q := r1
              exact vc hK (by go_simp) (fun w2 h2 => (let ⟨u0, e0, h0⟩ := r1; ⟨u0, e0, (h0).grow h2⟩))
            refine po rfl (fun lq aq wq hk hr K hK => ?_) ?_
            · obtain ⟨v2, E2, r2⟩ := hk.dp hr 2 39 (by kernel_rfl)
              have r2 : ∃ u0, v2 = .tuple #[u0, .bool true] ∧ RV wq u0 q := r2
              obtain ⟨u0, rfl, h0⟩ := r2
              exact vc hK (by go_simp) (fun w2 h2 => (h0).grow h2)
            refine po rfl (fun lq aq wq hk hr K hK => ?_) ?_
            · obtain ⟨v2, E2, r2⟩ := hk.dp hr 2 39 (by kernel_rfl)
              have r2 : ∃ u0, v2 = .tuple #[u0, .bool true] ∧ RV wq u0 q := r2
              obtain ⟨u0, rfl, h0⟩ := r2
              exact vc hK (by go_simp) (fun w2 h2 => rfl)
            refine po rfl (fun lq aq wq hk hr K hK => ?_) ?_
            · exact wp_of_value (by go_simp) (hK.out _ _ ((Grows.refl _).alloc _) (fun w2 h2 => ⟨_, rfl, (BoxN.new wq 26 _).below h2, hk.ext.size⟩) (fun _ => Nat.le_refl _))
            exact AllOps.nil
          intro V x1 hG hV hap
          have r3 : RV x1 (V 3) q := hV 3 (by decide)
          have r4 : (V 4) = .bool true := hV 4 (by decide)
          have r5 : ∃ bq, (V 5) = .pointer (some ⟨bq, 0, none⟩) ∧ BoxN x1 bq 26 #[.bool false, .slice none 0 0, .slice none 0 0] ∧ (wr).heap.size ≤ bq := hV 5 (by decide)
          clear hV
          simp only [List.take_succ_cons, List.take_zero, List.drop_succ_cons, List.drop_zero, putAll, Act.put, List.setIfInBounds_toArray, List.set_cons_zero, List.set_cons_succ]
          have hb := (show Below _ _ _ from hG)
          obtain ⟨bp, ep, Dp, gp⟩ := r5
          obtain ⟨np, Ap, kp, cp, Bp, jp, dp, ep9, sp, tp, hdp⟩ := r3
          simp only [ep, ep9, r4]
          clear ep ep9 hap hG r4
          replace Dp : Box3 _ bp 26 (.bool false) (.slice none 0 0) (.slice none 0 0) := Dp
          refine wpList_of_skip rfl (op_store3 8 42 _ rfl rfl Dp) ?_
          have hB := put3_below (x' := .bool np) (y' := .slice Ap kp cp) (z' := .slice Bp jp dp) hb gp
          replace sp := sp.put3 Dp (.bool np) (.slice Ap kp cp) (.slice Bp jp dp)
          replace tp := tp.put3 Dp (.bool np) (.slice Ap kp cp) (.slice Bp jp dp)
          replace Dp := put3_own (x' := .bool np) (y' := .slice Ap kp cp) (z' := .slice Bp jp dp) Dp
          clear hb
          generalize put3 x1 bp (.bool np) (.slice Ap kp cp) (.slice Bp jp dp) = y2 at *
          replace HB := Lib.hid (HB.out.trans (Below.mono hB HB.out.size))
          replace Dp := Lib.hid Dp
          have SNp := Lib.hid sp
          have SDp := Lib.hid tp
          clear hB gp sp tp
          go_upto_region 9 with fail
          have lwp := Dp.out.lt
          refine wp_region_calm 6 [5] ([fun vq _ => vq = .string ⟨u.toArray⟩,
              fun vq wq => ∃ u0, vq = .tuple #[u0, .bool true] ∧ RV wq u0 q,
              fun vq wq => ∃ u0, vq = .tuple #[u0, .bool true] ∧ RV wq u0 q,
              fun vq wq => RV wq vq q,
              fun vq _ => vq = .bool true,
              fun vq wq => ∃ bq, vq = .pointer (some ⟨bq, 0, none⟩) ∧ BoxN wq bq 26 #[.bool false, .slice none 0 0, .slice none 0 0] ∧ (y2).heap.size ≤ bq]) (by kernel_rfl) (by decide) ?_ ?_ ?_
          · intro j hj v w h
            simp only [List.mem_cons, List.not_mem_nil, or_false] at hj
            subst hj
            all_goals (obtain ⟨b, rfl, hB, _⟩ := h; exact hB.lt)
          · refine po rfl (fun lq aq wq hk hr K hK => ?_) ?_
            · have B7 : ev aq (.tmp 7) = .string ⟨u.toArray⟩ := hk.base 7 (by kernel_rfl) rfl
              exact vc hK (by go_simp) (fun w2 h2 => rfl)
            refine po rfl (fun lq aq wq hk hr K hK => ?_) ?_
            · have E0 : ev aq (.tmp 45) = .string ⟨u.toArray⟩ := hk.dc hr 0 (by kernel_rfl) fun _ _ h => h
              exact yc hK (by go_simp) (rqparse_t wq hR.out hlu.out) (fun u w1 hu w2 h2 => (let ⟨u0, e0, h0⟩ := hu; ⟨u0, e0, (h0).grow h2⟩))
            refine po rfl (fun lq aq wq hk hr K hK => ?_) ?_
            · obtain ⟨v1, E1, r1⟩ := hk.dp hr 1 46 (by kernel_rfl)
              have r1 : ∃ u0, v1 = .tuple #[u0, .bool true] ∧ RV wq u0 q := r1
              exact vc hK (by go_simp) (fun w2 h2 => (let ⟨u0, e0, h0⟩ := r1; ⟨u0, e0, (h0).grow h2⟩))
            refine po rfl (fun lq aq wq hk hr K hK => ?_) ?_
            · obtain ⟨v2, E2, r2⟩ := hk.dp hr 2 44 (by kernel_rfl)
              have r2 : ∃ u0, v2 = .tuple #[u0, .bool true] ∧ RV wq u0 q := r2
              obtain ⟨u0, rfl, h0⟩ := r2
              exact vc hK (by go_simp) (fun w2 h2 => (h0).grow h2)
            refine po rfl (fun lq aq wq hk hr K hK => ?_) ?_
            · obtain ⟨v2, E2, r2⟩ := hk.dp hr 2 44 (by kernel_rfl)
              have r2 : ∃ u0, v2 = .tuple #[u0, .bool true] ∧ RV wq u0 q := r2
              obtain ⟨u0, rfl, h0⟩ := r2
              exact vc hK (by go_simp) (fun w2 h2 => rfl)
            refine po rfl (fun lq aq wq hk hr K hK => ?_) ?_
            · exact wp_of_value (by go_simp) (hK.out _ _ ((Grows.refl _).alloc _) (fun w2 h2 => ⟨_, rfl, (BoxN.new wq 26 _).below h2, hk.ext.size⟩) (fun _ => Nat.le_refl _))
            exact AllOps.nil
          intro V x3 hG hV hap
          have r3 : RV x3 (V 3) q := hV 3 (by decide)
          have r4 : (V 4) = .bool true := hV 4 (by decide)
          have r5 : ∃ bq, (V 5) = .pointer (some ⟨bq, 0, none⟩) ∧ BoxN x3 bq 26 #[.bool false, .slice none 0 0, .slice none 0 0] ∧ (y2).heap.size ≤ bq := hV 5 (by decide)
          clear hV
          simp only [List.take_succ_cons, List.take_zero, List.drop_succ_cons, List.drop_zero, putAll, Act.put, List.setIfInBounds_toArray, List.set_cons_zero, List.set_cons_succ]
          have hb := (show Below _ _ _ from hG)
          obtain ⟨br, er, Dr, gr⟩ := r5
          obtain ⟨nr, Ar, kr, cr, Br, jr, dr, er9, sr, tr, hdr⟩ := r3
          simp only [er, er9, r4]
          clear er er9 hap hG r4
          replace Dr : Box3 _ br 26 (.bool false) (.slice none 0 0) (.slice none 0 0) := Dr
          refine wpList_of_skip rfl (op_store3 10 47 _ rfl rfl Dr) ?_
          have hB := put3_below (x' := .bool nr) (y' := .slice Ar kr cr) (z' := .slice Br jr dr) hb gr
          replace sr := sr.put3 Dr (.bool nr) (.slice Ar kr cr) (.slice Br jr dr)
          replace tr := tr.put3 Dr (.bool nr) (.slice Ar kr cr) (.slice Br jr dr)
          replace Dr := put3_own (x' := .bool nr) (y' := .slice Ar kr cr) (z' := .slice Br jr dr) Dr
          clear hb
          generalize put3 x3 br (.bool nr) (.slice Ar kr cr) (.slice Br jr dr) = y4 at *
          replace Dp := Lib.hid (Dp.out.below hB)
          replace SNp := Lib.hid (SNp.out.below hB)
          replace SDp := Lib.hid (SDp.out.below hB)
          replace HB := Lib.hid (HB.out.trans (Below.mono hB HB.out.size))
          replace lwp := Nat.lt_of_lt_of_le lwp gr
          replace Dr := Lib.hid Dr
          have SNr := Lib.hid sr
          have SDr := Lib.hid tr
          clear hB gr sr tr
          go_upto_region 10 with fail
          refine wp_region_going 23 [] ([fun vq _ => vq = .bool true,
              fun vq _ => vq = .bool true,
              fun vq _ => vq = .bool false,
              fun vq _ => vq = .bool false,
              fun vq _ => vq = .bool true,
              fun vq _ => vq = .bool true,
              fun vq wq => RV wq vq q,
              fun vq wq => RV wq vq q,
              fun vq _ => vq = .bool true,
              fun vq _ => vq = .bool false,
              fun vq _ => vq = .bool false,
              fun vq _ => vq = .bool false,
              fun vq _ => vq = .bool false,
              fun vq _ => vq = .bool true,
              fun vq _ => vq = .bool false,
              fun vq _ => vq = .bool false,
              fun vq _ => vq = undef,
              fun vq _ => vq = undef,
              fun vq _ => vq = undef,
              fun vq _ => vq = undef,
              fun vq _ => vq = undef,
              fun vq _ => vq = .bool false,
              fun vq _ => vq = .bool false]) (by kernel_rfl) (by kernel_rfl) (by decide) (by kernel_rfl) (by kernel_rfl) ?_ ?_ ?_
          · intro j hj; cases hj
          · refine po rfl (fun lq aq wq hk hr K hK => ?_) ?_
            · have B9 : ev aq (.tmp 9) = .bool true := hk.base 9 (by kernel_rfl) rfl
              exact vc hK (by go_simp) (fun w2 h2 => rfl)
            refine po rfl (fun lq aq wq hk hr K hK => ?_) ?_
            · have B11 : ev aq (.tmp 11) = .bool true := hk.base 11 (by kernel_rfl) rfl
              exact vc hK (by go_simp) (fun w2 h2 => rfl)
            refine po rfl (fun lq aq wq hk hr K hK => ?_) ?_
            · have E0 : ev aq (.tmp 49) = .bool true := hk.dc hr 0 (by kernel_rfl) fun _ _ h => h
              have E1 : ev aq (.tmp 50) = .bool true := hk.dc hr 1 (by kernel_rfl) fun _ _ h => h
              exact vc hK (by go_simp) (fun w2 h2 => rfl)
            refine po rfl (fun lq aq wq hk hr K hK => ?_) ?_
            · have E2 : ev aq (.tmp 51) = .bool false := hk.dc hr 2 (by kernel_rfl) fun _ _ h => h
              exact vc hK (by go_simp) (fun w2 h2 => rfl)
            refine pl 3 52 false rfl (by kernel_rfl) (fun _ _ h => h) (fun lq aq wq hk hr K hK => ?_) ?_
            · have B9 : ev aq (.tmp 9) = .bool true := hk.base 9 (by kernel_rfl) rfl
              exact vc hK (by go_simp) (fun w2 h2 => rfl)
            refine pl 3 52 false rfl (by kernel_rfl) (fun _ _ h => h) (fun lq aq wq hk hr K hK => ?_) ?_
            · have E4 : ev aq (.tmp 53) = .bool true := hk.dc hr 4 (by kernel_rfl) fun _ _ h => h
              exact vc hK (by go_simp) (fun w2 h2 => rfl)
            refine pl 5 54 true rfl (by kernel_rfl) (fun _ _ h => h) (fun lq aq wq hk hr K hK => ?_) ?_
            · have B8 : ev aq (.tmp 8) = .pointer (some ⟨bp, 0, none⟩) := hk.base 8 (by kernel_rfl) rfl
              have hb := grows_of hk.ext
              exact vc hK (op_load3 8 _ B8 (Dp.out.below hb)) (fun w2 h2 => RV.grow ⟨_, _, _, _, _, _, _, rfl, (SNp.out.below hb), (SDp.out.below hb), hdp⟩ h2)
            refine pl 5 54 true rfl (by kernel_rfl) (fun _ _ h => h) (fun lq aq wq hk hr K hK => ?_) ?_
            · have B10 : ev aq (.tmp 10) = .pointer (some ⟨br, 0, none⟩) := hk.base 10 (by kernel_rfl) rfl
              have hb := grows_of hk.ext
              exact vc hK (op_load3 10 _ B10 (Dr.out.below hb)) (fun w2 h2 => RV.grow ⟨_, _, _, _, _, _, _, rfl, (SNr.out.below hb), (SDr.out.below hb), hdr⟩ h2)
            refine pl 5 54 true rfl (by kernel_rfl) (fun _ _ h => h) (fun lq aq wq hk hr K hK => ?_) ?_
            · obtain ⟨v6, E6, r6⟩ := hk.dp hr 6 55 (by kernel_rfl)
              have r6 : RV wq v6 q := r6
              obtain ⟨v7, E7, r7⟩ := hk.dp hr 7 56 (by kernel_rfl)
              have r7 : RV wq v7 q := r7
              exact yc hK (by go_simp) (lsameR_v wq r6 r7 (t := true) (decide_eq_true rfl)) (fun u w1 hu w2 h2 => hu)
            refine pl 5 54 true rfl (by kernel_rfl) (fun _ _ h => h) (fun lq aq wq hk hr K hK => ?_) ?_
            · have E8 : ev aq (.tmp 57) = .bool true := hk.dc hr 8 (by kernel_rfl) fun _ _ h => h
              exact vc hK (by go_simp) (fun w2 h2 => rfl)
            refine pl 3 52 false rfl (by kernel_rfl) (fun _ _ h => h) (fun lq aq wq hk hr K hK => ?_) ?_
            · have E5 : ev aq (.tmp 54) = .bool true := hk.dc hr 5 (by kernel_rfl) fun _ _ h => h
              have E9 : ev aq (.tmp 58) = .bool false := hk.dc hr 9 (by kernel_rfl) fun _ _ h => h
              exact vc hK (by go_simp) (fun w2 h2 => rfl)
            refine po rfl (fun lq aq wq hk hr K hK => ?_) ?_
            · have E3 : ev aq (.tmp 52) = .bool false := hk.dc hr 3 (by kernel_rfl) fun _ _ h => h
              have E10 : ev aq (.tmp 59) = .bool false := hk.dc hr 10 (by kernel_rfl) fun _ _ h => h
              exact vc hK (by go_simp) (fun w2 h2 => rfl)
            refine po rfl (fun lq aq wq hk hr K hK => ?_) ?_
            · have E11 : ev aq (.tmp 60) = .bool false := hk.dc hr 11 (by kernel_rfl) fun _ _ h => h
              exact vc hK (by go_simp) (fun w2 h2 => rfl)
            refine pl 12 61 false rfl (by kernel_rfl) (fun _ _ h => h) (fun lq aq wq hk hr K hK => ?_) ?_
            · have B9 : ev aq (.tmp 9) = .bool true := hk.base 9 (by kernel_rfl) rfl
              exact vc hK (by go_simp) (fun w2 h2 => rfl)
            refine pl 12 61 false rfl (by kernel_rfl) (fun _ _ h => h) (fun lq aq wq hk hr K hK => ?_) ?_
            · have E13 : ev aq (.tmp 62) = .bool true := hk.dc hr 13 (by kernel_rfl) fun _ _ h => h
              exact vc hK (by go_simp) (fun w2 h2 => rfl)
            refine pl 12 61 false rfl (by kernel_rfl) (fun _ _ h => h) (fun lq aq wq hk hr K hK => ?_) ?_
            · have E14 : ev aq (.tmp 63) = .bool false := hk.dc hr 14 (by kernel_rfl) fun _ _ h => h
              exact vc hK (by go_simp) (fun w2 h2 => rfl)
            refine pb 15 64 true false rfl (by kernel_rfl) (fun _ _ h => h) (by decide) (fun _ => rfl) rfl ?_
            refine pb 15 64 true false rfl (by kernel_rfl) (fun _ _ h => h) (by decide) (fun _ => rfl) rfl ?_
            refine pb 15 64 true false rfl (by kernel_rfl) (fun _ _ h => h) (by decide) (fun _ => rfl) rfl ?_
            refine pb 15 64 true false rfl (by kernel_rfl) (fun _ _ h => h) (by decide) (fun _ => rfl) rfl ?_
            refine pb 15 64 true false rfl (by kernel_rfl) (fun _ _ h => h) (by decide) (fun _ => rfl) rfl ?_
            refine pl 12 61 false rfl (by kernel_rfl) (fun _ _ h => h) (fun lq aq wq hk hr K hK => ?_) ?_
            · have E15 : ev aq (.tmp 64) = .bool false := hk.dc hr 15 (by kernel_rfl) fun _ _ h => h
              exact vc hK (by go_simp) (fun w2 h2 => rfl)
            refine po rfl (fun lq aq wq hk hr K hK => ?_) ?_
            · have E12 : ev aq (.tmp 61) = .bool false := hk.dc hr 12 (by kernel_rfl) fun _ _ h => h
              have E21 : ev aq (.tmp 70) = .bool false := hk.dc hr 21 (by kernel_rfl) fun _ _ h => h
              exact vc hK (by go_simp) (fun w2 h2 => rfl)
            exact AllOps.nil
          intro V x5 hG hV hap
          have r22 : (V 22) = .bool false := hV 22 (by decide)
          clear hV hap
          simp only [List.take_succ_cons, List.take_nil, List.drop_succ_cons, List.drop_nil, putAll, Act.put, List.setIfInBounds_toArray, List.set_cons_zero, List.set_cons_succ]
          have hb := grows_of hG
          replace Dp := Lib.hid (Dp.out.below hb)
          replace SNp := Lib.hid (SNp.out.below hb)
          replace SDp := Lib.hid (SDp.out.below hb)
          replace Dr := Lib.hid (Dr.out.below hb)
          replace SNr := Lib.hid (SNr.out.below hb)
          replace SDr := Lib.hid (SDr.out.below hb)
          replace HB := Lib.hid (HB.out.trans (Below.mono hb HB.out.size))
          clear hb hG
          rw [r22]
          clear r22
          go_wp2_with fail
          go_roundw
          case rel =>
            first
              | exact ⟨k + 1, by omega, (by first | rfl | simp | go_num), HB.out⟩
              | ((repeat apply Exists.intro); refine ⟨?_, rfl⟩; exact ⟨k + 1, by omega, (by first | rfl | simp | go_num), HB.out⟩)
          case measure => simp [intOf]; omega
      · obtain rfl : k = 2 := by omega
        go_wp2_with fail
        refine (qworks_v _ (HL.out.below hB4)).mono ?_
        rintro e w5 ⟨r, rfl, rfl, b5⟩
        go_wp2_with fail
        go_ret
        exact ⟨rfl, hB4.trans (b5.mono hB4.size)⟩
end Go.Proofs.YtbippecchpaleaaGreatDoor
