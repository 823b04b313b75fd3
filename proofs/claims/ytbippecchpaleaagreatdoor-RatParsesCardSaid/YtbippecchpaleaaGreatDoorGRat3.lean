import Derived.Test.YtbippecchpaleaaGreatDoorGRat2
import Derived.Test.YtbippecchpaleaaGreatDoorBigTextsL
/- rat.sum, Add, Sub: what each returns. -/
namespace Go.Num
open Go Go.RowKit Go.Kp
/-- Three parts that are a fraction. -/
def QC (w : World) (n : Bool) (m1 m2 : Value) (q : Rat) : Prop := ∃ z l a, Whole w n m1 z ∧ Num w m2 l a ∧ l.length ≤ 1000 ∧ q = mkRat z (dn a)
theorem QC.grow {w w' : World} {n : Bool} {m1 m2 : Value} {q : Rat} (h : QC w n m1 m2 q) (hb : Grows w w') : QC w' n m1 m2 q := by
  obtain ⟨z, l, a, h1, h2, h3⟩ := h
  exact ⟨z, l, a, h1.below hb, h2.below hb, h3⟩
/-- A row of fractions. -/
def CellsQ (w : World) (A : Option Addr) (Q : List Rat) : Prop := 0 < Q.length → ∃ b o, A = some ⟨b, o, none⟩ ∧ ∀ (j : Nat) (q : Rat), Q[j]? = some q → ∃ n C k c B i d, w.cell? ⟨b, o + j * 3, none⟩ = some (.bool n) ∧ w.cell? ⟨b, o + j * 3 + 1, none⟩ = some (.slice C k c) ∧ w.cell? ⟨b, o + j * 3 + 2, none⟩ = some (.slice B i d) ∧ QC w n (.slice C k c) (.slice B i d) q
def RowQ (w : World) (v : Value) (Q : List Rat) : Prop := ∃ A c, v = .slice A Q.length c ∧ CellsQ w A Q
theorem CellsQ.below {w w' : World} {A : Option Addr} {Q : List Rat} (h : CellsQ w A Q) (hb : Below w.heap.size w w') : CellsQ w' A Q := fun h0 => by
  obtain ⟨b, o, e, hx⟩ := h h0
  refine ⟨b, o, e, fun j q hj => ?_⟩
  obtain ⟨n, C, k, c, B, i, d, h1, h2, h3, h4⟩ := hx j q hj
  exact ⟨n, C, k, c, B, i, d, (hb.cell (World.block_lt_of_cell? w _ h1)).trans h1, (hb.cell (World.block_lt_of_cell? w _ h2)).trans h2, (hb.cell (World.block_lt_of_cell? w _ h3)).trans h3, h4.grow hb⟩
theorem CellsQ.at_ {w : World} {A : Option Addr} {Q : List Rat} (h : CellsQ w A Q) {j : Nat} {q : Rat} (hj : Q[j]? = some q) : ∃ b o n C k c B i d, A = some ⟨b, o, none⟩ ∧ w.cell? ⟨b, o + j * 3, none⟩ = some (.bool n) ∧ w.cell? ⟨b, o + j * 3 + 1, none⟩ = some (.slice C k c) ∧ w.cell? ⟨b, o + j * 3 + 2, none⟩ = some (.slice B i d) ∧ QC w n (.slice C k c) (.slice B i d) q := by
  obtain ⟨b, o, e, hx⟩ := h (by have := (List.getElem?_eq_some_iff.1 hj).1; omega)
  obtain ⟨n, C, k, c, B, i, d, h1, h2, h3, h4⟩ := hx j q hj
  exact ⟨b, o, n, C, k, c, B, i, d, e, h1, h2, h3, h4⟩
theorem RowQ.grow {w w' : World} {v : Value} {Q : List Rat} (h : RowQ w v Q) (hb : Grows w w') : RowQ w' v Q := by
  obtain ⟨A, c, e, s⟩ := h
  exact ⟨A, c, e, s.below hb⟩
theorem RowQ.two {w : World} {T : TypeId} {n n' : Bool} {A B A' B' : Option Addr} {k c j d k' c' j' d' : Nat} {q r : Rat} (h : QC w n (.slice A k c) (.slice B j d) q) (h' : QC w n' (.slice A' k' c') (.slice B' j' d') r) : RowQ (w.alloc (.cells #[.bool n, .slice A k c, .slice B j d, .bool n', .slice A' k' c', .slice B' j' d'] T)) (.slice (some ⟨w.heap.size, 0, none⟩) 2 2) [q, r] := by
  refine ⟨_, 2, rfl, fun _ => ⟨w.heap.size, 0, rfl, fun i x hi => ?_⟩⟩
  have hc : ∀ i, (w.alloc (.cells #[.bool n, .slice A k c, .slice B j d, .bool n', .slice A' k' c', .slice B' j' d'] T)).cell? ⟨w.heap.size, i, none⟩ = #[Value.bool n, .slice A k c, .slice B j d, .bool n', .slice A' k' c', .slice B' j' d'][i]? := fun i => cell_of_row _ _ _ _ _ _ (heap_alloc_new w _)
  have hg : Grows w (w.alloc (.cells #[.bool n, .slice A k c, .slice B j d, .bool n', .slice A' k' c', .slice B' j' d'] T)) := (Grows.refl _).alloc _
  rcases i with _ | _ | i
  · obtain rfl : q = x := by simpa using hi
    exact ⟨n, A, k, c, B, j, d, (hc 0).trans rfl, (hc 1).trans rfl, (hc 2).trans rfl, h.grow hg⟩
  · obtain rfl : r = x := by simpa using hi
    exact ⟨n', A', k', c', B', j', d', (hc 3).trans rfl, (hc 4).trans rfl, (hc 5).trans rfl, h'.grow hg⟩
  · simp at hi
theorem Qsz.zero : Qsz 0 1 := ⟨Nat.le_trans szz_zero (by decide), sz_le (by decide)⟩
theorem Qsz.parts {q r : Rat} {i j : Nat} (h : Qsz q i) (g : Qsz r j) (hij : i + j ≤ 1000) : szz (q.num * (r.den : Int)) ≤ 1000 ∧ szz (r.num * (q.den : Int)) ≤ 1000 ∧ sz (q.den * r.den) ≤ 1000 := by
  have hd : ∀ {d k : Nat}, sz d ≤ k → szz (d : Int) ≤ k := fun {d k} h => by unfold szz; rw [Int.natAbs_natCast]; exact h
  exact ⟨Nat.le_trans (szz_mul h.1 (hd g.2)) hij, Nat.le_trans (szz_mul g.1 (hd h.2)) (by omega), Nat.le_trans (sz_mul _ _) (by have := h.2; have := g.2; omega)⟩
theorem add_parts (q r : Rat) : mkRat (q.num * (r.den : Int) + r.num * (q.den : Int)) (q.den * r.den) = q + r := by
  rw [← Rat.mkRat_add_mkRat _ _ q.den_nz r.den_nz, Rat.mkRat_self, Rat.mkRat_self]
end Go.Num
namespace Go.Proofs.YtbippecchpaleaaGreatDoor
open Go.RowKit Go.Num Go.Kp
attribute [local go_sem] Oper.semAt_some u64_mask ev_const ev_func ev_global
section
variable {a : Act} {w : World} {d : Option Tmp} {ty : TypeId} {pos : String} {af : Array Edge} {gu : Option (Nat × Bool)}
theorem op_rowQ2 (t t' : Nat) {n n' : Bool} {A B A' B' : Option Addr} {k c j e k' c' j' e' : Nat} (he : ev a (.tmp t) = .agg #[.bool n, .slice A k c, .slice B j e]) (he' : ev a (.tmp t') = .agg #[.bool n', .slice A' k' c', .slice B' j' e']) :
    (execOp (ev a) ⟨d, .buildSlice 95 2 #[(0, .tmp t), (1, .tmp t')], ty, pos, af, gu⟩).run Tryz.prog w = .ok (.value (.slice (some ⟨w.heap.size, 0, none⟩) 2 2)) (w.alloc (.cells #[.bool n, .slice A k c, .slice B j e, .bool n', .slice A' k' c', .slice B' j' e'] 26)) := by
  go_simp
theorem op_load_three (t g i : Nat) {x y z : Value} (he : ev a (.tmp t) = .pointer (some ⟨g, i, none⟩)) (h0 : w.cell? ⟨g, i, none⟩ = some x) (h1 : w.cell? ⟨g, i + 1, none⟩ = some y) (h2 : w.cell? ⟨g, i + 2, none⟩ = some z) :
    (execOp (ev a) ⟨d, .load 26 (.tmp t), ty, pos, af, gu⟩).run Tryz.prog w = .ok (.value (.agg #[x, y, z])) w := by
  go_simp
end
set_option maxHeartbeats 4000000 in
set_option maxRecDepth 100000 in
theorem sum1_v (w : World) {u v m : Value} {x y : Int} {l : List Nat} {a : Nat} (h0 : WV w u x) (h1 : WV w v y) (h2 : LV w m l a) (hl : l.length ≤ 1000) (hpos : 0 < a) (hs : szz (x + y) ≤ 1000) : Calls Tryz.prog 98 #[u, v, m] w fun e w' => ∃ r, e = .returned r ∧ RV w' r (mkRat (x + y) a) ∧ Grows w w' := by
  have hsa : sz a ≤ 1000 := Nat.le_trans h2.sz_le hl
  obtain ⟨A9, c9, rfl, q9⟩ := h2
  obtain ⟨n0, A0, k0, c0, rfl, s0⟩ := h0
  have hk0 : szz x ≤ 1000 := s0.size
  obtain ⟨n1, A1, k1, c1, rfl, s1⟩ := h1
  have hk1 : szz y ≤ 1000 := s1.size
  go_enter Tryz.func98, Tryz.ntmps98
  go_upto_region 1 with fail
  obtain ⟨x0, ex0, HB, D0, D1, DR⟩ := st_223 w 24 (.bool n0) (.slice A0 k0 c0) 24 (.bool n1) (.slice A1 k1 c1) 26 (.bool false) (.slice none 0 0) (.slice none 0 0)
  rw [ex0]
  clear ex0
  replace HB := Lib.hid HB
  replace D0 := Lib.hid D0
  replace D1 := Lib.hid D1
  replace DR := Lib.hid DR
  have SN0 := Lib.hid (s0.below HB.out)
  clear s0
  have SN1 := Lib.hid (s1.below HB.out)
  clear s1
  have Q9 := Lib.hid (q9.below HB.out)
  clear q9
  refine wp_region_calm 6 [] ([fun vq wq => WV wq vq x,
      fun vq wq => WV wq vq y,
      fun vq wq => RowV wq vq [x, y],
      fun vq wq => ZV wq vq ((x + y)),
      fun vq _ => vq = .slice A9 l.length c9,
      fun vq wq => RV wq vq ((mkRat ((x + y)) a))]) (by kernel_rfl) (by decide) ?_ ?_ ?_
  · intro j hj; cases hj
  · refine po rfl (fun lq aq wq hk hr K hK => ?_) ?_
    · have B3 : ev aq (.tmp 3) = .pointer (some ⟨w.heap.size, 0, none⟩) := hk.base 3 (by kernel_rfl) rfl
      have hb : Below _ _ _ := hk.ext
      exact vc hK (op_load 3 _ B3 (D0.out.below hb)) (fun w2 h2 => ⟨_, _, _, _, rfl, (SN0.out.below hb).below h2⟩)
    refine po rfl (fun lq aq wq hk hr K hK => ?_) ?_
    · have B4 : ev aq (.tmp 4) = .pointer (some ⟨w.heap.size + 1, 0, none⟩) := hk.base 4 (by kernel_rfl) rfl
      have hb : Below _ _ _ := hk.ext
      exact vc hK (op_load 4 _ B4 (D1.out.below hb)) (fun w2 h2 => ⟨_, _, _, _, rfl, (SN1.out.below hb).below h2⟩)
    refine po rfl (fun lq aq wq hk hr K hK => ?_) ?_
    · obtain ⟨v0, E0, r0⟩ := hk.dp hr 0 7 (by kernel_rfl)
      have r0 : WV wq v0 x := r0
      obtain ⟨n0, A0, k0, c0, rfl, s0⟩ := r0
      obtain ⟨v1, E1, r1⟩ := hk.dp hr 1 8 (by kernel_rfl)
      have r1 : WV wq v1 y := r1
      obtain ⟨n1, A1, k1, c1, rfl, s1⟩ := r1
      exact wp_of_value (op_row2 7 8 E0 E1) (hK.out _ _ ((Grows.refl _).alloc _) (fun w2 h2 => (RowV.two s0 s1).grow h2) (fun h => absurd h (by decide)))
    refine po rfl (fun lq aq wq hk hr K hK => ?_) ?_
    · obtain ⟨v2, E2, r2⟩ := hk.dp hr 2 9 (by kernel_rfl)
      have r2 : RowV wq v2 [x, y] := r2
      exact yc hK (by go_simp) (add2_v wq r2 hk0 hs) (fun u w1 hu w2 h2 => (hu).grow h2)
    refine po rfl (fun lq aq wq hk hr K hK => ?_) ?_
    · have B2 : ev aq (.tmp 2) = .slice A9 l.length c9 := hk.base 2 (by kernel_rfl) rfl
      exact vc hK (by go_simp) (fun w2 h2 => rfl)
    refine po rfl (fun lq aq wq hk hr K hK => ?_) ?_
    · obtain ⟨v3, E3, r3⟩ := hk.dp hr 3 10 (by kernel_rfl)
      have r3 : ZV wq v3 ((x + y)) := r3
      have E4 : ev aq (.tmp 11) = .slice A9 l.length c9 := hk.dc hr 4 (by kernel_rfl) fun _ _ h => h
      exact yc hK (by go_simp) (reduced_v wq (r3).wv (Q9.out.below hk.ext).lv hl hpos) (fun u w1 hu w2 h2 => (hu).grow h2)
    exact AllOps.nil
  intro V x1 hG hV hap
  have r5 : RV x1 (V 5) ((mkRat ((x + y)) a)) := hV 5 (by decide)
  clear hV hap
  simp only [List.take_succ_cons, List.take_zero, List.drop_succ_cons, List.drop_zero, putAll, Act.put, List.setIfInBounds_toArray, List.set_cons_zero, List.set_cons_succ]
  have hb := (show Below _ _ _ from hG)
  obtain ⟨nR, AR, kR, cR, BR, jR, dR, y9, eR, ey, hQ, HQ, c0, c1, c2⟩ := ret3 r5 (DR.out.below hb) (HB.out.trans (Below.mono hb HB.out.size)) (by omega)
  simp only [eR]
  refine wpList_of_skip rfl (op_store3 6 12 _ rfl rfl (DR.out.below hb)) ?_
  rw [ey]
  clear eR ey hb hG HB DR
  go_wp2_with fail
  refine bodyPost_ret (v := .agg #[.bool nR, .slice AR kR cR, .slice BR jR dR]) (by simp [results, Tryz.results98, go_sem, c0, c1, c2]) rfl ⟨_, rfl, hQ, HQ⟩
set_option maxHeartbeats 16000000 in
set_option maxRecDepth 100000 in
theorem qsum_v (w : World) {u : Value} {q r : Rat} (h0 : RowQ w u [q, r]) (hqs : Qsz q 300) (hrs : Qsz r 300) : Calls Tryz.prog 63 #[u] w fun e w' => ∃ x, e = .returned x ∧ RV w' x (q + r) ∧ Grows w w' := by
  obtain ⟨AR, cR, rfl, hcR⟩ := h0
  go_enter Tryz.func63, Tryz.ntmps63
  go_upto_region 1 with fail
  obtain ⟨x0, ex0, HB, DR⟩ := st_3 w 26 (.bool false) (.slice none 0 0) (.slice none 0 0)
  rw [ex0]
  clear ex0
  replace HB := Lib.hid HB
  replace DR := Lib.hid DR
  have HC := Lib.hid hcR
  clear hcR
  have DS := DR
  clear DR
  have SNS := Lib.hid (Sound.nil_ x0 0).whole
  have SDS := Lib.hid (show Num x0 (.slice none 0 0) (limbs 0) 0 from (Sound.nil_ x0 0).num)
  refine wp_region_calm 2 [] ([fun vq wq => QV wq vq ((0 : Rat)),
      fun vq wq => RV wq vq ((0 : Rat))]) (by kernel_rfl) (by decide) ?_ ?_ ?_
  · intro j hj; cases hj
  · refine po rfl (fun lq aq wq hk hr K hK => ?_) ?_
    · have B2 : ev aq (.tmp 2) = .pointer (some ⟨w.heap.size, 0, none⟩) := hk.base 2 (by kernel_rfl) rfl
      have hb : Below _ _ _ := hk.ext
      exact vc hK (op_load3 2 _ B2 (DS.out.below hb)) (fun w2 h2 => QV.grow ⟨_, _, _, _, _, _, _, rfl, _, _, _, (SNS.out.below hb), (SDS.out.below hb), (show (limbs 0).length ≤ 1000 by rw [limbs_zero]; decide), (show (0 : Rat) = mkRat 0 (dn 0) from rfl)⟩ h2)
    refine po rfl (fun lq aq wq hk hr K hK => ?_) ?_
    · obtain ⟨v0, E0, r0⟩ := hk.dp hr 0 5 (by kernel_rfl)
      have r0 : QV wq v0 ((0 : Rat)) := r0
      exact yc hK (by go_simp) (made_v wq r0) (fun u w1 hu w2 h2 => (hu).grow h2)
    exact AllOps.nil
  intro V x1 hG hV hap
  have r1 : RV x1 (V 1) ((0 : Rat)) := hV 1 (by decide)
  clear hV hap
  simp only [List.take_succ_cons, List.take_zero, List.drop_succ_cons, List.drop_zero, putAll, Act.put, List.setIfInBounds_toArray, List.set_cons_zero, List.set_cons_succ]
  have hb := (show Below _ _ _ from hG)
  obtain ⟨nm2, Am2, km2, cm2, Bm2, jm2, dm2, em2, sm2, tm2, hdm2⟩ := r1
  simp only [em2]
  clear em2
  clear hG
  replace DS := DS.out.below hb
  refine wpList_of_skip rfl (op_store3 2 6 _ rfl rfl DS) ?_
  replace SNS := Lib.hid (sm2.put3 DS (.bool nm2) (.slice Am2 km2 cm2) (.slice Bm2 jm2 dm2))
  replace SDS := Lib.hid (tm2.put3 DS (.bool nm2) (.slice Am2 km2 cm2) (.slice Bm2 jm2 dm2))
  replace HB := Lib.hid (put3_below (x' := .bool nm2) (y' := .slice Am2 km2 cm2) (z' := .slice Bm2 jm2 dm2) (HB.out.trans (Below.mono hb HB.out.size)) (show w.heap.size ≤ w.heap.size by omega))
  replace DS := Lib.hid (put3_own (x' := .bool nm2) (y' := .slice Am2 km2 cm2) (z' := .slice Bm2 jm2 dm2) DS)
  clear hb sm2 tm2
  generalize put3 x1 w.heap.size (.bool nm2) (.slice Am2 km2 cm2) (.slice Bm2 jm2 dm2) = y3 at *
  go_wp2_with fail
  go_loopw [9] (fun iv wr => ∃ (k : Nat) (n : Bool) (A : Option Addr) (i c : Nat) (B : Option Addr) (j d : Nat), k ≤ 2 ∧ iv = .int .i64 k ∧ Hid (Box3 wr w.heap.size 26 (.bool n) (.slice A i c) (.slice B j d) ∧ Sound wr n (.slice A i c) (if k = 0 then (0 : Rat) else if k = 1 then q else q + r).num ∧ Num wr (.slice B j d) (limbs (if k = 0 then (0 : Rat) else if k = 1 then q else q + r).den) (if k = 0 then (0 : Rat) else if k = 1 then q else q + r).den ∧ sz (if k = 0 then (0 : Rat) else if k = 1 then q else q + r).den ≤ 1000 ∧ Below w.heap.size w wr)) (fun iv _ => 2 - (intOf iv).toNat)
  case atStart => exact ⟨0, nm2, Am2, km2, cm2, Bm2, jm2, dm2, Nat.zero_le _, rfl, Lib.hid ⟨DS.out, SNS.out, SDS.out, hdm2, HB.out⟩⟩
  case round =>
    clear DS SNS SDS HB
    obtain ⟨k, n, A, i, c, B, j, d, hk, rfl, HI⟩ := hrel
    obtain ⟨DS, SNS, SDS, hdS, HB⟩ := HI.out
    clear HI
    obtain ⟨F, hF⟩ : ∃ F, (if k = 0 then (0 : Rat) else if k = 1 then q else q + r) = F := ⟨_, rfl⟩
    rw [hF] at SNS SDS hdS
    replace hF := Lib.hid hF
    replace DS := Lib.hid DS
    replace SNS := Lib.hid SNS
    replace SDS := Lib.hid SDS
    replace HB := Lib.hid HB
    rcases Nat.lt_or_ge k 2 with hlt | hge
    · skip
      obtain ⟨x, hx⟩ := get_some (l := [q, r]) (k := k) (by simpa using hlt)
      obtain ⟨b, o, nx, Cx, kx, cx, Bx, ix, dx, rfl, h1, h2, h3, hq9⟩ := (HC.out.below HB.out).at_ hx
      obtain ⟨zx, lx, ax, tN, tD, hlx, ex⟩ := hq9
      have hzx : szz zx ≤ 1000 := tN.size
      have hsF : Qsz F 300 := by
        rw [← hF.out]
        have hk2 : k = 0 ∨ k = 1 := by omega
        rcases hk2 with rfl | rfl
        · exact Qsz.zero.mono (by decide)
        · exact hqs
      have hsx : Qsz x 300 := by
        have hk2 : k = 0 ∨ k = 1 := by omega
        rcases hk2 with rfl | rfl
        · obtain rfl : q = x := by simpa using hx
          exact hqs
        · obtain rfl : r = x := by simpa using hx
          exact hrs
      have hnext : (if k + 1 = 0 then (0 : Rat) else if k + 1 = 1 then q else q + r) = F + x := by
        rw [← hF.out]
        have hk2 : k = 0 ∨ k = 1 := by omega
        rcases hk2 with rfl | rfl
        · obtain rfl : q = x := by simpa using hx
          simp [Rat.zero_add]
        · obtain rfl : r = x := by simpa using hx
          simp
      obtain ⟨hp1, hp2, hp3⟩ := hsF.parts hsx (by decide)
      have hp4 : szz (F.num * (x.den : Int) + x.num * (F.den : Int)) ≤ 1000 := by
        have hd : ∀ {d k : Nat}, sz d ≤ k → szz (d : Int) ≤ k := fun {d k} h => by unfold szz; rw [Int.natAbs_natCast]; exact h
        exact Nat.le_trans (szz_add (szz_mul hsF.1 (hd hsx.2)) (szz_mul hsx.1 (hd hsF.2))) (by decide)
      have hbl : b < wr.heap.size := World.block_lt_of_cell? wr _ h1
      replace hnext := Lib.hid hnext
      replace tN := Lib.hid tN
      replace tD := Lib.hid tD
      clear hx hsF hsx
      go_upto_region 4 with fail
      refine wp_region_calm 3 [2] ([fun vq _ => vq = .pointer (some ⟨b, o + k * 3, none⟩),
          fun vq _ => vq = .agg #[.bool nx, .slice Cx kx cx, .slice Bx ix dx],
          fun vq wq => ∃ bq, vq = .pointer (some ⟨bq, 0, none⟩) ∧ BoxN wq bq 26 #[.bool false, .slice none 0 0, .slice none 0 0] ∧ (wr).heap.size ≤ bq]) (by kernel_rfl) (by decide) ?_ ?_ ?_
      · intro j hj v w h
        simp only [List.mem_cons, List.not_mem_nil, or_false] at hj
        subst hj
        all_goals (obtain ⟨b, rfl, hB, _⟩ := h; exact hB.lt)
      · refine po rfl (fun lq aq wq hk hr K hK => ?_) ?_
        · have B7 : ev aq (.tmp 7) = .slice (some ⟨b, o, none⟩) 2 cR := hk.base 7 (by kernel_rfl) rfl
          have B9 : ev aq (.tmp 9) = .int .i64 k := hk.base 9 (by kernel_rfl) rfl
          exact vc hK (by go_simp) (fun w2 h2 => rfl)
        refine po rfl (fun lq aq wq hk hr K hK => ?_) ?_
        · have E0 : ev aq (.tmp 11) = .pointer (some ⟨b, o + k * 3, none⟩) := hk.dc hr 0 (by kernel_rfl) fun _ _ h => h
          have hb : Below _ _ _ := hk.ext
          exact vc hK (op_load_three 11 _ _ E0 ((hb.cell (p := ⟨b, o + k * 3, none⟩) hbl).trans h1) ((hb.cell (p := ⟨b, o + k * 3 + 1, none⟩) hbl).trans h2) ((hb.cell (p := ⟨b, o + k * 3 + 2, none⟩) hbl).trans h3)) (fun w2 h2 => rfl)
        refine po rfl (fun lq aq wq hk hr K hK => ?_) ?_
        · exact wp_of_value (by go_simp) (hK.out _ _ ((Grows.refl _).alloc _) (fun w2 h2 => ⟨_, rfl, (BoxN.new wq 26 _).below h2, hk.ext.size⟩) (fun _ => Nat.le_refl _))
        exact AllOps.nil
      intro V x4 hG hV hap
      have r1 : (V 1) = .agg #[.bool nx, .slice Cx kx cx, .slice Bx ix dx] := hV 1 (by decide)
      have r2 : ∃ bq, (V 2) = .pointer (some ⟨bq, 0, none⟩) ∧ BoxN x4 bq 26 #[.bool false, .slice none 0 0, .slice none 0 0] ∧ (wr).heap.size ≤ bq := hV 2 (by decide)
      clear hV
      simp only [List.take_succ_cons, List.take_zero, List.drop_succ_cons, List.drop_zero, putAll, Act.put, List.setIfInBounds_toArray, List.set_cons_zero, List.set_cons_succ]
      have hb := (show Below _ _ _ from hG)
      obtain ⟨bX, eX, DX, gX⟩ := r2
      simp only [eX, r1]
      clear eX r1 hap h1 h2 h3
      refine wpList_of_skip rfl (op_store3 4 12 _ rfl rfl DX) ?_
      have lwS := DS.out.lt
      have hB := put3_below (x' := .bool nx) (y' := .slice Cx kx cx) (z' := .slice Bx ix dx) hb gX
      replace DX : Box3 _ bX 26 (.bool nx) (.slice Cx kx cx) (.slice Bx ix dx) := put3_own (x' := .bool nx) (y' := .slice Cx kx cx) (z' := .slice Bx ix dx) DX
      replace tN := Lib.hid (tN.out.below hB)
      replace tD := Lib.hid (tD.out.below hB)
      clear hb hG
      generalize put3 x4 bX (.bool nx) (.slice Cx kx cx) (.slice Bx ix dx) = y7 at *
      replace DS := Lib.hid (DS.out.below hB)
      replace SNS := Lib.hid (SNS.out.below hB)
      replace SDS := Lib.hid (SDS.out.below hB)
      replace HB := Lib.hid (HB.out.trans (Below.mono hB HB.out.size))
      replace DX := Lib.hid DX
      have SNX := tN
      have SDX := tD
      clear tN tD hB
      go_upto_region 5 with fail
      have hne : w.heap.size ≠ bX := by omega
      refine wp_region_calm 3 [] ([fun vq wq => RV wq vq F,
          fun vq wq => QV wq vq x,
          fun vq wq => RV wq vq ((F + x))]) (by kernel_rfl) (by decide) ?_ ?_ ?_
      · intro j hj; cases hj
      · refine po rfl (fun lq aq wq hk hr K hK => ?_) ?_
        · have B2 : ev aq (.tmp 2) = .pointer (some ⟨w.heap.size, 0, none⟩) := hk.base 2 (by kernel_rfl) rfl
          have hb : Below _ _ _ := hk.ext
          exact vc hK (op_load3 2 _ B2 (DS.out.below hb)) (fun w2 h2 => RV.grow ⟨_, _, _, _, _, _, _, rfl, (SNS.out.below hb), (SDS.out.below hb), hdS⟩ h2)
        refine po rfl (fun lq aq wq hk hr K hK => ?_) ?_
        · have B4 : ev aq (.tmp 4) = .pointer (some ⟨bX, 0, none⟩) := hk.base 4 (by kernel_rfl) rfl
          have hb : Below _ _ _ := hk.ext
          exact vc hK (op_load3 4 _ B4 (DX.out.below hb)) (fun w2 h2 => QV.grow ⟨_, _, _, _, _, _, _, rfl, _, _, _, (SNX.out.below hb), (SDX.out.below hb), hlx, ex⟩ h2)
        refine po rfl (fun lq aq wq hk hr K hK => ?_) ?_
        · obtain ⟨v0, E0, r0⟩ := hk.dp hr 0 13 (by kernel_rfl)
          have r0 : RV wq v0 F := r0
          obtain ⟨v1, E1, r1⟩ := hk.dp hr 1 14 (by kernel_rfl)
          have r1 : QV wq v1 x := r1
          exact yc hK (f := 67) (vs := #[v0, v1, .func (.func 98) #[] #[]]) (by go_simp) (two_v wq (F + x) _ #[] (r0).qv r1 sum1_f hp1 hp2 hp3 (fun w1 u1 v1 m1 _ hu hv hm => by have h := sum1_v w1 hu.wv hv.wv hm hp3 (Nat.mul_pos F.den_pos x.den_pos) hp4; rwa [add_parts] at h)) (fun u w1 hu w2 h2 => (hu).grow h2)
        exact AllOps.nil
      intro V x5 hG hV hap
      have r2 : RV x5 (V 2) ((F + x)) := hV 2 (by decide)
      clear hV hap
      simp only [List.take_succ_cons, List.take_zero, List.drop_succ_cons, List.drop_zero, putAll, Act.put, List.setIfInBounds_toArray, List.set_cons_zero, List.set_cons_succ]
      have hb := (show Below _ _ _ from hG)
      obtain ⟨nm6, Am6, km6, cm6, Bm6, jm6, dm6, em6, sm6, tm6, hdm6⟩ := r2
      simp only [em6]
      clear em6
      clear hG
      replace DS := DS.out.below hb
      refine wpList_of_skip rfl (op_store3 2 15 _ rfl rfl DS) ?_
      replace DX := Lib.hid (put3_far (x' := .bool nm6) (y' := .slice Am6 km6 cm6) (z' := .slice Bm6 jm6 dm6) (DX.out.below hb) (show bX ≠ w.heap.size by omega))
      replace SNX := Lib.hid ((SNX.out.below hb).put3 DS (.bool nm6) (.slice Am6 km6 cm6) (.slice Bm6 jm6 dm6))
      replace SDX := Lib.hid ((SDX.out.below hb).put3 DS (.bool nm6) (.slice Am6 km6 cm6) (.slice Bm6 jm6 dm6))
      replace SNS := Lib.hid (sm6.put3 DS (.bool nm6) (.slice Am6 km6 cm6) (.slice Bm6 jm6 dm6))
      replace SDS := Lib.hid (tm6.put3 DS (.bool nm6) (.slice Am6 km6 cm6) (.slice Bm6 jm6 dm6))
      replace HB := Lib.hid (put3_below (x' := .bool nm6) (y' := .slice Am6 km6 cm6) (z' := .slice Bm6 jm6 dm6) (HB.out.trans (Below.mono hb HB.out.size)) (show w.heap.size ≤ w.heap.size by omega))
      replace DS := Lib.hid (put3_own (x' := .bool nm6) (y' := .slice Am6 km6 cm6) (z' := .slice Bm6 jm6 dm6) DS)
      clear hb sm6 tm6
      generalize put3 x5 w.heap.size (.bool nm6) (.slice Am6 km6 cm6) (.slice Bm6 jm6 dm6) = y7 at *
      go_wp2_with fail
      go_roundw
      case rel =>
        first
          | exact ⟨k + 1, _, _, _, _, _, _, _, by omega, (by first | rfl | simp), Lib.hid ⟨DS.out, hnext.out.symm ▸ SNS.out, hnext.out.symm ▸ SDS.out, hnext.out.symm ▸ hdm6, HB.out⟩⟩
          | ((repeat apply Exists.intro); refine ⟨?_, rfl⟩; exact ⟨k + 1, _, _, _, _, _, _, _, by omega, (by first | rfl | simp), Lib.hid ⟨DS.out, hnext.out.symm ▸ SNS.out, hnext.out.symm ▸ SDS.out, hnext.out.symm ▸ hdm6, HB.out⟩⟩)
      case measure => simp [intOf]; omega
    · skip
      obtain rfl : k = 2 := by omega
      have eF : F = q + r := by rw [← hF.out]; rfl
      subst eF
      have c0 := DS.out.c0
      have c1 := DS.out.c1
      have c2 := DS.out.c2
      have f0 := DS.out.f 0
      have f1 := DS.out.f 1
      have f2 := DS.out.f 2
      have g0 := (DS.out.set0 (.bool n)).c1
      have g1 := ((DS.out.set0 (.bool n)).set1 (.slice A i c)).c2
      have g3 := (DS.out.set0 (.bool n)).f 1
      have g4 := ((DS.out.set0 (.bool n)).set1 (.slice A i c)).f 2
      have Q0 := ((DS.out.set0 (.bool n)).set1 (.slice A i c)).set2 (.slice B j d)
      have k0 := Q0.c0
      have k1 := Q0.c1
      have k2 := Q0.c2
      go_wp2_with fail
      refine bodyPost_ret (v := .agg #[.bool n, .slice A i c, .slice B j d]) (by simp [results, Tryz.results63, go_sem, k0, k1, k2]) rfl ⟨_, rfl, ⟨_, _, _, _, _, _, _, rfl, ?_, ?_, hdS⟩, ?_⟩
      · exact SNS.out.put3 DS.out (.bool n) (.slice A i c) (.slice B j d)
      · exact SDS.out.put3 DS.out (.bool n) (.slice A i c) (.slice B j d)
      · exact put3_below HB.out (Nat.le_refl _)
end Go.Proofs.YtbippecchpaleaaGreatDoor
/- rat.Add, Sub, Div: what each returns. -/
namespace Go.Num
open Go Go.RowKit Go.Kp
theorem div_parts (q r : Rat) : Rat.divInt (q.num * (r.den : Int)) (r.num * (q.den : Int)) = q / r := by
  rw [Rat.div_def, Rat.inv_def, Int.mul_comm r.num]
  conv => rhs; rw [← Rat.num_divInt_den q]
  rw [Rat.divInt_mul_divInt]
end Go.Num
namespace Go.Proofs.YtbippecchpaleaaGreatDoor
open Go.RowKit Go.Num Go.Kp
attribute [local go_sem] Oper.semAt_some u64_mask ev_const ev_func ev_global
set_option maxHeartbeats 4000000 in
set_option maxRecDepth 100000 in
theorem qadd_v (w : World) {u v : Value} {q r : Rat} (h0 : QV w u q) (h1 : QV w v r) (hqs : Qsz q 300) (hrs : Qsz r 300) : Calls Tryz.prog 22 #[u, v] w fun e w' => ∃ x, e = .returned x ∧ RV w' x (q + r) ∧ Grows w w' := by
  obtain ⟨n0, A0, k0, c0, B0, j0, d0, rfl, z0, l0, a0, s0, t0, hl0, e0⟩ := h0
  have hk0 : szz z0 ≤ 1000 := s0.size
  obtain ⟨n1, A1, k1, c1, B1, j1, d1, rfl, z1, l1, a1, s1, t1, hl1, e1⟩ := h1
  have hk1 : szz z1 ≤ 1000 := s1.size
  go_enter Tryz.func22, Tryz.ntmps22
  go_upto_region 1 with fail
  obtain ⟨x0, ex0, HB, D0, D1, DR⟩ := st_333 w 26 (.bool n0) (.slice A0 k0 c0) (.slice B0 j0 d0) 26 (.bool n1) (.slice A1 k1 c1) (.slice B1 j1 d1) 26 (.bool false) (.slice none 0 0) (.slice none 0 0)
  rw [ex0]
  clear ex0
  replace HB := Lib.hid HB
  replace D0 := Lib.hid D0
  replace D1 := Lib.hid D1
  replace DR := Lib.hid DR
  have SN0 := Lib.hid (s0.below HB.out)
  clear s0
  have SD0 := Lib.hid (t0.below HB.out)
  clear t0
  have SN1 := Lib.hid (s1.below HB.out)
  clear s1
  have SD1 := Lib.hid (t1.below HB.out)
  clear t1
  refine wp_region_calm 4 [] ([fun vq wq => QV wq vq q,
      fun vq wq => QV wq vq r,
      fun vq wq => RowQ wq vq [q, r],
      fun vq wq => RV wq vq ((q + r))]) (by kernel_rfl) (by decide) ?_ ?_ ?_
  · intro j hj; cases hj
  · refine po rfl (fun lq aq wq hk hr K hK => ?_) ?_
    · have B2 : ev aq (.tmp 2) = .pointer (some ⟨w.heap.size, 0, none⟩) := hk.base 2 (by kernel_rfl) rfl
      have hb : Below _ _ _ := hk.ext
      exact vc hK (op_load3 2 _ B2 (D0.out.below hb)) (fun w2 h2 => QV.grow ⟨_, _, _, _, _, _, _, rfl, _, _, _, (SN0.out.below hb), (SD0.out.below hb), hl0, e0⟩ h2)
    refine po rfl (fun lq aq wq hk hr K hK => ?_) ?_
    · have B3 : ev aq (.tmp 3) = .pointer (some ⟨w.heap.size + 1, 0, none⟩) := hk.base 3 (by kernel_rfl) rfl
      have hb : Below _ _ _ := hk.ext
      exact vc hK (op_load3 3 _ B3 (D1.out.below hb)) (fun w2 h2 => QV.grow ⟨_, _, _, _, _, _, _, rfl, _, _, _, (SN1.out.below hb), (SD1.out.below hb), hl1, e1⟩ h2)
    refine po rfl (fun lq aq wq hk hr K hK => ?_) ?_
    · obtain ⟨v0, E0, r0⟩ := hk.dp hr 0 5 (by kernel_rfl)
      have r0 : QV wq v0 q := r0
      obtain ⟨n0, A0, k0, c0, B0, j0, d0, rfl, z0, l0, a0, s0⟩ := r0
      obtain ⟨v1, E1, r1⟩ := hk.dp hr 1 6 (by kernel_rfl)
      have r1 : QV wq v1 r := r1
      obtain ⟨n1, A1, k1, c1, B1, j1, d1, rfl, z1, l1, a1, s1⟩ := r1
      exact wp_of_value (op_rowQ2 5 6 E0 E1) (hK.out _ _ ((Grows.refl _).alloc _) (fun w2 h2 => (RowQ.two ⟨z0, l0, a0, s0⟩ ⟨z1, l1, a1, s1⟩).grow h2) (fun h => absurd h (by decide)))
    refine po rfl (fun lq aq wq hk hr K hK => ?_) ?_
    · obtain ⟨v2, E2, r2⟩ := hk.dp hr 2 7 (by kernel_rfl)
      have r2 : RowQ wq v2 [q, r] := r2
      exact yc hK (by go_simp) (qsum_v wq r2 hqs hrs) (fun u w1 hu w2 h2 => (hu).grow h2)
    exact AllOps.nil
  intro V x1 hG hV hap
  have r3 : RV x1 (V 3) ((q + r)) := hV 3 (by decide)
  clear hV hap
  simp only [List.take_succ_cons, List.take_zero, List.drop_succ_cons, List.drop_zero, putAll, Act.put, List.setIfInBounds_toArray, List.set_cons_zero, List.set_cons_succ]
  have hb := (show Below _ _ _ from hG)
  obtain ⟨nR, AR, kR, cR, BR, jR, dR, y9, eR, ey, hQ, HQ, c0, c1, c2⟩ := ret3 r3 (DR.out.below hb) (HB.out.trans (Below.mono hb HB.out.size)) (by omega)
  simp only [eR]
  refine wpList_of_skip rfl (op_store3 4 8 _ rfl rfl (DR.out.below hb)) ?_
  rw [ey]
  clear eR ey hb hG HB DR
  go_wp2_with fail
  refine bodyPost_ret (v := .agg #[.bool nR, .slice AR kR cR, .slice BR jR dR]) (by simp [results, Tryz.results22, go_sem, c0, c1, c2]) rfl ⟨_, rfl, hQ, HQ⟩
set_option maxHeartbeats 4000000 in
set_option maxRecDepth 100000 in
theorem qsub_v (w : World) {u v : Value} {q r : Rat} (h0 : QV w u q) (h1 : QV w v r) (hqs : Qsz q 300) (hrs : Qsz r 300) : Calls Tryz.prog 24 #[u, v] w fun e w' => ∃ x, e = .returned x ∧ RV w' x (q - r) ∧ Grows w w' := by
  obtain ⟨n0, A0, k0, c0, B0, j0, d0, rfl, z0, l0, a0, s0, t0, hl0, e0⟩ := h0
  have hk0 : szz z0 ≤ 1000 := s0.size
  obtain ⟨n1, A1, k1, c1, B1, j1, d1, rfl, z1, l1, a1, s1, t1, hl1, e1⟩ := h1
  have hk1 : szz z1 ≤ 1000 := s1.size
  go_enter Tryz.func24, Tryz.ntmps24
  go_upto_region 1 with fail
  obtain ⟨x0, ex0, HB, D0, D1, DR⟩ := st_333 w 26 (.bool n0) (.slice A0 k0 c0) (.slice B0 j0 d0) 26 (.bool n1) (.slice A1 k1 c1) (.slice B1 j1 d1) 26 (.bool false) (.slice none 0 0) (.slice none 0 0)
  rw [ex0]
  clear ex0
  replace HB := Lib.hid HB
  replace D0 := Lib.hid D0
  replace D1 := Lib.hid D1
  replace DR := Lib.hid DR
  have SN0 := Lib.hid (s0.below HB.out)
  clear s0
  have SD0 := Lib.hid (t0.below HB.out)
  clear t0
  have SN1 := Lib.hid (s1.below HB.out)
  clear s1
  have SD1 := Lib.hid (t1.below HB.out)
  clear t1
  refine wp_region_going 5 [] ([fun vq wq => QV wq vq q,
      fun vq wq => QV wq vq r,
      fun vq wq => RV wq vq ((-r)),
      fun vq wq => RowQ wq vq [q, (-r)],
      fun vq wq => RV wq vq ((q + -r))]) (by kernel_rfl) (by kernel_rfl) (by decide) (by kernel_rfl) (by kernel_rfl) ?_ ?_ ?_
  · intro j hj; cases hj
  · refine po rfl (fun lq aq wq hk hr K hK => ?_) ?_
    · have B2 : ev aq (.tmp 2) = .pointer (some ⟨w.heap.size, 0, none⟩) := hk.base 2 (by kernel_rfl) rfl
      have hb := grows_of hk.ext
      exact vc hK (op_load3 2 _ B2 (D0.out.below hb)) (fun w2 h2 => QV.grow ⟨_, _, _, _, _, _, _, rfl, _, _, _, (SN0.out.below hb), (SD0.out.below hb), hl0, e0⟩ h2)
    refine po rfl (fun lq aq wq hk hr K hK => ?_) ?_
    · have B3 : ev aq (.tmp 3) = .pointer (some ⟨w.heap.size + 1, 0, none⟩) := hk.base 3 (by kernel_rfl) rfl
      have hb := grows_of hk.ext
      exact vc hK (op_load3 3 _ B3 (D1.out.below hb)) (fun w2 h2 => QV.grow ⟨_, _, _, _, _, _, _, rfl, _, _, _, (SN1.out.below hb), (SD1.out.below hb), hl1, e1⟩ h2)
    refine po rfl (fun lq aq wq hk hr K hK => ?_) ?_
    · obtain ⟨v1, E1, r1⟩ := hk.dp hr 1 6 (by kernel_rfl)
      have r1 : QV wq v1 r := r1
      exact yc hK (by go_simp) (rneg_v wq r1) (fun u w1 hu w2 h2 => (hu).grow h2)
    refine po rfl (fun lq aq wq hk hr K hK => ?_) ?_
    · obtain ⟨v0, E0, r0⟩ := hk.dp hr 0 5 (by kernel_rfl)
      have r0 : QV wq v0 q := r0
      obtain ⟨n0, A0, k0, c0, B0, j0, d0, rfl, z0, l0, a0, s0⟩ := r0
      obtain ⟨v2, E2, r2⟩ := hk.dp hr 2 7 (by kernel_rfl)
      have r2 : RV wq v2 ((-r)) := r2
      obtain ⟨n2, A2, k2, c2, B2, j2, d2, rfl, z2, l2, a2, s2⟩ := (r2).qv
      exact wp_of_value (op_rowQ2 5 7 E0 E2) (hK.out _ _ ((Grows.refl _).alloc _) (fun w2 h2 => (RowQ.two ⟨z0, l0, a0, s0⟩ ⟨z2, l2, a2, s2⟩).grow h2) (fun h => absurd h (by decide)))
    refine po rfl (fun lq aq wq hk hr K hK => ?_) ?_
    · obtain ⟨v3, E3, r3⟩ := hk.dp hr 3 8 (by kernel_rfl)
      have r3 : RowQ wq v3 [q, (-r)] := r3
      exact yc hK (by go_simp) (qsum_v wq r3 hqs (Qsz.neg hrs)) (fun u w1 hu w2 h2 => (hu).grow h2)
    exact AllOps.nil
  intro V x1 hG hV hap
  have r4 : RV x1 (V 4) ((q + -r)) := hV 4 (by decide)
  clear hV hap
  simp only [List.take_succ_cons, List.take_zero, List.drop_succ_cons, List.drop_zero, putAll, Act.put, List.setIfInBounds_toArray, List.set_cons_zero, List.set_cons_succ]
  have hb := grows_of hG
  obtain ⟨nR, AR, kR, cR, BR, jR, dR, y9, eR, ey, hQ, HQ, c0, c1, c2⟩ := ret3 r4 (DR.out.below hb) (HB.out.trans (Below.mono hb HB.out.size)) (by omega)
  simp only [eR]
  refine wpList_of_skip rfl (op_store3 4 9 _ rfl rfl (DR.out.below hb)) ?_
  rw [ey]
  clear eR ey hb hG HB DR
  go_wp2_with fail
  refine bodyPost_ret (v := .agg #[.bool nR, .slice AR kR cR, .slice BR jR dR]) (by simp [results, Tryz.results24, go_sem, c0, c1, c2]) rfl ⟨_, rfl, (RV.to hQ (Rat.sub_eq_add_neg q r).symm), HQ⟩
set_option maxHeartbeats 16000000 in
set_option maxRecDepth 100000 in
theorem qdiv0_v (w : World) {u v : Value} {q r : Rat} (h0 : QV w u q) (h1 : QV w v r) (hqs : Qsz q 300) (hrs : Qsz r 300) (hr0 : r.num = 0) : Calls Tryz.prog 13 #[u, v] w fun e w' => ∃ y, e = .returned y ∧ (∃ x, y = .tuple #[x, .int .i64 3] ∧ RV w' x ((0 : Int) : Rat)) ∧ Grows w w' := by
  obtain ⟨n0, A0, k0, c0, B0, j0, d0, rfl, z0, l0, a0, s0, t0, hl0, e0⟩ := h0
  have hk0 : szz z0 ≤ 1000 := s0.size
  obtain ⟨n1, A1, k1, c1, B1, j1, d1, rfl, z1, l1, a1, s1, t1, hl1, e1⟩ := h1
  have hk1 : szz z1 ≤ 1000 := s1.size
  go_enter Tryz.func13, Tryz.ntmps13
  go_upto_region 1 with fail
  obtain ⟨x0, ex0, HB, D0, D1, DR⟩ := st_333 w 26 (.bool n0) (.slice A0 k0 c0) (.slice B0 j0 d0) 26 (.bool n1) (.slice A1 k1 c1) (.slice B1 j1 d1) 26 (.bool false) (.slice none 0 0) (.slice none 0 0)
  rw [ex0]
  clear ex0
  replace HB := Lib.hid HB
  replace D0 := Lib.hid D0
  replace D1 := Lib.hid D1
  replace DR := Lib.hid DR
  have SN0 := Lib.hid (s0.below HB.out)
  clear s0
  have SD0 := Lib.hid (t0.below HB.out)
  clear t0
  have SN1 := Lib.hid (s1.below HB.out)
  clear s1
  have SD1 := Lib.hid (t1.below HB.out)
  clear t1
  refine wp_region_going 4 [] ([fun vq wq => QV wq vq q,
      fun vq wq => RV wq vq q,
      fun vq wq => QV wq vq r,
      fun vq wq => RV wq vq r]) (by kernel_rfl) (by kernel_rfl) (by decide) (by kernel_rfl) (by kernel_rfl) ?_ ?_ ?_
  · intro j hj; cases hj
  · refine po rfl (fun lq aq wq hk hr K hK => ?_) ?_
    · have B2 : ev aq (.tmp 2) = .pointer (some ⟨w.heap.size, 0, none⟩) := hk.base 2 (by kernel_rfl) rfl
      have hb := grows_of hk.ext
      exact vc hK (op_load3 2 _ B2 (D0.out.below hb)) (fun w2 h2 => QV.grow ⟨_, _, _, _, _, _, _, rfl, _, _, _, (SN0.out.below hb), (SD0.out.below hb), hl0, e0⟩ h2)
    refine po rfl (fun lq aq wq hk hr K hK => ?_) ?_
    · obtain ⟨v0, E0, r0⟩ := hk.dp hr 0 6 (by kernel_rfl)
      have r0 : QV wq v0 q := r0
      exact yc hK (by go_simp) (made_v wq r0) (fun u w1 hu w2 h2 => (hu).grow h2)
    refine po rfl (fun lq aq wq hk hr K hK => ?_) ?_
    · have B3 : ev aq (.tmp 3) = .pointer (some ⟨w.heap.size + 1, 0, none⟩) := hk.base 3 (by kernel_rfl) rfl
      have hb := grows_of hk.ext
      exact vc hK (op_load3 3 _ B3 (D1.out.below hb)) (fun w2 h2 => QV.grow ⟨_, _, _, _, _, _, _, rfl, _, _, _, (SN1.out.below hb), (SD1.out.below hb), hl1, e1⟩ h2)
    refine po rfl (fun lq aq wq hk hr K hK => ?_) ?_
    · obtain ⟨v2, E2, r2⟩ := hk.dp hr 2 8 (by kernel_rfl)
      have r2 : QV wq v2 r := r2
      exact yc hK (by go_simp) (made_v wq r2) (fun u w1 hu w2 h2 => (hu).grow h2)
    exact AllOps.nil
  intro V x1 hG hV hap
  have r1 : RV x1 (V 1) q := hV 1 (by decide)
  have r3 : RV x1 (V 3) r := hV 3 (by decide)
  clear hV hap
  simp only [List.take_succ_cons, List.take_zero, List.drop_succ_cons, List.drop_zero, putAll, Act.put, List.setIfInBounds_toArray, List.set_cons_zero, List.set_cons_succ]
  have hb := grows_of hG
  obtain ⟨nm2, Am2, km2, cm2, Bm2, jm2, dm2, em2, sm2, tm2, hdm2⟩ := r1
  simp only [em2]
  clear em2
  obtain ⟨nm3, Am3, km3, cm3, Bm3, jm3, dm3, em3, sm3, tm3, hdm3⟩ := r3
  simp only [em3]
  clear em3
  clear hG
  replace D0 := D0.out.below hb
  refine wpList_of_skip rfl (op_store3 2 7 _ rfl rfl D0) ?_
  replace D1 := Lib.hid (put3_far (x' := .bool nm2) (y' := .slice Am2 km2 cm2) (z' := .slice Bm2 jm2 dm2) (D1.out.below hb) (show w.heap.size + 1 ≠ w.heap.size by omega))
  replace SN1 := Lib.hid ((SN1.out.below hb).put3 D0 (.bool nm2) (.slice Am2 km2 cm2) (.slice Bm2 jm2 dm2))
  replace SD1 := Lib.hid ((SD1.out.below hb).put3 D0 (.bool nm2) (.slice Am2 km2 cm2) (.slice Bm2 jm2 dm2))
  replace DR := Lib.hid (put3_far (x' := .bool nm2) (y' := .slice Am2 km2 cm2) (z' := .slice Bm2 jm2 dm2) (DR.out.below hb) (show w.heap.size + 1 + 1 ≠ w.heap.size by omega))
  replace sm3 := sm3.put3 D0 (.bool nm2) (.slice Am2 km2 cm2) (.slice Bm2 jm2 dm2)
  replace tm3 := tm3.put3 D0 (.bool nm2) (.slice Am2 km2 cm2) (.slice Bm2 jm2 dm2)
  replace SN0 := Lib.hid (sm2.put3 D0 (.bool nm2) (.slice Am2 km2 cm2) (.slice Bm2 jm2 dm2))
  replace SD0 := Lib.hid (tm2.put3 D0 (.bool nm2) (.slice Am2 km2 cm2) (.slice Bm2 jm2 dm2))
  replace HB := Lib.hid (put3_below (x' := .bool nm2) (y' := .slice Am2 km2 cm2) (z' := .slice Bm2 jm2 dm2) (HB.out.trans (Below.mono hb HB.out.size)) (show w.heap.size ≤ w.heap.size by omega))
  replace D0 := Lib.hid (put3_own (x' := .bool nm2) (y' := .slice Am2 km2 cm2) (z' := .slice Bm2 jm2 dm2) D0)
  clear hb sm2 tm2
  generalize put3 x1 w.heap.size (.bool nm2) (.slice Am2 km2 cm2) (.slice Bm2 jm2 dm2) = y4 at *
  have hb := Below.refl (y4).heap.size (y4)
  replace D1 := D1.out.below hb
  refine wpList_of_skip rfl (op_store3 3 9 _ rfl rfl D1) ?_
  replace D0 := Lib.hid (put3_far (x' := .bool nm3) (y' := .slice Am3 km3 cm3) (z' := .slice Bm3 jm3 dm3) (D0.out.below hb) (show w.heap.size ≠ w.heap.size + 1 by omega))
  replace SN0 := Lib.hid ((SN0.out.below hb).put3 D1 (.bool nm3) (.slice Am3 km3 cm3) (.slice Bm3 jm3 dm3))
  replace SD0 := Lib.hid ((SD0.out.below hb).put3 D1 (.bool nm3) (.slice Am3 km3 cm3) (.slice Bm3 jm3 dm3))
  replace DR := Lib.hid (put3_far (x' := .bool nm3) (y' := .slice Am3 km3 cm3) (z' := .slice Bm3 jm3 dm3) (DR.out.below hb) (show w.heap.size + 1 + 1 ≠ w.heap.size + 1 by omega))
  replace SN1 := Lib.hid (sm3.put3 D1 (.bool nm3) (.slice Am3 km3 cm3) (.slice Bm3 jm3 dm3))
  replace SD1 := Lib.hid (tm3.put3 D1 (.bool nm3) (.slice Am3 km3 cm3) (.slice Bm3 jm3 dm3))
  replace HB := Lib.hid (put3_below (x' := .bool nm3) (y' := .slice Am3 km3 cm3) (z' := .slice Bm3 jm3 dm3) (HB.out.trans (Below.mono hb HB.out.size)) (show w.heap.size ≤ w.heap.size + 1 by omega))
  replace D1 := Lib.hid (put3_own (x' := .bool nm3) (y' := .slice Am3 km3 cm3) (z' := .slice Bm3 jm3 dm3) D1)
  clear hb sm3 tm3
  generalize put3 y4 (w.heap.size + 1) (.bool nm3) (.slice Am3 km3 cm3) (.slice Bm3 jm3 dm3) = y5 at *
  obtain ⟨hp1, hp2, _⟩ := hqs.parts hrs (by decide)
  have hsd : szz (r.den : Int) ≤ 1000 := by unfold szz; rw [Int.natAbs_natCast]; exact Nat.le_trans hrs.2 (by decide)
  have hse : szz (q.den : Int) ≤ 1000 := by unfold szz; rw [Int.natAbs_natCast]; exact Nat.le_trans hqs.2 (by decide)
  have hqd : (0 : Int) < (q.den : Int) := by have := q.den_pos; omega
  have hy : r.num * (q.den : Int) = 0 := by rw [hr0, Int.zero_mul]
  go_upto_region 2 with fail
  refine wp_region_going 17 [] ([fun vq _ => vq = .pointer (some ⟨w.heap.size, 0, none⟩),
      fun vq wq => ZV wq vq q.num,
      fun vq _ => vq = .pointer (some ⟨w.heap.size + 1, 2, none⟩),
      fun vq _ => vq = .slice Bm3 jm3 dm3,
      fun vq wq => ZV wq vq ((r.den : Int)),
      fun vq wq => RowV wq vq [q.num, (r.den : Int)],
      fun vq wq => ZV wq vq ((q.num * (r.den : Int))),
      fun vq _ => vq = .pointer (some ⟨w.heap.size + 1, 0, none⟩),
      fun vq wq => ZV wq vq r.num,
      fun vq _ => vq = .pointer (some ⟨w.heap.size, 2, none⟩),
      fun vq _ => vq = .slice Bm2 jm2 dm2,
      fun vq wq => ZV wq vq ((q.den : Int)),
      fun vq wq => RowV wq vq [r.num, (q.den : Int)],
      fun vq wq => ZV wq vq ((r.num * (q.den : Int))),
      fun vq wq => ∃ u0, vq = .tuple #[u0, .int .i64 3] ∧ RV wq u0 (((0 : Int) : Rat)),
      fun vq wq => RV wq vq (((0 : Int) : Rat)),
      fun vq _ => vq = .int .i64 3]) (by kernel_rfl) (by kernel_rfl) (by decide) (by kernel_rfl) (by kernel_rfl) ?_ ?_ ?_
  · intro j hj; cases hj
  · refine po rfl (fun lq aq wq hk hr K hK => ?_) ?_
    · have B2 : ev aq (.tmp 2) = .pointer (some ⟨w.heap.size, 0, none⟩) := hk.base 2 (by kernel_rfl) rfl
      exact vc hK (by go_simp) (fun w2 h2 => rfl)
    refine po rfl (fun lq aq wq hk hr K hK => ?_) ?_
    · have E0 : ev aq (.tmp 10) = .pointer (some ⟨w.heap.size, 0, none⟩) := hk.dc hr 0 (by kernel_rfl) fun _ _ h => h
      have hb := grows_of hk.ext
      exact vc hK (op_loadN 10 _ E0 (D0.out.below hb)) (fun w2 h2 => ⟨_, _, _, _, rfl, (SN0.out.below hb).below h2⟩)
    refine po rfl (fun lq aq wq hk hr K hK => ?_) ?_
    · have B3 : ev aq (.tmp 3) = .pointer (some ⟨w.heap.size + 1, 0, none⟩) := hk.base 3 (by kernel_rfl) rfl
      exact vc hK (by go_simp) (fun w2 h2 => rfl)
    refine po rfl (fun lq aq wq hk hr K hK => ?_) ?_
    · have E2 : ev aq (.tmp 12) = .pointer (some ⟨w.heap.size + 1, 2, none⟩) := hk.dc hr 2 (by kernel_rfl) fun _ _ h => h
      have hb := grows_of hk.ext
      have c2 := (D1.out.below hb).c2
      exact vc hK (by go_simp) (fun w2 h2 => rfl)
    refine po rfl (fun lq aq wq hk hr K hK => ?_) ?_
    · have E3 : ev aq (.tmp 13) = .slice Bm3 jm3 dm3 := hk.dc hr 3 (by kernel_rfl) fun _ _ h => h
      exact yc hK (by go_simp) (of_v wq false (SD1.out.below (grows_of hk.ext)).lv (sg_false _) hsd) (fun u w1 hu w2 h2 => (hu).grow h2)
    refine po rfl (fun lq aq wq hk hr K hK => ?_) ?_
    · obtain ⟨v1, E1, r1⟩ := hk.dp hr 1 11 (by kernel_rfl)
      have r1 : ZV wq v1 q.num := r1
      obtain ⟨n1, A1, k1, c1, rfl, s1⟩ := r1
      obtain ⟨v4, E4, r4⟩ := hk.dp hr 4 14 (by kernel_rfl)
      have r4 : ZV wq v4 ((r.den : Int)) := r4
      obtain ⟨n4, A4, k4, c4, rfl, s4⟩ := r4
      exact wp_of_value (op_row2 11 14 E1 E4) (hK.out _ _ ((Grows.refl _).alloc _) (fun w2 h2 => (RowV.two s1.whole s4.whole).grow h2) (fun h => absurd h (by decide)))
    refine po rfl (fun lq aq wq hk hr K hK => ?_) ?_
    · obtain ⟨v5, E5, r5⟩ := hk.dp hr 5 15 (by kernel_rfl)
      have r5 : RowV wq v5 [q.num, (r.den : Int)] := r5
      exact yc hK (by go_simp) (mul2_v wq r5 SN0.out.short hp1) (fun u w1 hu w2 h2 => (hu).grow h2)
    refine po rfl (fun lq aq wq hk hr K hK => ?_) ?_
    · have B3 : ev aq (.tmp 3) = .pointer (some ⟨w.heap.size + 1, 0, none⟩) := hk.base 3 (by kernel_rfl) rfl
      exact vc hK (by go_simp) (fun w2 h2 => rfl)
    refine po rfl (fun lq aq wq hk hr K hK => ?_) ?_
    · have E7 : ev aq (.tmp 17) = .pointer (some ⟨w.heap.size + 1, 0, none⟩) := hk.dc hr 7 (by kernel_rfl) fun _ _ h => h
      have hb := grows_of hk.ext
      exact vc hK (op_loadN 17 _ E7 (D1.out.below hb)) (fun w2 h2 => ⟨_, _, _, _, rfl, (SN1.out.below hb).below h2⟩)
    refine po rfl (fun lq aq wq hk hr K hK => ?_) ?_
    · have B2 : ev aq (.tmp 2) = .pointer (some ⟨w.heap.size, 0, none⟩) := hk.base 2 (by kernel_rfl) rfl
      exact vc hK (by go_simp) (fun w2 h2 => rfl)
    refine po rfl (fun lq aq wq hk hr K hK => ?_) ?_
    · have E9 : ev aq (.tmp 19) = .pointer (some ⟨w.heap.size, 2, none⟩) := hk.dc hr 9 (by kernel_rfl) fun _ _ h => h
      have hb := grows_of hk.ext
      have c2 := (D0.out.below hb).c2
      exact vc hK (by go_simp) (fun w2 h2 => rfl)
    refine po rfl (fun lq aq wq hk hr K hK => ?_) ?_
    · have E10 : ev aq (.tmp 20) = .slice Bm2 jm2 dm2 := hk.dc hr 10 (by kernel_rfl) fun _ _ h => h
      exact yc hK (by go_simp) (of_v wq false (SD0.out.below (grows_of hk.ext)).lv (sg_false _) hse) (fun u w1 hu w2 h2 => (hu).grow h2)
    refine po rfl (fun lq aq wq hk hr K hK => ?_) ?_
    · obtain ⟨v8, E8, r8⟩ := hk.dp hr 8 18 (by kernel_rfl)
      have r8 : ZV wq v8 r.num := r8
      obtain ⟨n8, A8, k8, c8, rfl, s8⟩ := r8
      obtain ⟨v11, E11, r11⟩ := hk.dp hr 11 21 (by kernel_rfl)
      have r11 : ZV wq v11 ((q.den : Int)) := r11
      obtain ⟨n11, A11, k11, c11, rfl, s11⟩ := r11
      exact wp_of_value (op_row2 18 21 E8 E11) (hK.out _ _ ((Grows.refl _).alloc _) (fun w2 h2 => (RowV.two s8.whole s11.whole).grow h2) (fun h => absurd h (by decide)))
    refine po rfl (fun lq aq wq hk hr K hK => ?_) ?_
    · obtain ⟨v12, E12, r12⟩ := hk.dp hr 12 22 (by kernel_rfl)
      have r12 : RowV wq v12 [r.num, (q.den : Int)] := r12
      exact yc hK (by go_simp) (mul2_v wq r12 SN1.out.short hp2) (fun u w1 hu w2 h2 => (hu).grow h2)
    refine po rfl (fun lq aq wq hk hr K hK => ?_) ?_
    · obtain ⟨v6, E6, r6⟩ := hk.dp hr 6 16 (by kernel_rfl)
      have r6 : ZV wq v6 ((q.num * (r.den : Int))) := r6
      obtain ⟨v13, E13, r13⟩ := hk.dp hr 13 23 (by kernel_rfl)
      have r13 : ZV wq v13 ((r.num * (q.den : Int))) := r13
      exact yc hK (by go_simp) (qof0_v wq (r6).wv (r13).wv hy) (fun u w1 hu w2 h2 => (let ⟨u0, e0, h0⟩ := hu; ⟨u0, e0, (h0).grow h2⟩))
    refine po rfl (fun lq aq wq hk hr K hK => ?_) ?_
    · obtain ⟨v14, E14, r14⟩ := hk.dp hr 14 24 (by kernel_rfl)
      have r14 : ∃ u0, v14 = .tuple #[u0, .int .i64 3] ∧ RV wq u0 (((0 : Int) : Rat)) := r14
      obtain ⟨u0, rfl, h0⟩ := r14
      exact vc hK (by go_simp) (fun w2 h2 => (h0).grow h2)
    refine po rfl (fun lq aq wq hk hr K hK => ?_) ?_
    · obtain ⟨v14, E14, r14⟩ := hk.dp hr 14 24 (by kernel_rfl)
      have r14 : ∃ u0, v14 = .tuple #[u0, .int .i64 3] ∧ RV wq u0 (((0 : Int) : Rat)) := r14
      obtain ⟨u0, rfl, h0⟩ := r14
      exact vc hK (by go_simp) (fun w2 h2 => rfl)
    exact AllOps.nil
  intro V x6 hG hV hap
  have r5 : RowV x6 (V 5) [q.num, (r.den : Int)] := hV 5 (by decide)
  have r6 : ZV x6 (V 6) ((q.num * (r.den : Int))) := hV 6 (by decide)
  have r15 : RV x6 (V 15) (((0 : Int) : Rat)) := hV 15 (by decide)
  have r16 : (V 16) = .int .i64 3 := hV 16 (by decide)
  clear hV hap
  simp only [List.take_succ_cons, List.take_zero, List.drop_succ_cons, List.drop_zero, putAll, Act.put, List.setIfInBounds_toArray, List.set_cons_zero, List.set_cons_succ]
  have hb := grows_of hG
  obtain ⟨nR, AR, kR, cR, BR, jR, dR, y9, eR, ey, hQ, HQ, c0, c1, c2⟩ := ret3 r15 (DR.out.below hb) (HB.out.trans (Below.mono hb HB.out.size)) (by omega)
  simp only [eR, r16]
  refine wpList_of_skip rfl (op_store3 4 25 _ rfl rfl (DR.out.below hb)) ?_
  rw [ey]
  clear eR ey hb hG HB DR r16
  go_wp2_with fail
  refine bodyPost_ret (v := .tuple #[.agg #[.bool nR, .slice AR kR cR, .slice BR jR dR], .int .i64 3]) (by simp [results, Tryz.results13, go_sem, c0, c1, c2]) rfl ⟨_, rfl, ⟨_, rfl, hQ⟩, HQ⟩
set_option maxHeartbeats 16000000 in
set_option maxRecDepth 100000 in
theorem qdiv_pos (w : World) {u v : Value} {q r : Rat} (h0 : QV w u q) (h1 : QV w v r) (hqs : Qsz q 300) (hrs : Qsz r 300) (hr0 : 0 < r.num) : Calls Tryz.prog 13 #[u, v] w fun e w' => ∃ y, e = .returned y ∧ (∃ x, y = .tuple #[x, .int .i64 0] ∧ RV w' x (q / r)) ∧ Grows w w' := by
  obtain ⟨n0, A0, k0, c0, B0, j0, d0, rfl, z0, l0, a0, s0, t0, hl0, e0⟩ := h0
  have hk0 : szz z0 ≤ 1000 := s0.size
  obtain ⟨n1, A1, k1, c1, B1, j1, d1, rfl, z1, l1, a1, s1, t1, hl1, e1⟩ := h1
  have hk1 : szz z1 ≤ 1000 := s1.size
  go_enter Tryz.func13, Tryz.ntmps13
  go_upto_region 1 with fail
  obtain ⟨x0, ex0, HB, D0, D1, DR⟩ := st_333 w 26 (.bool n0) (.slice A0 k0 c0) (.slice B0 j0 d0) 26 (.bool n1) (.slice A1 k1 c1) (.slice B1 j1 d1) 26 (.bool false) (.slice none 0 0) (.slice none 0 0)
  rw [ex0]
  clear ex0
  replace HB := Lib.hid HB
  replace D0 := Lib.hid D0
  replace D1 := Lib.hid D1
  replace DR := Lib.hid DR
  have SN0 := Lib.hid (s0.below HB.out)
  clear s0
  have SD0 := Lib.hid (t0.below HB.out)
  clear t0
  have SN1 := Lib.hid (s1.below HB.out)
  clear s1
  have SD1 := Lib.hid (t1.below HB.out)
  clear t1
  refine wp_region_going 4 [] ([fun vq wq => QV wq vq q,
      fun vq wq => RV wq vq q,
      fun vq wq => QV wq vq r,
      fun vq wq => RV wq vq r]) (by kernel_rfl) (by kernel_rfl) (by decide) (by kernel_rfl) (by kernel_rfl) ?_ ?_ ?_
  · intro j hj; cases hj
  · refine po rfl (fun lq aq wq hk hr K hK => ?_) ?_
    · have B2 : ev aq (.tmp 2) = .pointer (some ⟨w.heap.size, 0, none⟩) := hk.base 2 (by kernel_rfl) rfl
      have hb := grows_of hk.ext
      exact vc hK (op_load3 2 _ B2 (D0.out.below hb)) (fun w2 h2 => QV.grow ⟨_, _, _, _, _, _, _, rfl, _, _, _, (SN0.out.below hb), (SD0.out.below hb), hl0, e0⟩ h2)
    refine po rfl (fun lq aq wq hk hr K hK => ?_) ?_
    · obtain ⟨v0, E0, r0⟩ := hk.dp hr 0 6 (by kernel_rfl)
      have r0 : QV wq v0 q := r0
      exact yc hK (by go_simp) (made_v wq r0) (fun u w1 hu w2 h2 => (hu).grow h2)
    refine po rfl (fun lq aq wq hk hr K hK => ?_) ?_
    · have B3 : ev aq (.tmp 3) = .pointer (some ⟨w.heap.size + 1, 0, none⟩) := hk.base 3 (by kernel_rfl) rfl
      have hb := grows_of hk.ext
      exact vc hK (op_load3 3 _ B3 (D1.out.below hb)) (fun w2 h2 => QV.grow ⟨_, _, _, _, _, _, _, rfl, _, _, _, (SN1.out.below hb), (SD1.out.below hb), hl1, e1⟩ h2)
    refine po rfl (fun lq aq wq hk hr K hK => ?_) ?_
    · obtain ⟨v2, E2, r2⟩ := hk.dp hr 2 8 (by kernel_rfl)
      have r2 : QV wq v2 r := r2
      exact yc hK (by go_simp) (made_v wq r2) (fun u w1 hu w2 h2 => (hu).grow h2)
    exact AllOps.nil
  intro V x1 hG hV hap
  have r1 : RV x1 (V 1) q := hV 1 (by decide)
  have r3 : RV x1 (V 3) r := hV 3 (by decide)
  clear hV hap
  simp only [List.take_succ_cons, List.take_zero, List.drop_succ_cons, List.drop_zero, putAll, Act.put, List.setIfInBounds_toArray, List.set_cons_zero, List.set_cons_succ]
  have hb := grows_of hG
  obtain ⟨nm2, Am2, km2, cm2, Bm2, jm2, dm2, em2, sm2, tm2, hdm2⟩ := r1
  simp only [em2]
  clear em2
  obtain ⟨nm3, Am3, km3, cm3, Bm3, jm3, dm3, em3, sm3, tm3, hdm3⟩ := r3
  simp only [em3]
  clear em3
  clear hG
  replace D0 := D0.out.below hb
  refine wpList_of_skip rfl (op_store3 2 7 _ rfl rfl D0) ?_
  replace D1 := Lib.hid (put3_far (x' := .bool nm2) (y' := .slice Am2 km2 cm2) (z' := .slice Bm2 jm2 dm2) (D1.out.below hb) (show w.heap.size + 1 ≠ w.heap.size by omega))
  replace SN1 := Lib.hid ((SN1.out.below hb).put3 D0 (.bool nm2) (.slice Am2 km2 cm2) (.slice Bm2 jm2 dm2))
  replace SD1 := Lib.hid ((SD1.out.below hb).put3 D0 (.bool nm2) (.slice Am2 km2 cm2) (.slice Bm2 jm2 dm2))
  replace DR := Lib.hid (put3_far (x' := .bool nm2) (y' := .slice Am2 km2 cm2) (z' := .slice Bm2 jm2 dm2) (DR.out.below hb) (show w.heap.size + 1 + 1 ≠ w.heap.size by omega))
  replace sm3 := sm3.put3 D0 (.bool nm2) (.slice Am2 km2 cm2) (.slice Bm2 jm2 dm2)
  replace tm3 := tm3.put3 D0 (.bool nm2) (.slice Am2 km2 cm2) (.slice Bm2 jm2 dm2)
  replace SN0 := Lib.hid (sm2.put3 D0 (.bool nm2) (.slice Am2 km2 cm2) (.slice Bm2 jm2 dm2))
  replace SD0 := Lib.hid (tm2.put3 D0 (.bool nm2) (.slice Am2 km2 cm2) (.slice Bm2 jm2 dm2))
  replace HB := Lib.hid (put3_below (x' := .bool nm2) (y' := .slice Am2 km2 cm2) (z' := .slice Bm2 jm2 dm2) (HB.out.trans (Below.mono hb HB.out.size)) (show w.heap.size ≤ w.heap.size by omega))
  replace D0 := Lib.hid (put3_own (x' := .bool nm2) (y' := .slice Am2 km2 cm2) (z' := .slice Bm2 jm2 dm2) D0)
  clear hb sm2 tm2
  generalize put3 x1 w.heap.size (.bool nm2) (.slice Am2 km2 cm2) (.slice Bm2 jm2 dm2) = y4 at *
  have hb := Below.refl (y4).heap.size (y4)
  replace D1 := D1.out.below hb
  refine wpList_of_skip rfl (op_store3 3 9 _ rfl rfl D1) ?_
  replace D0 := Lib.hid (put3_far (x' := .bool nm3) (y' := .slice Am3 km3 cm3) (z' := .slice Bm3 jm3 dm3) (D0.out.below hb) (show w.heap.size ≠ w.heap.size + 1 by omega))
  replace SN0 := Lib.hid ((SN0.out.below hb).put3 D1 (.bool nm3) (.slice Am3 km3 cm3) (.slice Bm3 jm3 dm3))
  replace SD0 := Lib.hid ((SD0.out.below hb).put3 D1 (.bool nm3) (.slice Am3 km3 cm3) (.slice Bm3 jm3 dm3))
  replace DR := Lib.hid (put3_far (x' := .bool nm3) (y' := .slice Am3 km3 cm3) (z' := .slice Bm3 jm3 dm3) (DR.out.below hb) (show w.heap.size + 1 + 1 ≠ w.heap.size + 1 by omega))
  replace SN1 := Lib.hid (sm3.put3 D1 (.bool nm3) (.slice Am3 km3 cm3) (.slice Bm3 jm3 dm3))
  replace SD1 := Lib.hid (tm3.put3 D1 (.bool nm3) (.slice Am3 km3 cm3) (.slice Bm3 jm3 dm3))
  replace HB := Lib.hid (put3_below (x' := .bool nm3) (y' := .slice Am3 km3 cm3) (z' := .slice Bm3 jm3 dm3) (HB.out.trans (Below.mono hb HB.out.size)) (show w.heap.size ≤ w.heap.size + 1 by omega))
  replace D1 := Lib.hid (put3_own (x' := .bool nm3) (y' := .slice Am3 km3 cm3) (z' := .slice Bm3 jm3 dm3) D1)
  clear hb sm3 tm3
  generalize put3 y4 (w.heap.size + 1) (.bool nm3) (.slice Am3 km3 cm3) (.slice Bm3 jm3 dm3) = y5 at *
  obtain ⟨hp1, hp2, _⟩ := hqs.parts hrs (by decide)
  have hsd : szz (r.den : Int) ≤ 1000 := by unfold szz; rw [Int.natAbs_natCast]; exact Nat.le_trans hrs.2 (by decide)
  have hse : szz (q.den : Int) ≤ 1000 := by unfold szz; rw [Int.natAbs_natCast]; exact Nat.le_trans hqs.2 (by decide)
  have hqd : (0 : Int) < (q.den : Int) := by have := q.den_pos; omega
  have hy : 0 < r.num * (q.den : Int) := Int.mul_pos hr0 hqd
  go_upto_region 2 with fail
  refine wp_region_going 17 [] ([fun vq _ => vq = .pointer (some ⟨w.heap.size, 0, none⟩),
      fun vq wq => ZV wq vq q.num,
      fun vq _ => vq = .pointer (some ⟨w.heap.size + 1, 2, none⟩),
      fun vq _ => vq = .slice Bm3 jm3 dm3,
      fun vq wq => ZV wq vq ((r.den : Int)),
      fun vq wq => RowV wq vq [q.num, (r.den : Int)],
      fun vq wq => ZV wq vq ((q.num * (r.den : Int))),
      fun vq _ => vq = .pointer (some ⟨w.heap.size + 1, 0, none⟩),
      fun vq wq => ZV wq vq r.num,
      fun vq _ => vq = .pointer (some ⟨w.heap.size, 2, none⟩),
      fun vq _ => vq = .slice Bm2 jm2 dm2,
      fun vq wq => ZV wq vq ((q.den : Int)),
      fun vq wq => RowV wq vq [r.num, (q.den : Int)],
      fun vq wq => ZV wq vq ((r.num * (q.den : Int))),
      fun vq wq => ∃ u0, vq = .tuple #[u0, .int .i64 0] ∧ RV wq u0 ((Rat.divInt (q.num * (r.den : Int)) (r.num * (q.den : Int)))),
      fun vq wq => RV wq vq ((Rat.divInt (q.num * (r.den : Int)) (r.num * (q.den : Int)))),
      fun vq _ => vq = .int .i64 0]) (by kernel_rfl) (by kernel_rfl) (by decide) (by kernel_rfl) (by kernel_rfl) ?_ ?_ ?_
  · intro j hj; cases hj
  · refine po rfl (fun lq aq wq hk hr K hK => ?_) ?_
    · have B2 : ev aq (.tmp 2) = .pointer (some ⟨w.heap.size, 0, none⟩) := hk.base 2 (by kernel_rfl) rfl
      exact vc hK (by go_simp) (fun w2 h2 => rfl)
    refine po rfl (fun lq aq wq hk hr K hK => ?_) ?_
    · have E0 : ev aq (.tmp 10) = .pointer (some ⟨w.heap.size, 0, none⟩) := hk.dc hr 0 (by kernel_rfl) fun _ _ h => h
      have hb := grows_of hk.ext
      exact vc hK (op_loadN 10 _ E0 (D0.out.below hb)) (fun w2 h2 => ⟨_, _, _, _, rfl, (SN0.out.below hb).below h2⟩)
    refine po rfl (fun lq aq wq hk hr K hK => ?_) ?_
    · have B3 : ev aq (.tmp 3) = .pointer (some ⟨w.heap.size + 1, 0, none⟩) := hk.base 3 (by kernel_rfl) rfl
      exact vc hK (by go_simp) (fun w2 h2 => rfl)
    refine po rfl (fun lq aq wq hk hr K hK => ?_) ?_
    · have E2 : ev aq (.tmp 12) = .pointer (some ⟨w.heap.size + 1, 2, none⟩) := hk.dc hr 2 (by kernel_rfl) fun _ _ h => h
      have hb := grows_of hk.ext
      have c2 := (D1.out.below hb).c2
      exact vc hK (by go_simp) (fun w2 h2 => rfl)
    refine po rfl (fun lq aq wq hk hr K hK => ?_) ?_
    · have E3 : ev aq (.tmp 13) = .slice Bm3 jm3 dm3 := hk.dc hr 3 (by kernel_rfl) fun _ _ h => h
      exact yc hK (by go_simp) (of_v wq false (SD1.out.below (grows_of hk.ext)).lv (sg_false _) hsd) (fun u w1 hu w2 h2 => (hu).grow h2)
    refine po rfl (fun lq aq wq hk hr K hK => ?_) ?_
    · obtain ⟨v1, E1, r1⟩ := hk.dp hr 1 11 (by kernel_rfl)
      have r1 : ZV wq v1 q.num := r1
      obtain ⟨n1, A1, k1, c1, rfl, s1⟩ := r1
      obtain ⟨v4, E4, r4⟩ := hk.dp hr 4 14 (by kernel_rfl)
      have r4 : ZV wq v4 ((r.den : Int)) := r4
      obtain ⟨n4, A4, k4, c4, rfl, s4⟩ := r4
      exact wp_of_value (op_row2 11 14 E1 E4) (hK.out _ _ ((Grows.refl _).alloc _) (fun w2 h2 => (RowV.two s1.whole s4.whole).grow h2) (fun h => absurd h (by decide)))
    refine po rfl (fun lq aq wq hk hr K hK => ?_) ?_
    · obtain ⟨v5, E5, r5⟩ := hk.dp hr 5 15 (by kernel_rfl)
      have r5 : RowV wq v5 [q.num, (r.den : Int)] := r5
      exact yc hK (by go_simp) (mul2_v wq r5 SN0.out.short hp1) (fun u w1 hu w2 h2 => (hu).grow h2)
    refine po rfl (fun lq aq wq hk hr K hK => ?_) ?_
    · have B3 : ev aq (.tmp 3) = .pointer (some ⟨w.heap.size + 1, 0, none⟩) := hk.base 3 (by kernel_rfl) rfl
      exact vc hK (by go_simp) (fun w2 h2 => rfl)
    refine po rfl (fun lq aq wq hk hr K hK => ?_) ?_
    · have E7 : ev aq (.tmp 17) = .pointer (some ⟨w.heap.size + 1, 0, none⟩) := hk.dc hr 7 (by kernel_rfl) fun _ _ h => h
      have hb := grows_of hk.ext
      exact vc hK (op_loadN 17 _ E7 (D1.out.below hb)) (fun w2 h2 => ⟨_, _, _, _, rfl, (SN1.out.below hb).below h2⟩)
    refine po rfl (fun lq aq wq hk hr K hK => ?_) ?_
    · have B2 : ev aq (.tmp 2) = .pointer (some ⟨w.heap.size, 0, none⟩) := hk.base 2 (by kernel_rfl) rfl
      exact vc hK (by go_simp) (fun w2 h2 => rfl)
    refine po rfl (fun lq aq wq hk hr K hK => ?_) ?_
    · have E9 : ev aq (.tmp 19) = .pointer (some ⟨w.heap.size, 2, none⟩) := hk.dc hr 9 (by kernel_rfl) fun _ _ h => h
      have hb := grows_of hk.ext
      have c2 := (D0.out.below hb).c2
      exact vc hK (by go_simp) (fun w2 h2 => rfl)
    refine po rfl (fun lq aq wq hk hr K hK => ?_) ?_
    · have E10 : ev aq (.tmp 20) = .slice Bm2 jm2 dm2 := hk.dc hr 10 (by kernel_rfl) fun _ _ h => h
      exact yc hK (by go_simp) (of_v wq false (SD0.out.below (grows_of hk.ext)).lv (sg_false _) hse) (fun u w1 hu w2 h2 => (hu).grow h2)
    refine po rfl (fun lq aq wq hk hr K hK => ?_) ?_
    · obtain ⟨v8, E8, r8⟩ := hk.dp hr 8 18 (by kernel_rfl)
      have r8 : ZV wq v8 r.num := r8
      obtain ⟨n8, A8, k8, c8, rfl, s8⟩ := r8
      obtain ⟨v11, E11, r11⟩ := hk.dp hr 11 21 (by kernel_rfl)
      have r11 : ZV wq v11 ((q.den : Int)) := r11
      obtain ⟨n11, A11, k11, c11, rfl, s11⟩ := r11
      exact wp_of_value (op_row2 18 21 E8 E11) (hK.out _ _ ((Grows.refl _).alloc _) (fun w2 h2 => (RowV.two s8.whole s11.whole).grow h2) (fun h => absurd h (by decide)))
    refine po rfl (fun lq aq wq hk hr K hK => ?_) ?_
    · obtain ⟨v12, E12, r12⟩ := hk.dp hr 12 22 (by kernel_rfl)
      have r12 : RowV wq v12 [r.num, (q.den : Int)] := r12
      exact yc hK (by go_simp) (mul2_v wq r12 SN1.out.short hp2) (fun u w1 hu w2 h2 => (hu).grow h2)
    refine po rfl (fun lq aq wq hk hr K hK => ?_) ?_
    · obtain ⟨v6, E6, r6⟩ := hk.dp hr 6 16 (by kernel_rfl)
      have r6 : ZV wq v6 ((q.num * (r.den : Int))) := r6
      obtain ⟨v13, E13, r13⟩ := hk.dp hr 13 23 (by kernel_rfl)
      have r13 : ZV wq v13 ((r.num * (q.den : Int))) := r13
      exact yc hK (by go_simp) (qof_pos wq (r6).wv (r13).wv hy) (fun u w1 hu w2 h2 => (let ⟨u0, e0, h0⟩ := hu; ⟨u0, e0, (h0).grow h2⟩))
    refine po rfl (fun lq aq wq hk hr K hK => ?_) ?_
    · obtain ⟨v14, E14, r14⟩ := hk.dp hr 14 24 (by kernel_rfl)
      have r14 : ∃ u0, v14 = .tuple #[u0, .int .i64 0] ∧ RV wq u0 ((Rat.divInt (q.num * (r.den : Int)) (r.num * (q.den : Int)))) := r14
      obtain ⟨u0, rfl, h0⟩ := r14
      exact vc hK (by go_simp) (fun w2 h2 => (h0).grow h2)
    refine po rfl (fun lq aq wq hk hr K hK => ?_) ?_
    · obtain ⟨v14, E14, r14⟩ := hk.dp hr 14 24 (by kernel_rfl)
      have r14 : ∃ u0, v14 = .tuple #[u0, .int .i64 0] ∧ RV wq u0 ((Rat.divInt (q.num * (r.den : Int)) (r.num * (q.den : Int)))) := r14
      obtain ⟨u0, rfl, h0⟩ := r14
      exact vc hK (by go_simp) (fun w2 h2 => rfl)
    exact AllOps.nil
  intro V x6 hG hV hap
  have r5 : RowV x6 (V 5) [q.num, (r.den : Int)] := hV 5 (by decide)
  have r6 : ZV x6 (V 6) ((q.num * (r.den : Int))) := hV 6 (by decide)
  have r15 : RV x6 (V 15) ((Rat.divInt (q.num * (r.den : Int)) (r.num * (q.den : Int)))) := hV 15 (by decide)
  have r16 : (V 16) = .int .i64 0 := hV 16 (by decide)
  clear hV hap
  simp only [List.take_succ_cons, List.take_zero, List.drop_succ_cons, List.drop_zero, putAll, Act.put, List.setIfInBounds_toArray, List.set_cons_zero, List.set_cons_succ]
  have hb := grows_of hG
  obtain ⟨nR, AR, kR, cR, BR, jR, dR, y9, eR, ey, hQ, HQ, c0, c1, c2⟩ := ret3 r15 (DR.out.below hb) (HB.out.trans (Below.mono hb HB.out.size)) (by omega)
  simp only [eR, r16]
  refine wpList_of_skip rfl (op_store3 4 25 _ rfl rfl (DR.out.below hb)) ?_
  rw [ey]
  clear eR ey hb hG HB DR r16
  go_wp2_with fail
  refine bodyPost_ret (v := .tuple #[.agg #[.bool nR, .slice AR kR cR, .slice BR jR dR], .int .i64 0]) (by simp [results, Tryz.results13, go_sem, c0, c1, c2]) rfl ⟨_, rfl, ⟨_, rfl, (RV.to hQ (div_parts q r))⟩, HQ⟩
set_option maxHeartbeats 16000000 in
set_option maxRecDepth 100000 in
theorem qdiv_neg (w : World) {u v : Value} {q r : Rat} (h0 : QV w u q) (h1 : QV w v r) (hqs : Qsz q 300) (hrs : Qsz r 300) (hr0 : r.num < 0) : Calls Tryz.prog 13 #[u, v] w fun e w' => ∃ y, e = .returned y ∧ (∃ x, y = .tuple #[x, .int .i64 0] ∧ RV w' x (q / r)) ∧ Grows w w' := by
  obtain ⟨n0, A0, k0, c0, B0, j0, d0, rfl, z0, l0, a0, s0, t0, hl0, e0⟩ := h0
  have hk0 : szz z0 ≤ 1000 := s0.size
  obtain ⟨n1, A1, k1, c1, B1, j1, d1, rfl, z1, l1, a1, s1, t1, hl1, e1⟩ := h1
  have hk1 : szz z1 ≤ 1000 := s1.size
  go_enter Tryz.func13, Tryz.ntmps13
  go_upto_region 1 with fail
  obtain ⟨x0, ex0, HB, D0, D1, DR⟩ := st_333 w 26 (.bool n0) (.slice A0 k0 c0) (.slice B0 j0 d0) 26 (.bool n1) (.slice A1 k1 c1) (.slice B1 j1 d1) 26 (.bool false) (.slice none 0 0) (.slice none 0 0)
  rw [ex0]
  clear ex0
  replace HB := Lib.hid HB
  replace D0 := Lib.hid D0
  replace D1 := Lib.hid D1
  replace DR := Lib.hid DR
  have SN0 := Lib.hid (s0.below HB.out)
  clear s0
  have SD0 := Lib.hid (t0.below HB.out)
  clear t0
  have SN1 := Lib.hid (s1.below HB.out)
  clear s1
  have SD1 := Lib.hid (t1.below HB.out)
  clear t1
  refine wp_region_going 4 [] ([fun vq wq => QV wq vq q,
      fun vq wq => RV wq vq q,
      fun vq wq => QV wq vq r,
      fun vq wq => RV wq vq r]) (by kernel_rfl) (by kernel_rfl) (by decide) (by kernel_rfl) (by kernel_rfl) ?_ ?_ ?_
  · intro j hj; cases hj
  · refine po rfl (fun lq aq wq hk hr K hK => ?_) ?_
    · have B2 : ev aq (.tmp 2) = .pointer (some ⟨w.heap.size, 0, none⟩) := hk.base 2 (by kernel_rfl) rfl
      have hb := grows_of hk.ext
      exact vc hK (op_load3 2 _ B2 (D0.out.below hb)) (fun w2 h2 => QV.grow ⟨_, _, _, _, _, _, _, rfl, _, _, _, (SN0.out.below hb), (SD0.out.below hb), hl0, e0⟩ h2)
    refine po rfl (fun lq aq wq hk hr K hK => ?_) ?_
    · obtain ⟨v0, E0, r0⟩ := hk.dp hr 0 6 (by kernel_rfl)
      have r0 : QV wq v0 q := r0
      exact yc hK (by go_simp) (made_v wq r0) (fun u w1 hu w2 h2 => (hu).grow h2)
    refine po rfl (fun lq aq wq hk hr K hK => ?_) ?_
    · have B3 : ev aq (.tmp 3) = .pointer (some ⟨w.heap.size + 1, 0, none⟩) := hk.base 3 (by kernel_rfl) rfl
      have hb := grows_of hk.ext
      exact vc hK (op_load3 3 _ B3 (D1.out.below hb)) (fun w2 h2 => QV.grow ⟨_, _, _, _, _, _, _, rfl, _, _, _, (SN1.out.below hb), (SD1.out.below hb), hl1, e1⟩ h2)
    refine po rfl (fun lq aq wq hk hr K hK => ?_) ?_
    · obtain ⟨v2, E2, r2⟩ := hk.dp hr 2 8 (by kernel_rfl)
      have r2 : QV wq v2 r := r2
      exact yc hK (by go_simp) (made_v wq r2) (fun u w1 hu w2 h2 => (hu).grow h2)
    exact AllOps.nil
  intro V x1 hG hV hap
  have r1 : RV x1 (V 1) q := hV 1 (by decide)
  have r3 : RV x1 (V 3) r := hV 3 (by decide)
  clear hV hap
  simp only [List.take_succ_cons, List.take_zero, List.drop_succ_cons, List.drop_zero, putAll, Act.put, List.setIfInBounds_toArray, List.set_cons_zero, List.set_cons_succ]
  have hb := grows_of hG
  obtain ⟨nm2, Am2, km2, cm2, Bm2, jm2, dm2, em2, sm2, tm2, hdm2⟩ := r1
  simp only [em2]
  clear em2
  obtain ⟨nm3, Am3, km3, cm3, Bm3, jm3, dm3, em3, sm3, tm3, hdm3⟩ := r3
  simp only [em3]
  clear em3
  clear hG
  replace D0 := D0.out.below hb
  refine wpList_of_skip rfl (op_store3 2 7 _ rfl rfl D0) ?_
  replace D1 := Lib.hid (put3_far (x' := .bool nm2) (y' := .slice Am2 km2 cm2) (z' := .slice Bm2 jm2 dm2) (D1.out.below hb) (show w.heap.size + 1 ≠ w.heap.size by omega))
  replace SN1 := Lib.hid ((SN1.out.below hb).put3 D0 (.bool nm2) (.slice Am2 km2 cm2) (.slice Bm2 jm2 dm2))
  replace SD1 := Lib.hid ((SD1.out.below hb).put3 D0 (.bool nm2) (.slice Am2 km2 cm2) (.slice Bm2 jm2 dm2))
  replace DR := Lib.hid (put3_far (x' := .bool nm2) (y' := .slice Am2 km2 cm2) (z' := .slice Bm2 jm2 dm2) (DR.out.below hb) (show w.heap.size + 1 + 1 ≠ w.heap.size by omega))
  replace sm3 := sm3.put3 D0 (.bool nm2) (.slice Am2 km2 cm2) (.slice Bm2 jm2 dm2)
  replace tm3 := tm3.put3 D0 (.bool nm2) (.slice Am2 km2 cm2) (.slice Bm2 jm2 dm2)
  replace SN0 := Lib.hid (sm2.put3 D0 (.bool nm2) (.slice Am2 km2 cm2) (.slice Bm2 jm2 dm2))
  replace SD0 := Lib.hid (tm2.put3 D0 (.bool nm2) (.slice Am2 km2 cm2) (.slice Bm2 jm2 dm2))
  replace HB := Lib.hid (put3_below (x' := .bool nm2) (y' := .slice Am2 km2 cm2) (z' := .slice Bm2 jm2 dm2) (HB.out.trans (Below.mono hb HB.out.size)) (show w.heap.size ≤ w.heap.size by omega))
  replace D0 := Lib.hid (put3_own (x' := .bool nm2) (y' := .slice Am2 km2 cm2) (z' := .slice Bm2 jm2 dm2) D0)
  clear hb sm2 tm2
  generalize put3 x1 w.heap.size (.bool nm2) (.slice Am2 km2 cm2) (.slice Bm2 jm2 dm2) = y4 at *
  have hb := Below.refl (y4).heap.size (y4)
  replace D1 := D1.out.below hb
  refine wpList_of_skip rfl (op_store3 3 9 _ rfl rfl D1) ?_
  replace D0 := Lib.hid (put3_far (x' := .bool nm3) (y' := .slice Am3 km3 cm3) (z' := .slice Bm3 jm3 dm3) (D0.out.below hb) (show w.heap.size ≠ w.heap.size + 1 by omega))
  replace SN0 := Lib.hid ((SN0.out.below hb).put3 D1 (.bool nm3) (.slice Am3 km3 cm3) (.slice Bm3 jm3 dm3))
  replace SD0 := Lib.hid ((SD0.out.below hb).put3 D1 (.bool nm3) (.slice Am3 km3 cm3) (.slice Bm3 jm3 dm3))
  replace DR := Lib.hid (put3_far (x' := .bool nm3) (y' := .slice Am3 km3 cm3) (z' := .slice Bm3 jm3 dm3) (DR.out.below hb) (show w.heap.size + 1 + 1 ≠ w.heap.size + 1 by omega))
  replace SN1 := Lib.hid (sm3.put3 D1 (.bool nm3) (.slice Am3 km3 cm3) (.slice Bm3 jm3 dm3))
  replace SD1 := Lib.hid (tm3.put3 D1 (.bool nm3) (.slice Am3 km3 cm3) (.slice Bm3 jm3 dm3))
  replace HB := Lib.hid (put3_below (x' := .bool nm3) (y' := .slice Am3 km3 cm3) (z' := .slice Bm3 jm3 dm3) (HB.out.trans (Below.mono hb HB.out.size)) (show w.heap.size ≤ w.heap.size + 1 by omega))
  replace D1 := Lib.hid (put3_own (x' := .bool nm3) (y' := .slice Am3 km3 cm3) (z' := .slice Bm3 jm3 dm3) D1)
  clear hb sm3 tm3
  generalize put3 y4 (w.heap.size + 1) (.bool nm3) (.slice Am3 km3 cm3) (.slice Bm3 jm3 dm3) = y5 at *
  obtain ⟨hp1, hp2, _⟩ := hqs.parts hrs (by decide)
  have hsd : szz (r.den : Int) ≤ 1000 := by unfold szz; rw [Int.natAbs_natCast]; exact Nat.le_trans hrs.2 (by decide)
  have hse : szz (q.den : Int) ≤ 1000 := by unfold szz; rw [Int.natAbs_natCast]; exact Nat.le_trans hqs.2 (by decide)
  have hqd : (0 : Int) < (q.den : Int) := by have := q.den_pos; omega
  have hy : r.num * (q.den : Int) < 0 := Int.mul_neg_of_neg_of_pos hr0 hqd
  go_upto_region 2 with fail
  refine wp_region_going 17 [] ([fun vq _ => vq = .pointer (some ⟨w.heap.size, 0, none⟩),
      fun vq wq => ZV wq vq q.num,
      fun vq _ => vq = .pointer (some ⟨w.heap.size + 1, 2, none⟩),
      fun vq _ => vq = .slice Bm3 jm3 dm3,
      fun vq wq => ZV wq vq ((r.den : Int)),
      fun vq wq => RowV wq vq [q.num, (r.den : Int)],
      fun vq wq => ZV wq vq ((q.num * (r.den : Int))),
      fun vq _ => vq = .pointer (some ⟨w.heap.size + 1, 0, none⟩),
      fun vq wq => ZV wq vq r.num,
      fun vq _ => vq = .pointer (some ⟨w.heap.size, 2, none⟩),
      fun vq _ => vq = .slice Bm2 jm2 dm2,
      fun vq wq => ZV wq vq ((q.den : Int)),
      fun vq wq => RowV wq vq [r.num, (q.den : Int)],
      fun vq wq => ZV wq vq ((r.num * (q.den : Int))),
      fun vq wq => ∃ u0, vq = .tuple #[u0, .int .i64 0] ∧ RV wq u0 ((Rat.divInt (q.num * (r.den : Int)) (r.num * (q.den : Int)))),
      fun vq wq => RV wq vq ((Rat.divInt (q.num * (r.den : Int)) (r.num * (q.den : Int)))),
      fun vq _ => vq = .int .i64 0]) (by kernel_rfl) (by kernel_rfl) (by decide) (by kernel_rfl) (by kernel_rfl) ?_ ?_ ?_
  · intro j hj; cases hj
  · refine po rfl (fun lq aq wq hk hr K hK => ?_) ?_
    · have B2 : ev aq (.tmp 2) = .pointer (some ⟨w.heap.size, 0, none⟩) := hk.base 2 (by kernel_rfl) rfl
      exact vc hK (by go_simp) (fun w2 h2 => rfl)
    refine po rfl (fun lq aq wq hk hr K hK => ?_) ?_
    · have E0 : ev aq (.tmp 10) = .pointer (some ⟨w.heap.size, 0, none⟩) := hk.dc hr 0 (by kernel_rfl) fun _ _ h => h
      have hb := grows_of hk.ext
      exact vc hK (op_loadN 10 _ E0 (D0.out.below hb)) (fun w2 h2 => ⟨_, _, _, _, rfl, (SN0.out.below hb).below h2⟩)
    refine po rfl (fun lq aq wq hk hr K hK => ?_) ?_
    · have B3 : ev aq (.tmp 3) = .pointer (some ⟨w.heap.size + 1, 0, none⟩) := hk.base 3 (by kernel_rfl) rfl
      exact vc hK (by go_simp) (fun w2 h2 => rfl)
    refine po rfl (fun lq aq wq hk hr K hK => ?_) ?_
    · have E2 : ev aq (.tmp 12) = .pointer (some ⟨w.heap.size + 1, 2, none⟩) := hk.dc hr 2 (by kernel_rfl) fun _ _ h => h
      have hb := grows_of hk.ext
      have c2 := (D1.out.below hb).c2
      exact vc hK (by go_simp) (fun w2 h2 => rfl)
    refine po rfl (fun lq aq wq hk hr K hK => ?_) ?_
    · have E3 : ev aq (.tmp 13) = .slice Bm3 jm3 dm3 := hk.dc hr 3 (by kernel_rfl) fun _ _ h => h
      exact yc hK (by go_simp) (of_v wq false (SD1.out.below (grows_of hk.ext)).lv (sg_false _) hsd) (fun u w1 hu w2 h2 => (hu).grow h2)
    refine po rfl (fun lq aq wq hk hr K hK => ?_) ?_
    · obtain ⟨v1, E1, r1⟩ := hk.dp hr 1 11 (by kernel_rfl)
      have r1 : ZV wq v1 q.num := r1
      obtain ⟨n1, A1, k1, c1, rfl, s1⟩ := r1
      obtain ⟨v4, E4, r4⟩ := hk.dp hr 4 14 (by kernel_rfl)
      have r4 : ZV wq v4 ((r.den : Int)) := r4
      obtain ⟨n4, A4, k4, c4, rfl, s4⟩ := r4
      exact wp_of_value (op_row2 11 14 E1 E4) (hK.out _ _ ((Grows.refl _).alloc _) (fun w2 h2 => (RowV.two s1.whole s4.whole).grow h2) (fun h => absurd h (by decide)))
    refine po rfl (fun lq aq wq hk hr K hK => ?_) ?_
    · obtain ⟨v5, E5, r5⟩ := hk.dp hr 5 15 (by kernel_rfl)
      have r5 : RowV wq v5 [q.num, (r.den : Int)] := r5
      exact yc hK (by go_simp) (mul2_v wq r5 SN0.out.short hp1) (fun u w1 hu w2 h2 => (hu).grow h2)
    refine po rfl (fun lq aq wq hk hr K hK => ?_) ?_
    · have B3 : ev aq (.tmp 3) = .pointer (some ⟨w.heap.size + 1, 0, none⟩) := hk.base 3 (by kernel_rfl) rfl
      exact vc hK (by go_simp) (fun w2 h2 => rfl)
    refine po rfl (fun lq aq wq hk hr K hK => ?_) ?_
    · have E7 : ev aq (.tmp 17) = .pointer (some ⟨w.heap.size + 1, 0, none⟩) := hk.dc hr 7 (by kernel_rfl) fun _ _ h => h
      have hb := grows_of hk.ext
      exact vc hK (op_loadN 17 _ E7 (D1.out.below hb)) (fun w2 h2 => ⟨_, _, _, _, rfl, (SN1.out.below hb).below h2⟩)
    refine po rfl (fun lq aq wq hk hr K hK => ?_) ?_
    · have B2 : ev aq (.tmp 2) = .pointer (some ⟨w.heap.size, 0, none⟩) := hk.base 2 (by kernel_rfl) rfl
      exact vc hK (by go_simp) (fun w2 h2 => rfl)
    refine po rfl (fun lq aq wq hk hr K hK => ?_) ?_
    · have E9 : ev aq (.tmp 19) = .pointer (some ⟨w.heap.size, 2, none⟩) := hk.dc hr 9 (by kernel_rfl) fun _ _ h => h
      have hb := grows_of hk.ext
      have c2 := (D0.out.below hb).c2
      exact vc hK (by go_simp) (fun w2 h2 => rfl)
    refine po rfl (fun lq aq wq hk hr K hK => ?_) ?_
    · have E10 : ev aq (.tmp 20) = .slice Bm2 jm2 dm2 := hk.dc hr 10 (by kernel_rfl) fun _ _ h => h
      exact yc hK (by go_simp) (of_v wq false (SD0.out.below (grows_of hk.ext)).lv (sg_false _) hse) (fun u w1 hu w2 h2 => (hu).grow h2)
    refine po rfl (fun lq aq wq hk hr K hK => ?_) ?_
    · obtain ⟨v8, E8, r8⟩ := hk.dp hr 8 18 (by kernel_rfl)
      have r8 : ZV wq v8 r.num := r8
      obtain ⟨n8, A8, k8, c8, rfl, s8⟩ := r8
      obtain ⟨v11, E11, r11⟩ := hk.dp hr 11 21 (by kernel_rfl)
      have r11 : ZV wq v11 ((q.den : Int)) := r11
      obtain ⟨n11, A11, k11, c11, rfl, s11⟩ := r11
      exact wp_of_value (op_row2 18 21 E8 E11) (hK.out _ _ ((Grows.refl _).alloc _) (fun w2 h2 => (RowV.two s8.whole s11.whole).grow h2) (fun h => absurd h (by decide)))
    refine po rfl (fun lq aq wq hk hr K hK => ?_) ?_
    · obtain ⟨v12, E12, r12⟩ := hk.dp hr 12 22 (by kernel_rfl)
      have r12 : RowV wq v12 [r.num, (q.den : Int)] := r12
      exact yc hK (by go_simp) (mul2_v wq r12 SN1.out.short hp2) (fun u w1 hu w2 h2 => (hu).grow h2)
    refine po rfl (fun lq aq wq hk hr K hK => ?_) ?_
    · obtain ⟨v6, E6, r6⟩ := hk.dp hr 6 16 (by kernel_rfl)
      have r6 : ZV wq v6 ((q.num * (r.den : Int))) := r6
      obtain ⟨v13, E13, r13⟩ := hk.dp hr 13 23 (by kernel_rfl)
      have r13 : ZV wq v13 ((r.num * (q.den : Int))) := r13
      exact yc hK (by go_simp) (qof_neg wq (r6).wv (r13).wv hy) (fun u w1 hu w2 h2 => (let ⟨u0, e0, h0⟩ := hu; ⟨u0, e0, (h0).grow h2⟩))
    refine po rfl (fun lq aq wq hk hr K hK => ?_) ?_
    · obtain ⟨v14, E14, r14⟩ := hk.dp hr 14 24 (by kernel_rfl)
      have r14 : ∃ u0, v14 = .tuple #[u0, .int .i64 0] ∧ RV wq u0 ((Rat.divInt (q.num * (r.den : Int)) (r.num * (q.den : Int)))) := r14
      obtain ⟨u0, rfl, h0⟩ := r14
      exact vc hK (by go_simp) (fun w2 h2 => (h0).grow h2)
    refine po rfl (fun lq aq wq hk hr K hK => ?_) ?_
    · obtain ⟨v14, E14, r14⟩ := hk.dp hr 14 24 (by kernel_rfl)
      have r14 : ∃ u0, v14 = .tuple #[u0, .int .i64 0] ∧ RV wq u0 ((Rat.divInt (q.num * (r.den : Int)) (r.num * (q.den : Int)))) := r14
      obtain ⟨u0, rfl, h0⟩ := r14
      exact vc hK (by go_simp) (fun w2 h2 => rfl)
    exact AllOps.nil
  intro V x6 hG hV hap
  have r5 : RowV x6 (V 5) [q.num, (r.den : Int)] := hV 5 (by decide)
  have r6 : ZV x6 (V 6) ((q.num * (r.den : Int))) := hV 6 (by decide)
  have r15 : RV x6 (V 15) ((Rat.divInt (q.num * (r.den : Int)) (r.num * (q.den : Int)))) := hV 15 (by decide)
  have r16 : (V 16) = .int .i64 0 := hV 16 (by decide)
  clear hV hap
  simp only [List.take_succ_cons, List.take_zero, List.drop_succ_cons, List.drop_zero, putAll, Act.put, List.setIfInBounds_toArray, List.set_cons_zero, List.set_cons_succ]
  have hb := grows_of hG
  obtain ⟨nR, AR, kR, cR, BR, jR, dR, y9, eR, ey, hQ, HQ, c0, c1, c2⟩ := ret3 r15 (DR.out.below hb) (HB.out.trans (Below.mono hb HB.out.size)) (by omega)
  simp only [eR, r16]
  refine wpList_of_skip rfl (op_store3 4 25 _ rfl rfl (DR.out.below hb)) ?_
  rw [ey]
  clear eR ey hb hG HB DR r16
  go_wp2_with fail
  refine bodyPost_ret (v := .tuple #[.agg #[.bool nR, .slice AR kR cR, .slice BR jR dR], .int .i64 0]) (by simp [results, Tryz.results13, go_sem, c0, c1, c2]) rfl ⟨_, rfl, ⟨_, rfl, (RV.to hQ (div_parts q r))⟩, HQ⟩
end Go.Proofs.YtbippecchpaleaaGreatDoor
/- rat.Whole, Text: what each returns. -/
namespace Go.Num
open Go Go.RowKit Go.Kp
theorem cmpN_zero (a b : Nat) : (cmpN a b == 0) = decide (a = b) := by
  unfold cmpN
  by_cases h : a = b
  · subst h; simp
  · rw [decide_eq_false h]
    by_cases h1 : a < b
    · simp [h1]
    · have h2 : b < a := by omega
      simp [h1, h2]
/-- The text of a fraction. -/
def qtext (q : Rat) : List UInt8 := if q.den = 1 then ztext q.num else ztext q.num ++ 47 :: dec q.den
end Go.Num
namespace Go.Proofs.YtbippecchpaleaaGreatDoor
open Go.RowKit Go.Num Go.Kp
attribute [local go_sem] Oper.semAt_some u64_mask ev_const ev_func ev_global
theorem ncmp_v (w : World) {u v : Value} {l l' : List Nat} {a b : Nat} {k : Int} (h : LV w u l a) (g : LV w v l' b) (hk : cmpN a b = k) : Calls Tryz.prog 58 #[u, v] w fun e w' => ∃ r, e = .returned r ∧ r = .int .i64 k ∧ Grows w w' := by
  obtain ⟨A, c, rfl, s⟩ := h
  obtain ⟨A', c', rfl, s'⟩ := g
  refine (cmp_any w _ _ l l' a b s s').mono ?_
  rintro e w1 ⟨rfl, g⟩
  exact ⟨_, rfl, by rw [hk], g⟩
theorem ntext_v (w : World) {u : Value} {l : List Nat} {a : Nat} {s : ByteArray} (h : LV w u l a) (hs : ByteArray.mk (dec a).toArray = s) : Calls Tryz.prog 81 #[u] w fun e w' => ∃ r, e = .returned r ∧ r = .string s ∧ Grows w w' := by
  obtain ⟨A, c, rfl, q⟩ := h
  refine (text_any w _ l a q).mono ?_
  rintro e w1 ⟨rfl, g⟩
  exact ⟨_, rfl, by rw [hs], g⟩
set_option maxHeartbeats 4000000 in
set_option maxRecDepth 100000 in
theorem withB_v (w : World) {u : Value} {q : Rat} (t : Bool) (f : FuncId) (caps : Array Value) (h0 : QV w u q) (hf : ∀ (vs : Array Value) (w1 : World), (callFunc f vs).run Tryz.prog w1 = .ok (.enter f vs) w1) (hdo : ∀ (w1 : World) (u1 : Value), Grows w w1 → RV w1 u1 q → Calls Tryz.prog f (#[u1] ++ caps) w1 fun e w' => ∃ r, e = .returned r ∧ r = .bool t ∧ Grows w1 w') : Calls Tryz.prog 55 #[u, .func (.func f) #[] caps] w fun e w' => ∃ r, e = .returned r ∧ r = .bool t ∧ Grows w w' := by
  obtain ⟨n0, A0, k0, c0, B0, j0, d0, rfl, z0, l0, a0, s0, t0, hl0, e0⟩ := h0
  have hk0 : szz z0 ≤ 1000 := s0.size
  go_enter Tryz.func55, Tryz.ntmps55
  go_upto_region 1 with fail
  obtain ⟨x0, ex0, HB, D0⟩ := st_3 w 26 (.bool n0) (.slice A0 k0 c0) (.slice B0 j0 d0)
  rw [ex0]
  clear ex0
  replace HB := Lib.hid HB
  replace D0 := Lib.hid D0
  have SN0 := Lib.hid (s0.below HB.out)
  clear s0
  have SD0 := Lib.hid (t0.below HB.out)
  clear t0
  refine wp_region_calm 4 [] ([fun vq _ => vq = .func (.func f) #[] caps,
      fun vq wq => QV wq vq q,
      fun vq wq => RV wq vq q,
      fun vq _ => vq = .bool t]) (by kernel_rfl) (by decide) ?_ ?_ ?_
  · intro j hj; cases hj
  · refine po rfl (fun lq aq wq hk hr K hK => ?_) ?_
    · have B1 : ev aq (.tmp 1) = .func (.func f) #[] caps := hk.base 1 (by kernel_rfl) rfl
      exact vc hK (by go_simp) (fun w2 h2 => rfl)
    refine po rfl (fun lq aq wq hk hr K hK => ?_) ?_
    · have B2 : ev aq (.tmp 2) = .pointer (some ⟨w.heap.size, 0, none⟩) := hk.base 2 (by kernel_rfl) rfl
      have hb : Below _ _ _ := hk.ext
      exact vc hK (op_load3 2 _ B2 (D0.out.below hb)) (fun w2 h2 => QV.grow ⟨_, _, _, _, _, _, _, rfl, _, _, _, (SN0.out.below hb), (SD0.out.below hb), hl0, e0⟩ h2)
    refine po rfl (fun lq aq wq hk hr K hK => ?_) ?_
    · obtain ⟨v1, E1, r1⟩ := hk.dp hr 1 6 (by kernel_rfl)
      have r1 : QV wq v1 q := r1
      exact yc hK (by go_simp) (made_v wq r1) (fun u w1 hu w2 h2 => (hu).grow h2)
    refine po rfl (fun lq aq wq hk hr K hK => ?_) ?_
    · have E0 : ev aq (.tmp 5) = .func (.func f) #[] caps := hk.dc hr 0 (by kernel_rfl) fun _ _ h => h
      obtain ⟨v2, E2, r2⟩ := hk.dp hr 2 7 (by kernel_rfl)
      have r2 : RV wq v2 q := r2
      refine wp_of_call (f := f) (vs := #[v2] ++ caps) (by go_simp) (hdo wq _ (HB.out.trans (Below.mono hk.ext HB.out.size)) r2) ?_
      rintro e w1 ⟨u, rfl, hu, hb⟩
      exact ⟨u, rfl, hK.out _ _ hb (fun w2 h2 => hu) (fun h => absurd h (by decide))⟩
    exact AllOps.nil
  intro V x1 hG hV hap
  have r3 : (V 3) = .bool t := hV 3 (by decide)
  clear hV hap
  simp only [List.take_succ_cons, List.take_zero, List.drop_succ_cons, List.drop_zero, putAll, Act.put, List.setIfInBounds_toArray, List.set_cons_zero, List.set_cons_succ]
  have hb := (show Below _ _ _ from hG)
  replace D0 := Lib.hid (D0.out.below hb)
  replace SN0 := Lib.hid (SN0.out.below hb)
  replace SD0 := Lib.hid (SD0.out.below hb)
  replace HB := Lib.hid (HB.out.trans (Below.mono hb HB.out.size))
  clear hb hG
  rw [r3]
  clear r3
  go_wp2_with fail
  go_ret
  exact ⟨_, rfl, rfl, HB.out⟩
set_option maxHeartbeats 4000000 in
set_option maxRecDepth 100000 in
theorem withS_v (w : World) {u : Value} {q : Rat} (t : ByteArray) (f : FuncId) (caps : Array Value) (h0 : QV w u q) (hf : ∀ (vs : Array Value) (w1 : World), (callFunc f vs).run Tryz.prog w1 = .ok (.enter f vs) w1) (hdo : ∀ (w1 : World) (u1 : Value), Grows w w1 → RV w1 u1 q → Calls Tryz.prog f (#[u1] ++ caps) w1 fun e w' => ∃ r, e = .returned r ∧ r = .string t ∧ Grows w1 w') : Calls Tryz.prog 78 #[u, .func (.func f) #[] caps] w fun e w' => ∃ r, e = .returned r ∧ r = .string t ∧ Grows w w' := by
  obtain ⟨n0, A0, k0, c0, B0, j0, d0, rfl, z0, l0, a0, s0, t0, hl0, e0⟩ := h0
  have hk0 : szz z0 ≤ 1000 := s0.size
  go_enter Tryz.func78, Tryz.ntmps78
  go_upto_region 1 with fail
  obtain ⟨x0, ex0, HB, D0⟩ := st_3 w 26 (.bool n0) (.slice A0 k0 c0) (.slice B0 j0 d0)
  rw [ex0]
  clear ex0
  replace HB := Lib.hid HB
  replace D0 := Lib.hid D0
  have SN0 := Lib.hid (s0.below HB.out)
  clear s0
  have SD0 := Lib.hid (t0.below HB.out)
  clear t0
  refine wp_region_calm 4 [] ([fun vq _ => vq = .func (.func f) #[] caps,
      fun vq wq => QV wq vq q,
      fun vq wq => RV wq vq q,
      fun vq _ => vq = .string t]) (by kernel_rfl) (by decide) ?_ ?_ ?_
  · intro j hj; cases hj
  · refine po rfl (fun lq aq wq hk hr K hK => ?_) ?_
    · have B1 : ev aq (.tmp 1) = .func (.func f) #[] caps := hk.base 1 (by kernel_rfl) rfl
      exact vc hK (by go_simp) (fun w2 h2 => rfl)
    refine po rfl (fun lq aq wq hk hr K hK => ?_) ?_
    · have B2 : ev aq (.tmp 2) = .pointer (some ⟨w.heap.size, 0, none⟩) := hk.base 2 (by kernel_rfl) rfl
      have hb : Below _ _ _ := hk.ext
      exact vc hK (op_load3 2 _ B2 (D0.out.below hb)) (fun w2 h2 => QV.grow ⟨_, _, _, _, _, _, _, rfl, _, _, _, (SN0.out.below hb), (SD0.out.below hb), hl0, e0⟩ h2)
    refine po rfl (fun lq aq wq hk hr K hK => ?_) ?_
    · obtain ⟨v1, E1, r1⟩ := hk.dp hr 1 6 (by kernel_rfl)
      have r1 : QV wq v1 q := r1
      exact yc hK (by go_simp) (made_v wq r1) (fun u w1 hu w2 h2 => (hu).grow h2)
    refine po rfl (fun lq aq wq hk hr K hK => ?_) ?_
    · have E0 : ev aq (.tmp 5) = .func (.func f) #[] caps := hk.dc hr 0 (by kernel_rfl) fun _ _ h => h
      obtain ⟨v2, E2, r2⟩ := hk.dp hr 2 7 (by kernel_rfl)
      have r2 : RV wq v2 q := r2
      refine wp_of_call (f := f) (vs := #[v2] ++ caps) (by go_simp) (hdo wq _ (HB.out.trans (Below.mono hk.ext HB.out.size)) r2) ?_
      rintro e w1 ⟨u, rfl, hu, hb⟩
      exact ⟨u, rfl, hK.out _ _ hb (fun w2 h2 => hu) (fun h => absurd h (by decide))⟩
    exact AllOps.nil
  intro V x1 hG hV hap
  have r3 : (V 3) = .string t := hV 3 (by decide)
  clear hV hap
  simp only [List.take_succ_cons, List.take_zero, List.drop_succ_cons, List.drop_zero, putAll, Act.put, List.setIfInBounds_toArray, List.set_cons_zero, List.set_cons_succ]
  have hb := (show Below _ _ _ from hG)
  replace D0 := Lib.hid (D0.out.below hb)
  replace SN0 := Lib.hid (SN0.out.below hb)
  replace SD0 := Lib.hid (SD0.out.below hb)
  replace HB := Lib.hid (HB.out.trans (Below.mono hb HB.out.size))
  clear hb hG
  rw [r3]
  clear r3
  go_wp2_with fail
  go_ret
  exact ⟨_, rfl, rfl, HB.out⟩
theorem whole1_f : ∀ (vs : Array Value) (w1 : World), (callFunc 90 vs).run Tryz.prog w1 = .ok (.enter 90 vs) w1 := run_callFunc_go Tryz.func90 (by kernel_rfl) (by kernel_rfl)
theorem text1_f : ∀ (vs : Array Value) (w1 : World), (callFunc 79 vs).run Tryz.prog w1 = .ok (.enter 79 vs) w1 := run_callFunc_go Tryz.func79 (by kernel_rfl) (by kernel_rfl)
set_option maxHeartbeats 4000000 in
set_option maxRecDepth 100000 in
theorem whole1_v (w : World) {u : Value} {q : Rat} {t : Bool} (h0 : RV w u q) (ht : decide (q.den = 1) = t) : Calls Tryz.prog 90 #[u] w fun e w' => ∃ r, e = .returned r ∧ r = .bool t ∧ Grows w w' := by
  obtain ⟨n0, A0, k0, c0, B0, j0, d0, rfl, s0, t0, hd0⟩ := h0
  go_enter Tryz.func90, Tryz.ntmps90
  go_upto_region 1 with fail
  obtain ⟨x0, ex0, HB, D0⟩ := st_3 w 26 (.bool n0) (.slice A0 k0 c0) (.slice B0 j0 d0)
  rw [ex0]
  clear ex0
  replace HB := Lib.hid HB
  replace D0 := Lib.hid D0
  have SN0 := Lib.hid (s0.below HB.out)
  clear s0
  have SD0 := Lib.hid (t0.below HB.out)
  clear t0
  obtain ⟨k, hkc⟩ : ∃ k, cmpN q.den 1 = k := ⟨_, rfl⟩
  have hkt : (k == 0) = t := by rw [← hkc, cmpN_zero]; exact ht
  replace hkc := Lib.hid hkc
  refine wp_region_going 5 [] ([fun vq _ => vq = .pointer (some ⟨w.heap.size, 2, none⟩),
      fun vq _ => vq = .slice B0 j0 d0,
      fun vq wq => LV wq vq ((limbs 1)) 1,
      fun vq _ => vq = .int .i64 k,
      fun vq _ => vq = .bool t]) (by kernel_rfl) (by kernel_rfl) (by decide) (by kernel_rfl) (by kernel_rfl) ?_ ?_ ?_
  · intro j hj; cases hj
  · refine po rfl (fun lq aq wq hk hr K hK => ?_) ?_
    · have B1 : ev aq (.tmp 1) = .pointer (some ⟨w.heap.size, 0, none⟩) := hk.base 1 (by kernel_rfl) rfl
      exact vc hK (by go_simp) (fun w2 h2 => rfl)
    refine po rfl (fun lq aq wq hk hr K hK => ?_) ?_
    · have E0 : ev aq (.tmp 3) = .pointer (some ⟨w.heap.size, 2, none⟩) := hk.dc hr 0 (by kernel_rfl) fun _ _ h => h
      have hb := grows_of hk.ext
      have c2 := (D0.out.below hb).c2
      exact vc hK (by go_simp) (fun w2 h2 => rfl)
    refine po rfl (fun lq aq wq hk hr K hK => ?_) ?_
    · exact yc hK (by go_simp) (one_v wq) (fun u w1 hu w2 h2 => (hu).grow h2)
    refine po rfl (fun lq aq wq hk hr K hK => ?_) ?_
    · have E1 : ev aq (.tmp 4) = .slice B0 j0 d0 := hk.dc hr 1 (by kernel_rfl) fun _ _ h => h
      obtain ⟨v2, E2, r2⟩ := hk.dp hr 2 5 (by kernel_rfl)
      have r2 : LV wq v2 ((limbs 1)) 1 := r2
      exact yc hK (by go_simp) (ncmp_v wq (SD0.out.below (grows_of hk.ext)).lv r2 hkc.out) (fun u w1 hu w2 h2 => hu)
    refine po rfl (fun lq aq wq hk hr K hK => ?_) ?_
    · have E3 : ev aq (.tmp 6) = .int .i64 k := hk.dc hr 3 (by kernel_rfl) fun _ _ h => h
      exact vc hK (by go_simp) (fun w2 h2 => rfl)
    exact AllOps.nil
  intro V x1 hG hV hap
  have r1 : (V 1) = .slice B0 j0 d0 := hV 1 (by decide)
  have r4 : (V 4) = .bool t := hV 4 (by decide)
  clear hV hap
  simp only [List.take_succ_cons, List.take_zero, List.drop_succ_cons, List.drop_zero, putAll, Act.put, List.setIfInBounds_toArray, List.set_cons_zero, List.set_cons_succ]
  have hb := grows_of hG
  replace D0 := Lib.hid (D0.out.below hb)
  replace SN0 := Lib.hid (SN0.out.below hb)
  replace SD0 := Lib.hid (SD0.out.below hb)
  replace HB := Lib.hid (HB.out.trans (Below.mono hb HB.out.size))
  clear hb hG
  rw [r4]
  clear r4
  go_wp2_with fail
  go_ret
  exact ⟨_, rfl, rfl, HB.out⟩
set_option maxHeartbeats 4000000 in
set_option maxRecDepth 100000 in
theorem qwhole_v (w : World) {u : Value} {q : Rat} {t : Bool} (h0 : QV w u q) (ht : decide (q.den = 1) = t) : Calls Tryz.prog 43 #[u] w fun e w' => ∃ r, e = .returned r ∧ r = .bool t ∧ Grows w w' := by
  obtain ⟨n0, A0, k0, c0, B0, j0, d0, rfl, z0, l0, a0, s0, t0, hl0, e0⟩ := h0
  have hk0 : szz z0 ≤ 1000 := s0.size
  go_enter Tryz.func43, Tryz.ntmps43
  go_upto_region 1 with fail
  obtain ⟨x0, ex0, HB, D0⟩ := st_3 w 26 (.bool n0) (.slice A0 k0 c0) (.slice B0 j0 d0)
  rw [ex0]
  clear ex0
  replace HB := Lib.hid HB
  replace D0 := Lib.hid D0
  have SN0 := Lib.hid (s0.below HB.out)
  clear s0
  have SD0 := Lib.hid (t0.below HB.out)
  clear t0
  refine wp_region_calm 2 [] ([fun vq wq => QV wq vq q,
      fun vq _ => vq = .bool t]) (by kernel_rfl) (by decide) ?_ ?_ ?_
  · intro j hj; cases hj
  · refine po rfl (fun lq aq wq hk hr K hK => ?_) ?_
    · have B1 : ev aq (.tmp 1) = .pointer (some ⟨w.heap.size, 0, none⟩) := hk.base 1 (by kernel_rfl) rfl
      have hb : Below _ _ _ := hk.ext
      exact vc hK (op_load3 1 _ B1 (D0.out.below hb)) (fun w2 h2 => QV.grow ⟨_, _, _, _, _, _, _, rfl, _, _, _, (SN0.out.below hb), (SD0.out.below hb), hl0, e0⟩ h2)
    refine po rfl (fun lq aq wq hk hr K hK => ?_) ?_
    · obtain ⟨v0, E0, r0⟩ := hk.dp hr 0 3 (by kernel_rfl)
      have r0 : QV wq v0 q := r0
      exact yc hK (f := 55) (vs := #[v0, .func (.func 90) #[] #[]]) (by go_simp) (withB_v wq t _ #[] r0 whole1_f (fun w1 u1 _ hu => whole1_v w1 hu ht)) (fun u w1 hu w2 h2 => hu)
    exact AllOps.nil
  intro V x1 hG hV hap
  have r1 : (V 1) = .bool t := hV 1 (by decide)
  clear hV hap
  simp only [List.take_succ_cons, List.take_zero, List.drop_succ_cons, List.drop_zero, putAll, Act.put, List.setIfInBounds_toArray, List.set_cons_zero, List.set_cons_succ]
  have hb := (show Below _ _ _ from hG)
  replace D0 := Lib.hid (D0.out.below hb)
  replace SN0 := Lib.hid (SN0.out.below hb)
  replace SD0 := Lib.hid (SD0.out.below hb)
  replace HB := Lib.hid (HB.out.trans (Below.mono hb HB.out.size))
  clear hb hG
  rw [r1]
  clear r1
  go_wp2_with fail
  go_ret
  exact ⟨_, rfl, rfl, HB.out⟩
set_option maxHeartbeats 4000000 in
set_option maxRecDepth 100000 in
theorem text1_v (w : World) {u : Value} {q : Rat} {s : ByteArray} (h0 : RV w u q) (hs : ByteArray.mk (qtext q).toArray = s) : Calls Tryz.prog 79 #[u] w fun e w' => ∃ r, e = .returned r ∧ r = .string s ∧ Grows w w' := by
  obtain ⟨n0, A0, k0, c0, B0, j0, d0, rfl, s0, t0, hd0⟩ := h0
  go_enter Tryz.func79, Tryz.ntmps79
  go_upto_region 1 with fail
  obtain ⟨x0, ex0, HB, D0⟩ := st_3 w 26 (.bool n0) (.slice A0 k0 c0) (.slice B0 j0 d0)
  rw [ex0]
  clear ex0
  replace HB := Lib.hid HB
  replace D0 := Lib.hid D0
  have SN0 := Lib.hid (s0.below HB.out)
  clear s0
  have SD0 := Lib.hid (t0.below HB.out)
  clear t0
  rcases Decidable.em (q.den = 1) with hw | hw
  · skip
    refine wp_region_calm 2 [] ([fun vq wq => RV wq vq q,
        fun vq _ => vq = .bool true]) (by kernel_rfl) (by decide) ?_ ?_ ?_
    · intro j hj; cases hj
    · refine po rfl (fun lq aq wq hk hr K hK => ?_) ?_
      · have B1 : ev aq (.tmp 1) = .pointer (some ⟨w.heap.size, 0, none⟩) := hk.base 1 (by kernel_rfl) rfl
        have hb : Below _ _ _ := hk.ext
        exact vc hK (op_load3 1 _ B1 (D0.out.below hb)) (fun w2 h2 => RV.grow ⟨_, _, _, _, _, _, _, rfl, (SN0.out.below hb), (SD0.out.below hb), hd0⟩ h2)
      refine po rfl (fun lq aq wq hk hr K hK => ?_) ?_
      · obtain ⟨v0, E0, r0⟩ := hk.dp hr 0 3 (by kernel_rfl)
        have r0 : RV wq v0 q := r0
        exact yc hK (by go_simp) (qwhole_v wq (t := true) (r0).qv (decide_eq_true hw)) (fun u w1 hu w2 h2 => hu)
      exact AllOps.nil
    intro V x1 hG hV hap
    have r1 : (V 1) = .bool true := hV 1 (by decide)
    clear hV hap
    simp only [List.take_succ_cons, List.take_nil, List.drop_succ_cons, List.drop_nil, putAll, Act.put, List.setIfInBounds_toArray, List.set_cons_zero, List.set_cons_succ]
    have hb := (show Below _ _ _ from hG)
    replace D0 := Lib.hid (D0.out.below hb)
    replace SN0 := Lib.hid (SN0.out.below hb)
    replace SD0 := Lib.hid (SD0.out.below hb)
    replace HB := Lib.hid (HB.out.trans (Below.mono hb HB.out.size))
    clear hb hG
    rw [r1]
    clear r1
    have hs1 : ByteArray.mk (ztext q.num).toArray = s := by rw [← hs]; unfold qtext; rw [if_pos hw]
    go_upto_region 2 with fail
    refine wp_region_calm 3 [] ([fun vq _ => vq = .pointer (some ⟨w.heap.size, 0, none⟩),
        fun vq wq => ZV wq vq q.num,
        fun vq _ => vq = .string s]) (by kernel_rfl) (by decide) ?_ ?_ ?_
    · intro j hj; cases hj
    · refine po rfl (fun lq aq wq hk hr K hK => ?_) ?_
      · have B1 : ev aq (.tmp 1) = .pointer (some ⟨w.heap.size, 0, none⟩) := hk.base 1 (by kernel_rfl) rfl
        exact vc hK (by go_simp) (fun w2 h2 => rfl)
      refine po rfl (fun lq aq wq hk hr K hK => ?_) ?_
      · have E0 : ev aq (.tmp 5) = .pointer (some ⟨w.heap.size, 0, none⟩) := hk.dc hr 0 (by kernel_rfl) fun _ _ h => h
        have hb : Below _ _ _ := hk.ext
        exact vc hK (op_loadN 5 _ E0 (D0.out.below hb)) (fun w2 h2 => ⟨_, _, _, _, rfl, (SN0.out.below hb).below h2⟩)
      refine po rfl (fun lq aq wq hk hr K hK => ?_) ?_
      · obtain ⟨v1, E1, r1⟩ := hk.dp hr 1 6 (by kernel_rfl)
        have r1 : ZV wq v1 q.num := r1
        exact yc hK (by go_simp) (text_v wq (r1).wv (s := s) hs1) (fun u w1 hu w2 h2 => hu)
      exact AllOps.nil
    intro V x2 hG hV hap
    have r2 : (V 2) = .string s := hV 2 (by decide)
    clear hV hap
    simp only [List.take_succ_cons, List.take_zero, List.drop_succ_cons, List.drop_zero, putAll, Act.put, List.setIfInBounds_toArray, List.set_cons_zero, List.set_cons_succ]
    have hb := (show Below _ _ _ from hG)
    replace D0 := Lib.hid (D0.out.below hb)
    replace SN0 := Lib.hid (SN0.out.below hb)
    replace SD0 := Lib.hid (SD0.out.below hb)
    replace HB := Lib.hid (HB.out.trans (Below.mono hb HB.out.size))
    clear hb hG
    rw [r2]
    clear r2
    go_wp2_with fail
    go_ret
    exact ⟨_, rfl, rfl, HB.out⟩
  · skip
    refine wp_region_calm 2 [] ([fun vq wq => RV wq vq q,
        fun vq _ => vq = .bool false]) (by kernel_rfl) (by decide) ?_ ?_ ?_
    · intro j hj; cases hj
    · refine po rfl (fun lq aq wq hk hr K hK => ?_) ?_
      · have B1 : ev aq (.tmp 1) = .pointer (some ⟨w.heap.size, 0, none⟩) := hk.base 1 (by kernel_rfl) rfl
        have hb : Below _ _ _ := hk.ext
        exact vc hK (op_load3 1 _ B1 (D0.out.below hb)) (fun w2 h2 => RV.grow ⟨_, _, _, _, _, _, _, rfl, (SN0.out.below hb), (SD0.out.below hb), hd0⟩ h2)
      refine po rfl (fun lq aq wq hk hr K hK => ?_) ?_
      · obtain ⟨v0, E0, r0⟩ := hk.dp hr 0 3 (by kernel_rfl)
        have r0 : RV wq v0 q := r0
        exact yc hK (by go_simp) (qwhole_v wq (t := false) (r0).qv (decide_eq_false hw)) (fun u w1 hu w2 h2 => hu)
      exact AllOps.nil
    intro V x1 hG hV hap
    have r1 : (V 1) = .bool false := hV 1 (by decide)
    clear hV hap
    simp only [List.take_succ_cons, List.take_nil, List.drop_succ_cons, List.drop_nil, putAll, Act.put, List.setIfInBounds_toArray, List.set_cons_zero, List.set_cons_succ]
    have hb := (show Below _ _ _ from hG)
    replace D0 := Lib.hid (D0.out.below hb)
    replace SN0 := Lib.hid (SN0.out.below hb)
    replace SD0 := Lib.hid (SD0.out.below hb)
    replace HB := Lib.hid (HB.out.trans (Below.mono hb HB.out.size))
    clear hb hG
    rw [r1]
    clear r1
    obtain ⟨s1, hs1⟩ : ∃ s1, ByteArray.mk (ztext q.num).toArray = s1 := ⟨_, rfl⟩
    obtain ⟨s2, hs2⟩ : ∃ s2, ByteArray.mk (ztext q.num ++ [47]).toArray = s2 := ⟨_, rfl⟩
    obtain ⟨s3, hs3⟩ : ∃ s3, ByteArray.mk (dec q.den).toArray = s3 := ⟨_, rfl⟩
    have hc1 : s1 ++ ByteArray.mk #[47] = s2 := by rw [← hs1, ← hs2]; exact cat_bytes' _ [47]
    have hc2 : s2 ++ s3 = s := by rw [← hs2, ← hs3, cat_bytes', ← hs]; unfold qtext; rw [if_neg hw, List.append_assoc]; rfl
    have hl1 : s1.size ≤ 100000 := by rw [← hs1]; have := ztext_len SN0.out.short; show (ztext q.num).toArray.size ≤ _; simp; omega
    have hl2 : s2.size ≤ 100000 := by rw [← hs2]; have := ztext_len SN0.out.short; show (ztext q.num ++ [47]).toArray.size ≤ _; simp; omega
    have hl3 : s3.size ≤ 100000 := by rw [← hs3]; have := dec_short hd0; show (dec q.den).toArray.size ≤ _; simp; omega
    have hl4 : s1.size ≤ 9223372036854775806 := by omega
    have hl5 : s2.size + s3.size ≤ 9223372036854775807 := by omega
    clear hl1 hl2 hl3
    replace hs1 := Lib.hid hs1
    replace hs3 := Lib.hid hs3
    clear hs2 hs
    go_upto_region 3 with fail
    refine wp_region_going 8 [] ([fun vq _ => vq = .pointer (some ⟨w.heap.size, 0, none⟩),
        fun vq wq => ZV wq vq q.num,
        fun vq _ => vq = .string s1,
        fun vq _ => vq = .string s2,
        fun vq _ => vq = .pointer (some ⟨w.heap.size, 2, none⟩),
        fun vq _ => vq = .slice B0 j0 d0,
        fun vq _ => vq = .string s3,
        fun vq _ => vq = .string s]) (by kernel_rfl) (by kernel_rfl) (by decide) (by kernel_rfl) (by kernel_rfl) ?_ ?_ ?_
    · intro j hj; cases hj
    · refine po rfl (fun lq aq wq hk hr K hK => ?_) ?_
      · have B1 : ev aq (.tmp 1) = .pointer (some ⟨w.heap.size, 0, none⟩) := hk.base 1 (by kernel_rfl) rfl
        exact vc hK (by go_simp) (fun w2 h2 => rfl)
      refine po rfl (fun lq aq wq hk hr K hK => ?_) ?_
      · have E0 : ev aq (.tmp 8) = .pointer (some ⟨w.heap.size, 0, none⟩) := hk.dc hr 0 (by kernel_rfl) fun _ _ h => h
        have hb := grows_of hk.ext
        exact vc hK (op_loadN 8 _ E0 (D0.out.below hb)) (fun w2 h2 => ⟨_, _, _, _, rfl, (SN0.out.below hb).below h2⟩)
      refine po rfl (fun lq aq wq hk hr K hK => ?_) ?_
      · obtain ⟨v1, E1, r1⟩ := hk.dp hr 1 9 (by kernel_rfl)
        have r1 : ZV wq v1 q.num := r1
        exact yc hK (by go_simp) (text_v wq (r1).wv (s := s1) hs1.out) (fun u w1 hu w2 h2 => hu)
      refine po rfl (fun lq aq wq hk hr K hK => ?_) ?_
      · have E2 : ev aq (.tmp 10) = .string s1 := hk.dc hr 2 (by kernel_rfl) fun _ _ h => h
        exact vc hK (by go_simp) (fun w2 h2 => rfl)
      refine po rfl (fun lq aq wq hk hr K hK => ?_) ?_
      · have B1 : ev aq (.tmp 1) = .pointer (some ⟨w.heap.size, 0, none⟩) := hk.base 1 (by kernel_rfl) rfl
        exact vc hK (by go_simp) (fun w2 h2 => rfl)
      refine po rfl (fun lq aq wq hk hr K hK => ?_) ?_
      · have E4 : ev aq (.tmp 12) = .pointer (some ⟨w.heap.size, 2, none⟩) := hk.dc hr 4 (by kernel_rfl) fun _ _ h => h
        have hb := grows_of hk.ext
        have c2 := (D0.out.below hb).c2
        exact vc hK (by go_simp) (fun w2 h2 => rfl)
      refine po rfl (fun lq aq wq hk hr K hK => ?_) ?_
      · have E5 : ev aq (.tmp 13) = .slice B0 j0 d0 := hk.dc hr 5 (by kernel_rfl) fun _ _ h => h
        exact yc hK (by go_simp) (ntext_v wq (SD0.out.below (grows_of hk.ext)).lv hs3.out) (fun u w1 hu w2 h2 => hu)
      refine po rfl (fun lq aq wq hk hr K hK => ?_) ?_
      · have E3 : ev aq (.tmp 11) = .string s2 := hk.dc hr 3 (by kernel_rfl) fun _ _ h => h
        have E6 : ev aq (.tmp 14) = .string s3 := hk.dc hr 6 (by kernel_rfl) fun _ _ h => h
        exact vc hK (by go_simp) (fun w2 h2 => rfl)
      exact AllOps.nil
    intro V x2 hG hV hap
    have r7 : (V 7) = .string s := hV 7 (by decide)
    clear hV hap
    simp only [List.take_succ_cons, List.take_zero, List.drop_succ_cons, List.drop_zero, putAll, Act.put, List.setIfInBounds_toArray, List.set_cons_zero, List.set_cons_succ]
    have hb := grows_of hG
    replace D0 := Lib.hid (D0.out.below hb)
    replace SN0 := Lib.hid (SN0.out.below hb)
    replace SD0 := Lib.hid (SD0.out.below hb)
    replace HB := Lib.hid (HB.out.trans (Below.mono hb HB.out.size))
    clear hb hG
    rw [r7]
    clear r7
    go_wp2_with fail
    go_ret
    exact ⟨_, rfl, rfl, HB.out⟩
set_option maxHeartbeats 4000000 in
set_option maxRecDepth 100000 in
theorem qtext_v (w : World) {u : Value} {q : Rat} {s : ByteArray} (h0 : QV w u q) (hs : ByteArray.mk (qtext q).toArray = s) : Calls Tryz.prog 37 #[u] w fun e w' => ∃ r, e = .returned r ∧ r = .string s ∧ Grows w w' := by
  obtain ⟨n0, A0, k0, c0, B0, j0, d0, rfl, z0, l0, a0, s0, t0, hl0, e0⟩ := h0
  have hk0 : szz z0 ≤ 1000 := s0.size
  go_enter Tryz.func37, Tryz.ntmps37
  go_upto_region 1 with fail
  obtain ⟨x0, ex0, HB, D0⟩ := st_3 w 26 (.bool n0) (.slice A0 k0 c0) (.slice B0 j0 d0)
  rw [ex0]
  clear ex0
  replace HB := Lib.hid HB
  replace D0 := Lib.hid D0
  have SN0 := Lib.hid (s0.below HB.out)
  clear s0
  have SD0 := Lib.hid (t0.below HB.out)
  clear t0
  refine wp_region_calm 2 [] ([fun vq wq => QV wq vq q,
      fun vq _ => vq = .string s]) (by kernel_rfl) (by decide) ?_ ?_ ?_
  · intro j hj; cases hj
  · refine po rfl (fun lq aq wq hk hr K hK => ?_) ?_
    · have B1 : ev aq (.tmp 1) = .pointer (some ⟨w.heap.size, 0, none⟩) := hk.base 1 (by kernel_rfl) rfl
      have hb : Below _ _ _ := hk.ext
      exact vc hK (op_load3 1 _ B1 (D0.out.below hb)) (fun w2 h2 => QV.grow ⟨_, _, _, _, _, _, _, rfl, _, _, _, (SN0.out.below hb), (SD0.out.below hb), hl0, e0⟩ h2)
    refine po rfl (fun lq aq wq hk hr K hK => ?_) ?_
    · obtain ⟨v0, E0, r0⟩ := hk.dp hr 0 3 (by kernel_rfl)
      have r0 : QV wq v0 q := r0
      exact yc hK (f := 78) (vs := #[v0, .func (.func 79) #[] #[]]) (by go_simp) (withS_v wq s _ #[] r0 text1_f (fun w1 u1 _ hu => text1_v w1 hu hs)) (fun u w1 hu w2 h2 => hu)
    exact AllOps.nil
  intro V x1 hG hV hap
  have r1 : (V 1) = .string s := hV 1 (by decide)
  clear hV hap
  simp only [List.take_succ_cons, List.take_zero, List.drop_succ_cons, List.drop_zero, putAll, Act.put, List.setIfInBounds_toArray, List.set_cons_zero, List.set_cons_succ]
  have hb := (show Below _ _ _ from hG)
  replace D0 := Lib.hid (D0.out.below hb)
  replace SN0 := Lib.hid (SN0.out.below hb)
  replace SD0 := Lib.hid (SD0.out.below hb)
  replace HB := Lib.hid (HB.out.trans (Below.mono hb HB.out.size))
  clear hb hG
  rw [r1]
  clear r1
  go_wp2_with fail
  go_ret
  exact ⟨_, rfl, rfl, HB.out⟩
end Go.Proofs.YtbippecchpaleaaGreatDoor
