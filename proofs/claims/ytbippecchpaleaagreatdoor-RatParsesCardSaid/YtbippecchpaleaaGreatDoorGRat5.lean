import Derived.Test.YtbippecchpaleaaGreatDoorGRat4
/- rat.two and its closures, when what is done writes a number: what is left. -/
namespace Go.Kp
open Go Go.RowKit
section
variable {P : Program} {ops : Array Oper} {Q : Exit → Act → World → Prop} {a : Act} {w : World} {o : Oper} {rest : List Oper}
theorem wpList_of_call {f : FuncId} {vs : Array Value} {R' : Ending → World → Prop} (hg : o.guard = none) (h : (execOp (ev a) o).run P w = .ok (.enter f vs) w) (hc : Calls P f vs w R') (hr : ∀ e w', R' e w' → ∃ v, e = .returned v ∧ wpList P ops Q rest (a.put o.dst v) w') : wpList P ops Q (o :: rest) a w := by
  refine wpList_plain hg fun K hK => wp_of_call h hc fun e w' he => ?_
  obtain ⟨v, e1, h1⟩ := hr e w' he
  exact ⟨v, e1, hK _ _ h1⟩
end
end Go.Kp
namespace Go.Num
open Go Go.RowKit Go.Kp
/-- A fraction by its shape. -/
def IsR (v : Value) : Prop := ∃ n A k c B j d, v = .agg #[.bool n, .slice A k c, .slice B j d]
/-- A number in one cell has been written. -/
def Sets (bn : Nat) (k : Int) (w w' : World) : Prop := Grows (w.setCell ⟨bn, 0, none⟩ (.int .i64 k)) w'
section
variable {w w1 w' : World} {bn g : Nat} {k : Int} {T : TypeId} {x y z : Value}
theorem setCell_size (w : World) (p : Addr) (v : Value) : (w.setCell p v).heap.size = w.heap.size := by
  show (w.heap.modify p.block _).size = _
  rw [Array.size_modify]
theorem Sets.pre (h : Grows w w1) (hb : bn < w.heap.size) (hs : Sets bn k w1 w') : Sets bn k w w' := by
  have h2 : Grows (w.setCell ⟨bn, 0, none⟩ (.int .i64 k)) (w1.setCell ⟨bn, 0, none⟩ (.int .i64 k)) := ⟨h.os, h.tape, h.output, by rw [setCell_size, setCell_size]; exact h.size, fun i hi => ?_⟩
  · exact Grows.trans h2 hs
  rw [setCell_size] at hi
  by_cases e : i = bn
  · subst e
    show (w1.heap.modify i _)[i]? = (w.heap.modify i _)[i]?
    have h1 := h.block i hi
    have hi1 : i < w1.heap.size := Nat.lt_of_lt_of_le hi h.size
    rw [Array.getElem?_eq_getElem (by rw [Array.size_modify]; exact hi1), Array.getElem?_eq_getElem (by rw [Array.size_modify]; exact hi), Array.getElem_modify_self, Array.getElem_modify_self]
    rw [Array.getElem?_eq_getElem hi1, Array.getElem?_eq_getElem hi, Option.some.injEq] at h1
    rw [h1]
  · rw [Below.heap_setCell w1 ⟨bn, 0, none⟩ _ i e, Below.heap_setCell w ⟨bn, 0, none⟩ _ i e]
    exact h.block i hi
theorem Sets.box3 (h : Sets bn k w w') (hD : Box3 w g T x y z) (hg : g ≠ bn) : Box3 w' g T x y z := (hD.apart hg 0 _).below h
theorem Sets.cell {z0 : Int} (h : Sets bn k w w') (hD : BoxN w bn T #[.int .i64 z0]) : w'.cell? ⟨bn, 0, none⟩ = some (.int .i64 k) := by
  have h1 := hD
  obtain ⟨hlt, hk⟩ := Array.getElem?_eq_some_iff.1 (show w.heap[bn]? = _ from hD)
  have h2 : (w.setCell ⟨bn, 0, none⟩ (.int .i64 k)).heap[bn]? = some (.cells #[.int .i64 k] T (0, 0)) := by
    show (w.heap.modify bn _)[bn]? = _
    rw [Array.getElem?_eq_getElem (by rw [Array.size_modify]; exact hlt), Array.getElem_modify_self, hk]
    rfl
  have h3 := (h.block bn (by rw [setCell_size]; exact hlt)).trans h2
  simp [World.cell?, h3]
end
section
attribute [local go_sem] ev_const ev_func ev_global
variable {P : Program} {a : Act} {w : World} {d : Option Tmp} {ty : TypeId} {pos : String} {af : Array Edge} {gu : Option (Nat × Bool)} {ts : Array TypeId} {f : FuncId} {caps : Array Value}
theorem op_callF1 (t x : Nat) {u : Value} (hf : ∀ (vs : Array Value) (w1 : World), (callFunc f vs).run P w1 = .ok (.enter f vs) w1) (he : ev a (.tmp t) = .func (.func f) #[] caps) (h1 : ev a (.tmp x) = u) :
    (execOp (ev a) ⟨d, .call {callee := .value (.tmp t), args := #[.tmp x], argTypes := ts}, ty, pos, af, gu⟩).run P w = .ok (.enter f (#[u] ++ caps)) w := by
  go_simp
theorem op_callF3 (t x y z : Nat) {u v m : Value} (hf : ∀ (vs : Array Value) (w1 : World), (callFunc f vs).run P w1 = .ok (.enter f vs) w1) (he : ev a (.tmp t) = .func (.func f) #[] caps) (h1 : ev a (.tmp x) = u) (h2 : ev a (.tmp y) = v) (h3 : ev a (.tmp z) = m) :
    (execOp (ev a) ⟨d, .call {callee := .value (.tmp t), args := #[.tmp x, .tmp y, .tmp z], argTypes := ts}, ty, pos, af, gu⟩).run P w = .ok (.enter f (#[u, v, m] ++ caps)) w := by
  go_simp
theorem op_call2 (x y : Nat) {u v : Value} (hf : ∀ (vs : Array Value) (w1 : World), (callFunc f vs).run P w1 = .ok (.enter f vs) w1) (h1 : ev a (.tmp x) = u) (h2 : ev a (.tmp y) = v) :
    (execOp (ev a) ⟨d, .call {callee := .value (.func f), args := #[.tmp x, .tmp y], argTypes := ts}, ty, pos, af, gu⟩).run P w = .ok (.enter f #[u, v]) w := by
  go_simp
theorem op_call3 (x y z : Nat) {u v m : Value} (hf : ∀ (vs : Array Value) (w1 : World), (callFunc f vs).run P w1 = .ok (.enter f vs) w1) (h1 : ev a (.tmp x) = u) (h2 : ev a (.tmp y) = v) (h3 : ev a (.tmp z) = m) :
    (execOp (ev a) ⟨d, .call {callee := .value (.func f), args := #[.tmp x, .tmp y, .tmp z], argTypes := ts}, ty, pos, af, gu⟩).run P w = .ok (.enter f #[u, v, m]) w := by
  go_simp
end
end Go.Num
namespace Go.Proofs.YtbippecchpaleaaGreatDoor
open Go.RowKit Go.Num Go.Kp
attribute [local go_sem] Oper.semAt_some u64_mask ev_const ev_func ev_global
theorem with_f : ∀ (vs : Array Value) (w1 : World), (callFunc 59 vs).run Tryz.prog w1 = .ok (.enter 59 vs) w1 := run_callFunc_go Tryz.func59 (by kernel_rfl) (by kernel_rfl)
theorem two_f : ∀ (vs : Array Value) (w1 : World), (callFunc 67 vs).run Tryz.prog w1 = .ok (.enter 67 vs) w1 := run_callFunc_go Tryz.func67 (by kernel_rfl) (by kernel_rfl)
set_option maxHeartbeats 4000000 in
set_option maxRecDepth 100000 in
theorem withS_ (w : World) {u : Value} {q : Rat} (f : FuncId) (caps : Array Value) (bn : Nat) (k : Int) (h0 : QV w u q) (hf : ∀ (vs : Array Value) (w1 : World), (callFunc f vs).run Tryz.prog w1 = .ok (.enter f vs) w1) (hdo : ∀ (w1 : World) (u1 : Value), Grows w w1 → RV w1 u1 q → Calls Tryz.prog f (#[u1] ++ caps) w1 fun e w' => ∃ x, e = .returned x ∧ IsR x ∧ Sets bn k w1 w') (hbn : bn < w.heap.size) : Calls Tryz.prog 59 #[u, .func (.func f) #[] caps] w fun e w' => ∃ x, e = .returned x ∧ IsR x ∧ Sets bn k w w' := by
  obtain ⟨n0, A0, k0, c0, B0, j0, d0, rfl, z0, l0, a0, s0, t0, hl0, e0⟩ := h0
  have hk0 : szz z0 ≤ 1000 := s0.size
  go_enter Tryz.func59, Tryz.ntmps59
  go_upto_region 1 with fail
  obtain ⟨x0, ex0, HB, D0, DR⟩ := st_33 w 26 (.bool n0) (.slice A0 k0 c0) (.slice B0 j0 d0) 26 (.bool false) (.slice none 0 0) (.slice none 0 0)
  rw [ex0]
  clear ex0
  replace HB := Lib.hid HB
  replace D0 := Lib.hid D0
  replace DR := Lib.hid DR
  have SN0 := Lib.hid (s0.below HB.out)
  clear s0
  have SD0 := Lib.hid (t0.below HB.out)
  clear t0
  refine wp_region_calm 3 [] ([fun vq _ => vq = .func (.func f) #[] caps,
      fun vq wq => QV wq vq q,
      fun vq wq => RV wq vq q]) (by kernel_rfl) (by decide) ?_ ?_ ?_
  · intro j hj; cases hj
  · refine po rfl (fun lq aq wq hk hr K hK => ?_) ?_
    · have B1 : ev aq (.tmp 1) = .func (.func f) #[] caps := hk.base 1 (by kernel_rfl) rfl
      exact vc hK (by go_simp) (fun w2 h2 => rfl)
    refine po rfl (fun lq aq wq hk hr K hK => ?_) ?_
    · have B2 : ev aq (.tmp 2) = .pointer (some ⟨w.heap.size, 0, none⟩) := hk.base 2 (by kernel_rfl) rfl
      have hb : Below _ _ _ := hk.ext
      exact vc hK (op_load3 2 _ B2 (D0.out.below hb)) (fun w2 h2 => QV.grow ⟨_, _, _, _, _, _, _, rfl, _, _, _, (SN0.out.below hb), (SD0.out.below hb), hl0, e0⟩ h2)
    refine po rfl (fun lq aq wq hk hr K hK => ?_) ?_
    · obtain ⟨v1, E1, r1⟩ := hk.dp hr 1 6 (by kernel_rfl)
      have r1 : QV wq v1 q := r1
      exact yc hK (by go_simp) (made_v wq r1) (fun u w1 hu w2 h2 => (hu).grow h2)
    exact AllOps.nil
  intro V x1 hG hV hap
  have r0 : (V 0) = .func (.func f) #[] caps := hV 0 (by decide)
  have r2 : RV x1 (V 2) q := hV 2 (by decide)
  clear hV hap
  simp only [List.take_succ_cons, List.take_zero, List.drop_succ_cons, List.drop_zero, putAll, Act.put, List.setIfInBounds_toArray, List.set_cons_zero, List.set_cons_succ]
  have hb := (show Below _ _ _ from hG)
  clear hG
  simp only [r0]
  refine wpList_of_call (f := f) (vs := #[V 2] ++ caps) rfl (op_callF1 5 7 hf rfl rfl) (hdo x1 _ (HB.out.trans (Below.mono hb HB.out.size)) r2) ?_
  rintro e x9 ⟨u9, rfl, ⟨nR, AR, kR, cR, BR, jR, dR, rfl⟩, hS⟩
  refine ⟨_, rfl, ?_⟩
  simp only [Act.put, List.setIfInBounds_toArray, List.set_cons_zero, List.set_cons_succ]
  have hS2 := hS.pre (HB.out.trans (Below.mono hb HB.out.size)) hbn
  have DR2 := hS.box3 (DR.out.below hb) (show w.heap.size + 1 ≠ bn by omega)
  clear DR
  refine wpList_of_skip rfl (op_store3 4 8 _ rfl rfl DR2) ?_
  have HQ := put3_below (x' := .bool nR) (y' := .slice AR kR cR) (z' := .slice BR jR dR) hS2 (show (w.setCell ⟨bn, 0, none⟩ (.int .i64 k)).heap.size ≤ w.heap.size + 1 by rw [setCell_size]; omega)
  have DR := put3_own (x' := .bool nR) (y' := .slice AR kR cR) (z' := .slice BR jR dR) DR2
  clear DR2 hS hS2 hb HB
  generalize put3 x9 (w.heap.size + 1) (.bool nR) (.slice AR kR cR) (.slice BR jR dR) = y9 at *
  have c0 := DR.c0
  have c1 := DR.c1
  have c2 := DR.c2
  clear DR
  go_wp2_with fail
  refine bodyPost_ret (v := .agg #[.bool nR, .slice AR kR cR, .slice BR jR dR]) (by simp [results, Tryz.results59, go_sem, c0, c1, c2]) rfl ⟨_, rfl, ⟨_, _, _, _, _, _, _, rfl⟩, HQ⟩
set_option maxHeartbeats 16000000 in
set_option maxRecDepth 100000 in
theorem two11S_ (w : World) {u : Value} {q r : Rat} (f : FuncId) (caps : Array Value) (pd pa : Nat) (bn : Nat) (k : Int) (h0 : RV w u r) (n : Bool) (A : Option Addr) (k0 c : Nat) (B : Option Addr) (j d : Nat) (Da : Box3 w pa 26 (.bool n) (.slice A k0 c) (.slice B j d)) (SNa : Sound w n (.slice A k0 c) q.num) (SDa : Num w (.slice B j d) (limbs q.den) q.den) (hda : sz q.den ≤ 1000) (HD : BoxN w pd 71 #[.func (.func f) #[] caps]) (hf : ∀ (vs : Array Value) (w1 : World), (callFunc f vs).run Tryz.prog w1 = .ok (.enter f vs) w1) (hs1 : szz (q.num * (r.den : Int)) ≤ 1000) (hs2 : szz (r.num * (q.den : Int)) ≤ 1000) (hs3 : sz (q.den * r.den) ≤ 1000) (hdo : ∀ (w1 : World) (u1 v1 m1 : Value), Grows w w1 → ZV w1 u1 (q.num * (r.den : Int)) → ZV w1 v1 (r.num * (q.den : Int)) → LV w1 m1 (limbs (q.den * r.den)) (q.den * r.den) → Calls Tryz.prog f (#[u1, v1, m1] ++ caps) w1 fun e w' => ∃ x, e = .returned x ∧ IsR x ∧ Sets bn k w1 w') (hbn : bn < w.heap.size) : Calls Tryz.prog 105 #[u, .pointer (some ⟨pd, 0, none⟩), .pointer (some ⟨pa, 0, none⟩)] w fun e w' => ∃ x, e = .returned x ∧ IsR x ∧ Sets bn k w w' := by
  obtain ⟨n0, A0, k0, c0, B0, j0, d0, rfl, s0, t0, hd0⟩ := h0
  go_enter Tryz.func105, Tryz.ntmps105
  go_upto_region 1 with fail
  obtain ⟨x0, ex0, HB, D0, DR⟩ := st_33 w 26 (.bool n0) (.slice A0 k0 c0) (.slice B0 j0 d0) 26 (.bool false) (.slice none 0 0) (.slice none 0 0)
  rw [ex0]
  clear ex0
  replace HB := Lib.hid HB
  replace D0 := Lib.hid D0
  replace DR := Lib.hid DR
  have SN0 := Lib.hid (s0.below HB.out)
  clear s0
  have SD0 := Lib.hid (t0.below HB.out)
  clear t0
  have lca := Da.lt
  replace Da := Lib.hid (Da.below HB.out)
  replace SNa := Lib.hid (SNa.below HB.out)
  replace SDa := Lib.hid (SDa.below HB.out)
  replace HD := Lib.hid (BoxN.below HD HB.out)
  go_upto_region 2 with fail
  refine wp_region_going 18 [] ([fun vq _ => vq = .func (.func f) #[] caps,
      fun vq _ => vq = .func (.func 106) #[] #[],
      fun vq _ => vq = .pointer (some ⟨pa, 0, none⟩),
      fun vq wq => ZV wq vq q.num,
      fun vq _ => vq = .pointer (some ⟨w.heap.size, 2, none⟩),
      fun vq _ => vq = .slice B0 j0 d0,
      fun vq wq => ZV wq vq ((q.num * (r.den : Int))),
      fun vq _ => vq = .func (.func 106) #[] #[],
      fun vq _ => vq = .pointer (some ⟨w.heap.size, 0, none⟩),
      fun vq wq => ZV wq vq r.num,
      fun vq _ => vq = .pointer (some ⟨pa, 2, none⟩),
      fun vq _ => vq = .slice B j d,
      fun vq wq => ZV wq vq ((r.num * (q.den : Int))),
      fun vq _ => vq = .pointer (some ⟨pa, 2, none⟩),
      fun vq _ => vq = .slice B j d,
      fun vq _ => vq = .pointer (some ⟨w.heap.size, 2, none⟩),
      fun vq _ => vq = .slice B0 j0 d0,
      fun vq wq => LV wq vq ((limbs (q.den * r.den))) ((q.den * r.den))]) (by kernel_rfl) (by kernel_rfl) (by decide) (by kernel_rfl) (by kernel_rfl) ?_ ?_ ?_
  · intro j hj; cases hj
  · refine po rfl (fun lq aq wq hk hr K hK => ?_) ?_
    · have B1 : ev aq (.tmp 1) = .pointer (some ⟨pd, 0, none⟩) := hk.base 1 (by kernel_rfl) rfl
      have hb := grows_of hk.ext
      have c0 := (BoxN.below HD.out hb).cell 0 rfl
      exact vc hK (by go_simp) (fun w2 h2 => rfl)
    refine po rfl (fun lq aq wq hk hr K hK => ?_) ?_
    · have B5 : ev aq (.tmp 5) = .func (.func 106) #[] #[] := hk.base 5 (by kernel_rfl) rfl
      exact vc hK (by go_simp) (fun w2 h2 => rfl)
    refine po rfl (fun lq aq wq hk hr K hK => ?_) ?_
    · have B2 : ev aq (.tmp 2) = .pointer (some ⟨pa, 0, none⟩) := hk.base 2 (by kernel_rfl) rfl
      exact vc hK (by go_simp) (fun w2 h2 => rfl)
    refine po rfl (fun lq aq wq hk hr K hK => ?_) ?_
    · have E2 : ev aq (.tmp 8) = .pointer (some ⟨pa, 0, none⟩) := hk.dc hr 2 (by kernel_rfl) fun _ _ h => h
      have hb := grows_of hk.ext
      exact vc hK (op_loadN 8 _ E2 (Da.out.below hb)) (fun w2 h2 => ⟨_, _, _, _, rfl, (SNa.out.below hb).below h2⟩)
    refine po rfl (fun lq aq wq hk hr K hK => ?_) ?_
    · have B3 : ev aq (.tmp 3) = .pointer (some ⟨w.heap.size, 0, none⟩) := hk.base 3 (by kernel_rfl) rfl
      exact vc hK (by go_simp) (fun w2 h2 => rfl)
    refine po rfl (fun lq aq wq hk hr K hK => ?_) ?_
    · have E4 : ev aq (.tmp 10) = .pointer (some ⟨w.heap.size, 2, none⟩) := hk.dc hr 4 (by kernel_rfl) fun _ _ h => h
      have hb := grows_of hk.ext
      have c2 := (D0.out.below hb).c2
      exact vc hK (by go_simp) (fun w2 h2 => rfl)
    refine po rfl (fun lq aq wq hk hr K hK => ?_) ?_
    · have E1 : ev aq (.tmp 7) = .func (.func 106) #[] #[] := hk.dc hr 1 (by kernel_rfl) fun _ _ h => h
      obtain ⟨v3, E3, r3⟩ := hk.dp hr 3 9 (by kernel_rfl)
      have r3 : ZV wq v3 q.num := r3
      have E5 : ev aq (.tmp 11) = .slice B0 j0 d0 := hk.dc hr 5 (by kernel_rfl) fun _ _ h => h
      exact yc hK (by go_simp) (up_v wq (r3).wv (SD0.out.below (grows_of hk.ext)).lv hd0 hs1) (fun u w1 hu w2 h2 => (hu).grow h2)
    refine po rfl (fun lq aq wq hk hr K hK => ?_) ?_
    · have B5 : ev aq (.tmp 5) = .func (.func 106) #[] #[] := hk.base 5 (by kernel_rfl) rfl
      exact vc hK (by go_simp) (fun w2 h2 => rfl)
    refine po rfl (fun lq aq wq hk hr K hK => ?_) ?_
    · have B3 : ev aq (.tmp 3) = .pointer (some ⟨w.heap.size, 0, none⟩) := hk.base 3 (by kernel_rfl) rfl
      exact vc hK (by go_simp) (fun w2 h2 => rfl)
    refine po rfl (fun lq aq wq hk hr K hK => ?_) ?_
    · have E8 : ev aq (.tmp 14) = .pointer (some ⟨w.heap.size, 0, none⟩) := hk.dc hr 8 (by kernel_rfl) fun _ _ h => h
      have hb := grows_of hk.ext
      exact vc hK (op_loadN 14 _ E8 (D0.out.below hb)) (fun w2 h2 => ⟨_, _, _, _, rfl, (SN0.out.below hb).below h2⟩)
    refine po rfl (fun lq aq wq hk hr K hK => ?_) ?_
    · have B2 : ev aq (.tmp 2) = .pointer (some ⟨pa, 0, none⟩) := hk.base 2 (by kernel_rfl) rfl
      exact vc hK (by go_simp) (fun w2 h2 => rfl)
    refine po rfl (fun lq aq wq hk hr K hK => ?_) ?_
    · have E10 : ev aq (.tmp 16) = .pointer (some ⟨pa, 2, none⟩) := hk.dc hr 10 (by kernel_rfl) fun _ _ h => h
      have hb := grows_of hk.ext
      have c2 := (Da.out.below hb).c2
      exact vc hK (by go_simp) (fun w2 h2 => rfl)
    refine po rfl (fun lq aq wq hk hr K hK => ?_) ?_
    · have E7 : ev aq (.tmp 13) = .func (.func 106) #[] #[] := hk.dc hr 7 (by kernel_rfl) fun _ _ h => h
      obtain ⟨v9, E9, r9⟩ := hk.dp hr 9 15 (by kernel_rfl)
      have r9 : ZV wq v9 r.num := r9
      have E11 : ev aq (.tmp 17) = .slice B j d := hk.dc hr 11 (by kernel_rfl) fun _ _ h => h
      exact yc hK (by go_simp) (up_v wq (r9).wv (SDa.out.below (grows_of hk.ext)).lv hda hs2) (fun u w1 hu w2 h2 => (hu).grow h2)
    refine po rfl (fun lq aq wq hk hr K hK => ?_) ?_
    · have B2 : ev aq (.tmp 2) = .pointer (some ⟨pa, 0, none⟩) := hk.base 2 (by kernel_rfl) rfl
      exact vc hK (by go_simp) (fun w2 h2 => rfl)
    refine po rfl (fun lq aq wq hk hr K hK => ?_) ?_
    · have E13 : ev aq (.tmp 19) = .pointer (some ⟨pa, 2, none⟩) := hk.dc hr 13 (by kernel_rfl) fun _ _ h => h
      have hb := grows_of hk.ext
      have c2 := (Da.out.below hb).c2
      exact vc hK (by go_simp) (fun w2 h2 => rfl)
    refine po rfl (fun lq aq wq hk hr K hK => ?_) ?_
    · have B3 : ev aq (.tmp 3) = .pointer (some ⟨w.heap.size, 0, none⟩) := hk.base 3 (by kernel_rfl) rfl
      exact vc hK (by go_simp) (fun w2 h2 => rfl)
    refine po rfl (fun lq aq wq hk hr K hK => ?_) ?_
    · have E15 : ev aq (.tmp 21) = .pointer (some ⟨w.heap.size, 2, none⟩) := hk.dc hr 15 (by kernel_rfl) fun _ _ h => h
      have hb := grows_of hk.ext
      have c2 := (D0.out.below hb).c2
      exact vc hK (by go_simp) (fun w2 h2 => rfl)
    refine po rfl (fun lq aq wq hk hr K hK => ?_) ?_
    · have E14 : ev aq (.tmp 20) = .slice B j d := hk.dc hr 14 (by kernel_rfl) fun _ _ h => h
      have E16 : ev aq (.tmp 22) = .slice B0 j0 d0 := hk.dc hr 16 (by kernel_rfl) fun _ _ h => h
      exact yc hK (by go_simp) (nmul_v wq (SDa.out.below (grows_of hk.ext)).lv (SD0.out.below (grows_of hk.ext)).lv hs3) (fun u w1 hu w2 h2 => (hu).grow h2)
    exact AllOps.nil
  intro V x1 hG hV hap
  have r0 : (V 0) = .func (.func f) #[] caps := hV 0 (by decide)
  have r6 : ZV x1 (V 6) ((q.num * (r.den : Int))) := hV 6 (by decide)
  have r11 : (V 11) = .slice B j d := hV 11 (by decide)
  have r12 : ZV x1 (V 12) ((r.num * (q.den : Int))) := hV 12 (by decide)
  have r17 : LV x1 (V 17) ((limbs (q.den * r.den))) ((q.den * r.den)) := hV 17 (by decide)
  clear hV hap
  simp only [List.take_succ_cons, List.take_zero, List.drop_succ_cons, List.drop_zero, putAll, Act.put, List.setIfInBounds_toArray, List.set_cons_zero, List.set_cons_succ]
  have hb := grows_of hG
  clear hG
  simp only [r0]
  refine wpList_of_call (f := f) (vs := #[V 6, V 12, V 17] ++ caps) rfl (op_callF3 6 12 18 23 hf rfl rfl rfl rfl) (hdo x1 _ _ _ (HB.out.trans (Below.mono hb HB.out.size)) r6 r12 r17) ?_
  rintro e x9 ⟨u9, rfl, ⟨nR, AR, kR, cR, BR, jR, dR, rfl⟩, hS⟩
  refine ⟨_, rfl, ?_⟩
  simp only [Act.put, List.setIfInBounds_toArray, List.set_cons_zero, List.set_cons_succ]
  have hS2 := hS.pre (HB.out.trans (Below.mono hb HB.out.size)) hbn
  have DR2 := hS.box3 (DR.out.below hb) (show w.heap.size + 1 ≠ bn by omega)
  clear DR
  refine wpList_of_skip rfl (op_store3 4 24 _ rfl rfl DR2) ?_
  have HQ := put3_below (x' := .bool nR) (y' := .slice AR kR cR) (z' := .slice BR jR dR) hS2 (show (w.setCell ⟨bn, 0, none⟩ (.int .i64 k)).heap.size ≤ w.heap.size + 1 by rw [setCell_size]; omega)
  have DR := put3_own (x' := .bool nR) (y' := .slice AR kR cR) (z' := .slice BR jR dR) DR2
  clear DR2 hS hS2 hb HB
  generalize put3 x9 (w.heap.size + 1) (.bool nR) (.slice AR kR cR) (.slice BR jR dR) = y9 at *
  have c0 := DR.c0
  have c1 := DR.c1
  have c2 := DR.c2
  clear DR
  go_wp2_with fail
  refine bodyPost_ret (v := .agg #[.bool nR, .slice AR kR cR, .slice BR jR dR]) (by simp [results, Tryz.results105, go_sem, c0, c1, c2]) rfl ⟨_, rfl, ⟨_, _, _, _, _, _, _, rfl⟩, HQ⟩
set_option maxHeartbeats 16000000 in
set_option maxRecDepth 100000 in
theorem two1S_ (w : World) {u : Value} {q r : Rat} (f : FuncId) (caps : Array Value) (pb pd : Nat) (bn : Nat) (k : Int) (h0 : RV w u q) (n : Bool) (A : Option Addr) (k0 c : Nat) (B : Option Addr) (j d : Nat) (z : Int) (l : List Nat) (a : Nat) (Db : Box3 w pb 26 (.bool n) (.slice A k0 c) (.slice B j d)) (SNb : Whole w n (.slice A k0 c) z) (SDb : Num w (.slice B j d) l a) (hlb : l.length ≤ 1000) (eb : r = mkRat z (dn a)) (HD : BoxN w pd 71 #[.func (.func f) #[] caps]) (hf : ∀ (vs : Array Value) (w1 : World), (callFunc f vs).run Tryz.prog w1 = .ok (.enter f vs) w1) (hs1 : szz (q.num * (r.den : Int)) ≤ 1000) (hs2 : szz (r.num * (q.den : Int)) ≤ 1000) (hs3 : sz (q.den * r.den) ≤ 1000) (hdo : ∀ (w1 : World) (u1 v1 m1 : Value), Grows w w1 → ZV w1 u1 (q.num * (r.den : Int)) → ZV w1 v1 (r.num * (q.den : Int)) → LV w1 m1 (limbs (q.den * r.den)) (q.den * r.den) → Calls Tryz.prog f (#[u1, v1, m1] ++ caps) w1 fun e w' => ∃ x, e = .returned x ∧ IsR x ∧ Sets bn k w1 w') (hbn : bn < w.heap.size) : Calls Tryz.prog 104 #[u, .pointer (some ⟨pb, 0, none⟩), .pointer (some ⟨pd, 0, none⟩)] w fun e w' => ∃ x, e = .returned x ∧ IsR x ∧ Sets bn k w w' := by
  have hzb : szz z ≤ 1000 := SNb.size
  obtain ⟨n0, A0, k0, c0, B0, j0, d0, rfl, s0, t0, hd0⟩ := h0
  go_enter Tryz.func104, Tryz.ntmps104
  go_upto_region 1 with fail
  obtain ⟨x0, ex0, HB, D0, DR⟩ := st_33 w 26 (.bool n0) (.slice A0 k0 c0) (.slice B0 j0 d0) 26 (.bool false) (.slice none 0 0) (.slice none 0 0)
  rw [ex0]
  clear ex0
  replace HB := Lib.hid HB
  replace D0 := Lib.hid D0
  replace DR := Lib.hid DR
  have SN0 := Lib.hid (s0.below HB.out)
  clear s0
  have SD0 := Lib.hid (t0.below HB.out)
  clear t0
  have lcb := Db.lt
  replace Db := Lib.hid (Db.below HB.out)
  replace SNb := Lib.hid (SNb.below HB.out)
  replace SDb := Lib.hid (SDb.below HB.out)
  replace HD := Lib.hid (BoxN.below HD HB.out)
  refine wp_region_calm 2 [] ([fun vq wq => QV wq vq r,
      fun vq _ => vq = .func (.func 105) #[] #[.pointer (some ⟨pd, 0, none⟩), .pointer (some ⟨w.heap.size, 0, none⟩)]]) (by kernel_rfl) (by decide) ?_ ?_ ?_
  · intro j hj; cases hj
  · refine po rfl (fun lq aq wq hk hr K hK => ?_) ?_
    · have B1 : ev aq (.tmp 1) = .pointer (some ⟨pb, 0, none⟩) := hk.base 1 (by kernel_rfl) rfl
      have hb : Below _ _ _ := hk.ext
      exact vc hK (op_load3 1 _ B1 (Db.out.below hb)) (fun w2 h2 => QV.grow ⟨_, _, _, _, _, _, _, rfl, _, _, _, (SNb.out.below hb), (SDb.out.below hb), hlb, eb⟩ h2)
    refine po rfl (fun lq aq wq hk hr K hK => ?_) ?_
    · have B2 : ev aq (.tmp 2) = .pointer (some ⟨pd, 0, none⟩) := hk.base 2 (by kernel_rfl) rfl
      have B3 : ev aq (.tmp 3) = .pointer (some ⟨w.heap.size, 0, none⟩) := hk.base 3 (by kernel_rfl) rfl
      exact vc hK (by go_simp) (fun w2 h2 => rfl)
    exact AllOps.nil
  intro V x1 hG hV hap
  have r0 : QV x1 (V 0) r := hV 0 (by decide)
  have r1 : (V 1) = .func (.func 105) #[] #[.pointer (some ⟨pd, 0, none⟩), .pointer (some ⟨w.heap.size, 0, none⟩)] := hV 1 (by decide)
  clear hV hap
  simp only [List.take_succ_cons, List.take_zero, List.drop_succ_cons, List.drop_zero, putAll, Act.put, List.setIfInBounds_toArray, List.set_cons_zero, List.set_cons_succ]
  have hb := (show Below _ _ _ from hG)
  clear hG
  simp only [r1]
  refine wpList_of_call (f := 59) (vs := #[V 0, .func (.func 105) #[] #[.pointer (some ⟨pd, 0, none⟩), .pointer (some ⟨w.heap.size, 0, none⟩)]]) rfl (op_call2 5 6 with_f rfl rfl) (withS_ x1 _ _ bn k r0 two11_f (fun w9 u9 hw9 hu9 => two11S_ w9 f caps pd w.heap.size bn k hu9 _ _ _ _ _ _ _ (D0.out.below (Below.trans hb (Below.mono hw9 hb.size))) (SN0.out.below (Below.trans hb (Below.mono hw9 hb.size))) (SD0.out.below (Below.trans hb (Below.mono hw9 hb.size))) hd0 (BoxN.below HD.out (Below.trans hb (Below.mono hw9 hb.size))) hf hs1 hs2 hs3 (fun w1 u1 v1 m1 hg => hdo w1 u1 v1 m1 (Below.trans (HB.out.trans (Below.mono (Below.trans hb (Below.mono hw9 hb.size)) HB.out.size)) (Below.mono hg ((HB.out.trans (Below.mono (Below.trans hb (Below.mono hw9 hb.size)) HB.out.size))).size))) (Nat.lt_of_lt_of_le hbn ((HB.out.trans (Below.mono (Below.trans hb (Below.mono hw9 hb.size)) HB.out.size))).size)) (Nat.lt_of_lt_of_le hbn (HB.out.trans (Below.mono hb HB.out.size)).size)) ?_
  rintro e x9 ⟨u9, rfl, ⟨nR, AR, kR, cR, BR, jR, dR, rfl⟩, hS⟩
  refine ⟨_, rfl, ?_⟩
  simp only [Act.put, List.setIfInBounds_toArray, List.set_cons_zero, List.set_cons_succ]
  have hS2 := hS.pre (HB.out.trans (Below.mono hb HB.out.size)) hbn
  have DR2 := hS.box3 (DR.out.below hb) (show w.heap.size + 1 ≠ bn by omega)
  clear DR
  refine wpList_of_skip rfl (op_store3 4 7 _ rfl rfl DR2) ?_
  have HQ := put3_below (x' := .bool nR) (y' := .slice AR kR cR) (z' := .slice BR jR dR) hS2 (show (w.setCell ⟨bn, 0, none⟩ (.int .i64 k)).heap.size ≤ w.heap.size + 1 by rw [setCell_size]; omega)
  have DR := put3_own (x' := .bool nR) (y' := .slice AR kR cR) (z' := .slice BR jR dR) DR2
  clear DR2 hS hS2 hb HB
  generalize put3 x9 (w.heap.size + 1) (.bool nR) (.slice AR kR cR) (.slice BR jR dR) = y9 at *
  have c0 := DR.c0
  have c1 := DR.c1
  have c2 := DR.c2
  clear DR
  go_wp2_with fail
  refine bodyPost_ret (v := .agg #[.bool nR, .slice AR kR cR, .slice BR jR dR]) (by simp [results, Tryz.results104, go_sem, c0, c1, c2]) rfl ⟨_, rfl, ⟨_, _, _, _, _, _, _, rfl⟩, HQ⟩
set_option maxHeartbeats 16000000 in
set_option maxRecDepth 100000 in
theorem twoS_ (w : World) {u v : Value} {q r : Rat} (f : FuncId) (caps : Array Value) (bn : Nat) (k : Int) (h0 : QV w u q) (h1 : QV w v r) (hf : ∀ (vs : Array Value) (w1 : World), (callFunc f vs).run Tryz.prog w1 = .ok (.enter f vs) w1) (hs1 : szz (q.num * (r.den : Int)) ≤ 1000) (hs2 : szz (r.num * (q.den : Int)) ≤ 1000) (hs3 : sz (q.den * r.den) ≤ 1000) (hdo : ∀ (w1 : World) (u1 v1 m1 : Value), Grows w w1 → ZV w1 u1 (q.num * (r.den : Int)) → ZV w1 v1 (r.num * (q.den : Int)) → LV w1 m1 (limbs (q.den * r.den)) (q.den * r.den) → Calls Tryz.prog f (#[u1, v1, m1] ++ caps) w1 fun e w' => ∃ x, e = .returned x ∧ IsR x ∧ Sets bn k w1 w') (hbn : bn < w.heap.size) : Calls Tryz.prog 67 #[u, v, .func (.func f) #[] caps] w fun e w' => ∃ x, e = .returned x ∧ IsR x ∧ Sets bn k w w' := by
  obtain ⟨n0, A0, k0, c0, B0, j0, d0, rfl, z0, l0, a0, s0, t0, hl0, e0⟩ := h0
  have hk0 : szz z0 ≤ 1000 := s0.size
  obtain ⟨n1, A1, k1, c1, B1, j1, d1, rfl, z1, l1, a1, s1, t1, hl1, e1⟩ := h1
  have hk1 : szz z1 ≤ 1000 := s1.size
  go_enter Tryz.func67, Tryz.ntmps67
  go_upto_region 1 with fail
  obtain ⟨x0, ex0, HB, D0, D1, DF, DR⟩ := st_33N3 w 26 (.bool n0) (.slice A0 k0 c0) (.slice B0 j0 d0) 26 (.bool n1) (.slice A1 k1 c1) (.slice B1 j1 d1) 71 #[.func (.func f) #[] caps] 26 (.bool false) (.slice none 0 0) (.slice none 0 0)
  rw [ex0]
  clear ex0
  replace HB := Lib.hid HB
  replace D0 := Lib.hid D0
  replace D1 := Lib.hid D1
  have HD := Lib.hid DF
  clear DF
  replace DR := Lib.hid DR
  have SN0 := Lib.hid (s0.below HB.out)
  clear s0
  have SD0 := Lib.hid (t0.below HB.out)
  clear t0
  have SN1 := Lib.hid (s1.below HB.out)
  clear s1
  have SD1 := Lib.hid (t1.below HB.out)
  clear t1
  refine wp_region_calm 2 [] ([fun vq wq => QV wq vq q,
      fun vq _ => vq = .func (.func 104) #[] #[.pointer (some ⟨w.heap.size + 1, 0, none⟩), .pointer (some ⟨w.heap.size + 1 + 1, 0, none⟩)]]) (by kernel_rfl) (by decide) ?_ ?_ ?_
  · intro j hj; cases hj
  · refine po rfl (fun lq aq wq hk hr K hK => ?_) ?_
    · have B3 : ev aq (.tmp 3) = .pointer (some ⟨w.heap.size, 0, none⟩) := hk.base 3 (by kernel_rfl) rfl
      have hb : Below _ _ _ := hk.ext
      exact vc hK (op_load3 3 _ B3 (D0.out.below hb)) (fun w2 h2 => QV.grow ⟨_, _, _, _, _, _, _, rfl, _, _, _, (SN0.out.below hb), (SD0.out.below hb), hl0, e0⟩ h2)
    refine po rfl (fun lq aq wq hk hr K hK => ?_) ?_
    · have B4 : ev aq (.tmp 4) = .pointer (some ⟨w.heap.size + 1, 0, none⟩) := hk.base 4 (by kernel_rfl) rfl
      have B5 : ev aq (.tmp 5) = .pointer (some ⟨w.heap.size + 1 + 1, 0, none⟩) := hk.base 5 (by kernel_rfl) rfl
      exact vc hK (by go_simp) (fun w2 h2 => rfl)
    exact AllOps.nil
  intro V x1 hG hV hap
  have r0 : QV x1 (V 0) q := hV 0 (by decide)
  have r1 : (V 1) = .func (.func 104) #[] #[.pointer (some ⟨w.heap.size + 1, 0, none⟩), .pointer (some ⟨w.heap.size + 1 + 1, 0, none⟩)] := hV 1 (by decide)
  clear hV hap
  simp only [List.take_succ_cons, List.take_zero, List.drop_succ_cons, List.drop_zero, putAll, Act.put, List.setIfInBounds_toArray, List.set_cons_zero, List.set_cons_succ]
  have hb := (show Below _ _ _ from hG)
  clear hG
  simp only [r1]
  refine wpList_of_call (f := 59) (vs := #[V 0, .func (.func 104) #[] #[.pointer (some ⟨w.heap.size + 1, 0, none⟩), .pointer (some ⟨w.heap.size + 1 + 1, 0, none⟩)]]) rfl (op_call2 7 8 with_f rfl rfl) (withS_ x1 _ _ bn k r0 two1_f (fun w9 u9 hw9 hu9 => two1S_ w9 f caps (w.heap.size + 1) (w.heap.size + 1 + 1) bn k hu9 _ _ _ _ _ _ _ _ _ _ (D1.out.below (Below.trans hb (Below.mono hw9 hb.size))) (SN1.out.below (Below.trans hb (Below.mono hw9 hb.size))) (SD1.out.below (Below.trans hb (Below.mono hw9 hb.size))) hl1 e1 (BoxN.below HD.out (Below.trans hb (Below.mono hw9 hb.size))) hf hs1 hs2 hs3 (fun w1 u1 v1 m1 hg => hdo w1 u1 v1 m1 (Below.trans (HB.out.trans (Below.mono (Below.trans hb (Below.mono hw9 hb.size)) HB.out.size)) (Below.mono hg ((HB.out.trans (Below.mono (Below.trans hb (Below.mono hw9 hb.size)) HB.out.size))).size))) (Nat.lt_of_lt_of_le hbn ((HB.out.trans (Below.mono (Below.trans hb (Below.mono hw9 hb.size)) HB.out.size))).size)) (Nat.lt_of_lt_of_le hbn (HB.out.trans (Below.mono hb HB.out.size)).size)) ?_
  rintro e x9 ⟨u9, rfl, ⟨nR, AR, kR, cR, BR, jR, dR, rfl⟩, hS⟩
  refine ⟨_, rfl, ?_⟩
  simp only [Act.put, List.setIfInBounds_toArray, List.set_cons_zero, List.set_cons_succ]
  have hS2 := hS.pre (HB.out.trans (Below.mono hb HB.out.size)) hbn
  have DR2 := hS.box3 (DR.out.below hb) (show w.heap.size + 1 + 1 + 1 ≠ bn by omega)
  clear DR
  refine wpList_of_skip rfl (op_store3 6 9 _ rfl rfl DR2) ?_
  have HQ := put3_below (x' := .bool nR) (y' := .slice AR kR cR) (z' := .slice BR jR dR) hS2 (show (w.setCell ⟨bn, 0, none⟩ (.int .i64 k)).heap.size ≤ w.heap.size + 1 + 1 + 1 by rw [setCell_size]; omega)
  have DR := put3_own (x' := .bool nR) (y' := .slice AR kR cR) (z' := .slice BR jR dR) DR2
  clear DR2 hS hS2 hb HB
  generalize put3 x9 (w.heap.size + 1 + 1 + 1) (.bool nR) (.slice AR kR cR) (.slice BR jR dR) = y9 at *
  have c0 := DR.c0
  have c1 := DR.c1
  have c2 := DR.c2
  clear DR
  go_wp2_with fail
  refine bodyPost_ret (v := .agg #[.bool nR, .slice AR kR cR, .slice BR jR dR]) (by simp [results, Tryz.results67, go_sem, c0, c1, c2]) rfl ⟨_, rfl, ⟨_, _, _, _, _, _, _, rfl⟩, HQ⟩
end Go.Proofs.YtbippecchpaleaaGreatDoor
/- rat.Cmp: what it returns. -/
namespace Go.Num
open Go Go.RowKit Go.Kp
theorem setCell_same {w : World} {g : Nat} {T : TypeId} {v : Value} (h : BoxN w g T #[v]) : w.setCell ⟨g, 0, none⟩ v = w := by
  obtain ⟨hlt, hk⟩ := Array.getElem?_eq_some_iff.1 (show w.heap[g]? = _ from h)
  have e : (w.setCell ⟨g, 0, none⟩ v).heap = w.heap := by
    refine Array.ext_getElem? fun i => ?_
    by_cases hi : i = g
    · subst hi
      show (w.heap.modify i _)[i]? = _
      rw [Array.getElem?_eq_getElem (by rw [Array.size_modify]; exact hlt), Array.getElem_modify_self, hk, Array.getElem?_eq_getElem hlt, hk]
      rfl
    · exact Below.heap_setCell w ⟨g, 0, none⟩ v i hi
  have e2 : w.setCell ⟨g, 0, none⟩ v = { w with heap := (w.setCell ⟨g, 0, none⟩ v).heap } := rfl
  rw [e2, e]
end Go.Num
namespace Go.Proofs.YtbippecchpaleaaGreatDoor
open Go.RowKit Go.Num Go.Kp
attribute [local go_sem] Oper.semAt_some u64_mask ev_const ev_func ev_global
section
variable {a : Act} {w : World} {d : Option Tmp} {ty : TypeId} {pos : String} {af : Array Edge} {gu : Option (Nat × Bool)}
theorem op_storeI (t g : Nat) (y : Operand) {k z0 : Int} {T : TypeId} (he : ev a (.tmp t) = .pointer (some ⟨g, 0, none⟩)) (he' : ev a y = .int .i64 k) (h : BoxN w g T #[.int .i64 z0]) :
    (execOp (ev a) ⟨none, .store 3 (.tmp t) y, ty, pos, af, gu⟩).run Tryz.prog w = .ok .skip (w.setCell ⟨g, 0, none⟩ (.int .i64 k)) := by
  have h0 := h.cell 0 rfl
  have f0 : w.frozen? ⟨g, 0, none⟩ = false := by simp [World.frozen?, show w.heap[g]? = _ from h]
  clear h
  go_simp
end
theorem cmp1_f : ∀ (vs : Array Value) (w1 : World), (callFunc 68 vs).run Tryz.prog w1 = .ok (.enter 68 vs) w1 := run_callFunc_go Tryz.func68 (by kernel_rfl) (by kernel_rfl)
set_option maxHeartbeats 4000000 in
set_option maxRecDepth 100000 in
theorem cmp1_v (w : World) {u v m : Value} {x y : Int} (bn pa : Nat) {k z0 : Int} (h0 : WV w u x) (h1 : WV w v y) (n : Bool) (A : Option Addr) (i c : Nat) (B : Option Addr) (j d : Nat) (Da : Box3 w pa 26 (.bool n) (.slice A i c) (.slice B j d)) (Dn : BoxN w bn 3 #[.int .i64 z0]) (hne : pa ≠ bn) (hkc : Int.sign (x - y) = k) : Calls Tryz.prog 68 #[u, v, m, .pointer (some ⟨bn, 0, none⟩), .pointer (some ⟨pa, 0, none⟩)] w fun e w' => ∃ x, e = .returned x ∧ IsR x ∧ Sets bn k w w' := by
  have hnl := Dn.lt
  have hal := Da.lt
  obtain ⟨n0, A0, k0, c0, rfl, s0⟩ := h0
  have hk0 : szz x ≤ 1000 := s0.size
  obtain ⟨n1, A1, k1, c1, rfl, s1⟩ := h1
  have hk1 : szz y ≤ 1000 := s1.size
  go_enter Tryz.func68, Tryz.ntmps68
  go_upto_region 1 with fail
  obtain ⟨x0, ex0, HB, D0, D1, DR⟩ := st_223 w 24 (.bool n0) (.slice A0 k0 c0) 24 (.bool n1) (.slice A1 k1 c1) 26 (.bool false) (.slice none 0 0) (.slice none 0 0)
  rw [ex0]
  clear ex0
  replace HB := Lib.hid HB
  replace D0 := Lib.hid D0
  replace D1 := Lib.hid D1
  replace DR := Lib.hid DR
  have SN0 := Lib.hid (s0.below HB.out)
  clear s0
  have SN1 := Lib.hid (s1.below HB.out)
  clear s1
  replace Dn := Lib.hid (BoxN.below Dn HB.out)
  replace Da := Lib.hid (Da.below HB.out)
  refine wp_region_calm 3 [] ([fun vq wq => WV wq vq x,
      fun vq wq => WV wq vq y,
      fun vq _ => vq = .int .i64 k]) (by kernel_rfl) (by decide) ?_ ?_ ?_
  · intro j hj; cases hj
  · refine po rfl (fun lq aq wq hk hr K hK => ?_) ?_
    · have B5 : ev aq (.tmp 5) = .pointer (some ⟨w.heap.size, 0, none⟩) := hk.base 5 (by kernel_rfl) rfl
      have hb : Below _ _ _ := hk.ext
      exact vc hK (op_load 5 _ B5 (D0.out.below hb)) (fun w2 h2 => ⟨_, _, _, _, rfl, (SN0.out.below hb).below h2⟩)
    refine po rfl (fun lq aq wq hk hr K hK => ?_) ?_
    · have B6 : ev aq (.tmp 6) = .pointer (some ⟨w.heap.size + 1, 0, none⟩) := hk.base 6 (by kernel_rfl) rfl
      have hb : Below _ _ _ := hk.ext
      exact vc hK (op_load 6 _ B6 (D1.out.below hb)) (fun w2 h2 => ⟨_, _, _, _, rfl, (SN1.out.below hb).below h2⟩)
    refine po rfl (fun lq aq wq hk hr K hK => ?_) ?_
    · obtain ⟨v0, E0, r0⟩ := hk.dp hr 0 9 (by kernel_rfl)
      have r0 : WV wq v0 x := r0
      obtain ⟨v1, E1, r1⟩ := hk.dp hr 1 10 (by kernel_rfl)
      have r1 : WV wq v1 y := r1
      exact yc hK (by go_simp) (cmp_v wq r0 r1 (k := k) hkc) (fun u w1 hu w2 h2 => hu)
    exact AllOps.nil
  intro V x1 hG hV hap
  have r2 : (V 2) = .int .i64 k := hV 2 (by decide)
  clear hV hap
  simp only [List.take_succ_cons, List.take_zero, List.drop_succ_cons, List.drop_zero, putAll, Act.put, List.setIfInBounds_toArray, List.set_cons_zero, List.set_cons_succ]
  have hb := (show Below _ _ _ from hG)
  clear hG
  simp only [r2]
  refine wpList_of_skip rfl (op_storeI 3 bn _ rfl rfl (BoxN.below Dn.out hb)) ?_
  have Da2 := (Da.out.below hb).apart hne 0 (.int .i64 k)
  have DR2 := (DR.out.below hb).apart (show w.heap.size + 1 + 1 ≠ bn by omega) 0 (.int .i64 k)
  have HS : Sets bn k w (x1.setCell ⟨bn, 0, none⟩ (.int .i64 k)) := Sets.pre (HB.out.trans (Below.mono hb HB.out.size)) hnl (Grows.refl _)
  generalize x1.setCell ⟨bn, 0, none⟩ (.int .i64 k) = y1 at *
  clear Dn Da DR D0 D1 SN0 SN1 HB hb r2
  replace HS := Lib.hid HS
  replace Da2 := Lib.hid Da2
  replace DR2 := Lib.hid DR2
  go_upto_region 2 with fail
  refine wp_region_calm 1 [] ([fun vq _ => vq = .agg #[.bool n, .slice A i c, .slice B j d]]) (by kernel_rfl) (by decide) ?_ ?_ ?_
  · intro j hj; cases hj
  · refine po rfl (fun lq aq wq hk hr K hK => ?_) ?_
    · have B4 : ev aq (.tmp 4) = .pointer (some ⟨pa, 0, none⟩) := hk.base 4 (by kernel_rfl) rfl
      have hb : Below _ _ _ := hk.ext
      exact vc hK (op_load3 4 _ B4 (Da2.out.below hb)) (fun w2 h2 => rfl)
    exact AllOps.nil
  intro V x2 hG hV hap
  have r0 : (V 0) = .agg #[.bool n, .slice A i c, .slice B j d] := hV 0 (by decide)
  clear hV hap
  simp only [List.take_succ_cons, List.take_zero, List.drop_succ_cons, List.drop_zero, putAll, Act.put, List.setIfInBounds_toArray, List.set_cons_zero, List.set_cons_succ]
  have hb := (show Below _ _ _ from hG)
  clear hG
  simp only [r0]
  have DR3 := DR2.out.below hb
  refine wpList_of_skip rfl (op_store3 8 12 _ rfl rfl DR3) ?_
  have HQ := put3_below (x' := .bool n) (y' := .slice A i c) (z' := .slice B j d) (Grows.trans HS.out hb) (show (w.setCell ⟨bn, 0, none⟩ (.int .i64 k)).heap.size ≤ w.heap.size + 1 + 1 by rw [setCell_size]; omega)
  have DR := put3_own (x' := .bool n) (y' := .slice A i c) (z' := .slice B j d) DR3
  clear DR2 DR3 HS hb Da2
  generalize put3 x2 (w.heap.size + 1 + 1) (.bool n) (.slice A i c) (.slice B j d) = y9 at *
  have c0 := DR.c0
  have c1 := DR.c1
  have c2 := DR.c2
  clear DR
  go_wp2_with fail
  refine bodyPost_ret (v := .agg #[.bool n, .slice A i c, .slice B j d]) (by simp [results, Tryz.results68, go_sem, c0, c1, c2]) rfl ⟨_, rfl, ⟨_, _, _, _, _, _, _, rfl⟩, HQ⟩
set_option maxHeartbeats 16000000 in
set_option maxRecDepth 100000 in
theorem qcmp_v (w : World) {u v : Value} {q r : Rat} {k : Int} (h0 : QV w u q) (h1 : QV w v r) (hqs : Qsz q 300) (hrs : Qsz r 300) (hkc : qs (q - r) = k) : Calls Tryz.prog 28 #[u, v] w fun e w' => ∃ y, e = .returned y ∧ y = .int .i64 k ∧ Grows w w' := by
  obtain ⟨n0, A0, k0, c0, B0, j0, d0, rfl, z0, l0, a0, s0, t0, hl0, e0⟩ := h0
  have hk0 : szz z0 ≤ 1000 := s0.size
  obtain ⟨n1, A1, k1, c1, B1, j1, d1, rfl, z1, l1, a1, s1, t1, hl1, e1⟩ := h1
  have hk1 : szz z1 ≤ 1000 := s1.size
  go_enter Tryz.func28, Tryz.ntmps28
  go_upto_region 1 with fail
  obtain ⟨x0, ex0, HB, D0, D1⟩ := st_33 w 26 (.bool n0) (.slice A0 k0 c0) (.slice B0 j0 d0) 26 (.bool n1) (.slice A1 k1 c1) (.slice B1 j1 d1)
  rw [ex0]
  clear ex0
  replace HB := Lib.hid HB
  replace D0 := Lib.hid D0
  replace D1 := Lib.hid D1
  have SN0 := Lib.hid (s0.below HB.out)
  clear s0
  have SD0 := Lib.hid (t0.below HB.out)
  clear t0
  have SN1 := Lib.hid (s1.below HB.out)
  clear s1
  have SD1 := Lib.hid (t1.below HB.out)
  clear t1
  obtain ⟨hp1, hp2, hp3⟩ := hqs.parts hrs (by decide)
  have lw0 := D0.out.lt
  refine wp_region_calm 1 [0] ([fun vq wq => ∃ bq, vq = .pointer (some ⟨bq, 0, none⟩) ∧ BoxN wq bq 3 #[.int .i64 0] ∧ (x0).heap.size ≤ bq]) (by kernel_rfl) (by decide) ?_ ?_ ?_
  · intro j hj v w h
    simp only [List.mem_cons, List.not_mem_nil, or_false] at hj
    subst hj
    all_goals (obtain ⟨b, rfl, hB, _⟩ := h; exact hB.lt)
  · refine po rfl (fun lq aq wq hk hr K hK => ?_) ?_
    · exact wp_of_value (by go_simp) (hK.out _ _ ((Grows.refl _).alloc _) (fun w2 h2 => ⟨_, rfl, (BoxN.new wq 3 _).below h2, hk.ext.size⟩) (fun _ => Nat.le_refl _))
    exact AllOps.nil
  intro V x1 hG hV hap
  have r0 : ∃ bq, (V 0) = .pointer (some ⟨bq, 0, none⟩) ∧ BoxN x1 bq 3 #[.int .i64 0] ∧ (x0).heap.size ≤ bq := hV 0 (by decide)
  clear hV
  simp only [List.take_succ_cons, List.take_zero, List.drop_succ_cons, List.drop_zero, putAll, Act.put, List.setIfInBounds_toArray, List.set_cons_zero, List.set_cons_succ]
  have hb := (show Below _ _ _ from hG)
  clear hG hap
  obtain ⟨bn, en, Dn, gn⟩ := r0
  simp only [en]
  clear en
  refine wpList_of_skip rfl (op_storeI 5 bn _ rfl rfl Dn) ?_
  rw [setCell_same Dn]
  replace D0 := Lib.hid (D0.out.below hb)
  replace SN0 := Lib.hid (SN0.out.below hb)
  replace SD0 := Lib.hid (SD0.out.below hb)
  replace D1 := Lib.hid (D1.out.below hb)
  replace SN1 := Lib.hid (SN1.out.below hb)
  replace SD1 := Lib.hid (SD1.out.below hb)
  replace HB := Lib.hid (HB.out.trans (Below.mono hb HB.out.size))
  replace Dn := Lib.hid Dn
  clear hb
  go_upto_region 2 with fail
  refine wp_region_calm 3 [] ([fun vq wq => QV wq vq q,
      fun vq wq => QV wq vq r,
      fun vq _ => vq = .func (.func 68) #[] #[.pointer (some ⟨bn, 0, none⟩), .pointer (some ⟨w.heap.size, 0, none⟩)]]) (by kernel_rfl) (by decide) ?_ ?_ ?_
  · intro j hj; cases hj
  · refine po rfl (fun lq aq wq hk hr K hK => ?_) ?_
    · have B2 : ev aq (.tmp 2) = .pointer (some ⟨w.heap.size, 0, none⟩) := hk.base 2 (by kernel_rfl) rfl
      have hb : Below _ _ _ := hk.ext
      exact vc hK (op_load3 2 _ B2 (D0.out.below hb)) (fun w2 h2 => QV.grow ⟨_, _, _, _, _, _, _, rfl, _, _, _, (SN0.out.below hb), (SD0.out.below hb), hl0, e0⟩ h2)
    refine po rfl (fun lq aq wq hk hr K hK => ?_) ?_
    · have B3 : ev aq (.tmp 3) = .pointer (some ⟨w.heap.size + 1, 0, none⟩) := hk.base 3 (by kernel_rfl) rfl
      have hb : Below _ _ _ := hk.ext
      exact vc hK (op_load3 3 _ B3 (D1.out.below hb)) (fun w2 h2 => QV.grow ⟨_, _, _, _, _, _, _, rfl, _, _, _, (SN1.out.below hb), (SD1.out.below hb), hl1, e1⟩ h2)
    refine po rfl (fun lq aq wq hk hr K hK => ?_) ?_
    · have B5 : ev aq (.tmp 5) = .pointer (some ⟨bn, 0, none⟩) := hk.base 5 (by kernel_rfl) rfl
      have B2 : ev aq (.tmp 2) = .pointer (some ⟨w.heap.size, 0, none⟩) := hk.base 2 (by kernel_rfl) rfl
      exact vc hK (by go_simp) (fun w2 h2 => rfl)
    exact AllOps.nil
  intro V x2 hG hV hap
  have r0 : QV x2 (V 0) q := hV 0 (by decide)
  have r1 : QV x2 (V 1) r := hV 1 (by decide)
  have r2 : (V 2) = .func (.func 68) #[] #[.pointer (some ⟨bn, 0, none⟩), .pointer (some ⟨w.heap.size, 0, none⟩)] := hV 2 (by decide)
  clear hV hap
  simp only [List.take_succ_cons, List.take_zero, List.drop_succ_cons, List.drop_zero, putAll, Act.put, List.setIfInBounds_toArray, List.set_cons_zero, List.set_cons_succ]
  have hb := (show Below _ _ _ from hG)
  clear hG
  simp only [r2]
  refine wpList_of_call (f := 67) (vs := #[V 0, V 1, .func (.func 68) #[] #[.pointer (some ⟨bn, 0, none⟩), .pointer (some ⟨w.heap.size, 0, none⟩)]]) rfl (op_call3 6 7 8 two_f rfl rfl rfl) (twoS_ x2 _ _ bn k r0 r1 cmp1_f hp1 hp2 hp3 (fun w9 u9 v9 m9 hw9 hu9 hv9 _ => cmp1_v w9 bn w.heap.size hu9.wv hv9.wv _ _ _ _ _ _ _ (D0.out.below (Below.trans hb (Below.mono hw9 hb.size))) (BoxN.below Dn.out (Below.trans hb (Below.mono hw9 hb.size))) (by omega) (by rw [qs_sub]; exact hkc)) (Nat.lt_of_lt_of_le Dn.out.lt hb.size)) ?_
  rintro e x9 ⟨u9, rfl, ⟨nR, AR, kR, cR, BR, jR, dR, rfl⟩, hS⟩
  refine ⟨_, rfl, ?_⟩
  simp only [Act.put, List.setIfInBounds_toArray, List.set_cons_zero, List.set_cons_succ]
  have c0 := hS.cell (BoxN.below Dn.out hb)
  have h9 := HB.out.trans (Below.mono hb HB.out.size)
  have HQ : Grows w x9 := (h9.setCell (p := ⟨bn, 0, none⟩) (show w.heap.size ≤ bn by omega) (.int .i64 k)).trans (Below.mono hS (by rw [setCell_size]; exact h9.size))
  clear D0 D1 SN0 SN1 SD0 SD1 Dn HB hS hb h9
  go_wp2_with fail
  go_ret
  exact ⟨_, rfl, rfl, HQ⟩
end Go.Proofs.YtbippecchpaleaaGreatDoor
