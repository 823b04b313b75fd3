import Derived.Test.YtbippecchpaleaaGreatDoorBigSign
/- big.fold at big.add and big.mul, big.Add, big.Mul: what each returns. -/
namespace Go.Num
open Go Go.RowKit
/-- A row of whole numbers. -/
def CellsZ (w : World) (A : Option Addr) (Z : List Int) : Prop := 0 < Z.length → ∃ b o, A = some ⟨b, o, none⟩ ∧ ∀ j z, Z[j]? = some z → ∃ n m, w.cell? ⟨b, o + j * 2, none⟩ = some (.bool n) ∧ w.cell? ⟨b, o + j * 2 + 1, none⟩ = some m ∧ Whole w n m z
theorem CellsZ.below {w w' : World} {A : Option Addr} {Z : List Int} (h : CellsZ w A Z) (hb : Below w.heap.size w w') : CellsZ w' A Z := fun h0 => by
  obtain ⟨b, o, e, hx⟩ := h h0
  refine ⟨b, o, e, fun j z hj => ?_⟩
  obtain ⟨n, m, h1, h2, h3⟩ := hx j z hj
  exact ⟨n, m, (hb.cell (World.block_lt_of_cell? w _ h1)).trans h1, (hb.cell (World.block_lt_of_cell? w _ h2)).trans h2, h3.below hb⟩
theorem CellsZ.at_ {w : World} {A : Option Addr} {Z : List Int} (h : CellsZ w A Z) {j : Nat} {z : Int} (hj : Z[j]? = some z) : ∃ b o n m, A = some ⟨b, o, none⟩ ∧ w.cell? ⟨b, o + j * 2, none⟩ = some (.bool n) ∧ w.cell? ⟨b, o + j * 2 + 1, none⟩ = some m ∧ Whole w n m z := by
  have hl : j < Z.length := (List.getElem?_eq_some_iff.1 hj).1
  obtain ⟨b, o, e, hx⟩ := h (by omega)
  obtain ⟨n, m, h1, h2, h3⟩ := hx j z hj
  exact ⟨b, o, n, m, e, h1, h2, h3⟩
theorem foldl_snoc {op : Int → Int → Int} {Z : List Int} {i : Nat} {z z0 : Int} (h : Z[i]? = some z) : (Z.take (i + 1)).foldl op z0 = op ((Z.take i).foldl op z0) z := by
  have hl := (List.getElem?_eq_some_iff.1 h).1
  have e : Z[i] = z := (List.getElem?_eq_some_iff.1 h).2
  rw [List.take_succ_eq_append_getElem hl, List.foldl_append, e]
  rfl
end Go.Num
namespace Go.Proofs.YtbippecchpaleaaGreatDoor
open Go.RowKit Go.Num
attribute [local go_sem] Oper.semAt_some u64_mask

set_option maxHeartbeats 2000000 in
set_option maxRecDepth 100000 in
theorem fold_add (w0 w : World) (n : Bool) (m : Value) (z0 : Int) (A : Option Addr) (c : Nat) (Z : List Int) (h : MadeZ 43 w0 w n m z0) (hZ : CellsZ w A Z) (hl : Z.length ≤ 1000) (hs : ∀ j, j ≤ Z.length → sz ((Z.take j).foldl (fun x y : Int => x + y) z0).natAbs ≤ 1000) :
    Calls Tryz.prog 93 #[.agg #[.bool n, m], .slice A Z.length c, .func (.func 124) #[] #[]] w fun e w' => ∃ n' m', e = .returned (.agg #[.bool n', m']) ∧ MadeZ 43 w0 w' n' m' (Z.foldl (fun x y : Int => x + y) z0) ∧ Below w.heap.size w w' := by
  have HW0 := Lib.hid h.below.size
  have HR := Lib.hid (Reg1.start w 24 (.bool n) m)
  have HS := Lib.hid hs
  have HC := Lib.hid hZ
  have hm := h.has.shape
  obtain ⟨B, k, d, rfl⟩ := hm
  have H0 := Lib.hid h
  clear hs hZ h
  go_enter Tryz.func93, Tryz.ntmps93
  go_wp2_with fail
  go_loopw [8, 11] (fun _ iv wr => ∃ (i : Nat) (n' : Bool) (B' : Option Addr) (k' d' : Nat), i ≤ Z.length ∧ iv = .int .i64 i ∧ Hid (Reg1 w wr 24 (.bool n') (.slice B' k' d') ∧ MadeZ 43 w0 wr n' (.slice B' k' d') ((Z.take i).foldl (fun x y : Int => x + y) z0))) (fun _ iv _ => Z.length - (intOf iv).toNat)
  case atStart => exact ⟨0, n, B, k, d, Nat.zero_le _, rfl, HR.out, (H0.out.carry (((Below.refl _ w).alloc (Nat.le_refl _) _).alloc (by simp) _)).to (by simp)⟩
  case round =>
    obtain ⟨i, n1, B1, k1, d1, hi, rfl, HI⟩ := hrel
    obtain ⟨p1, p2, p3, p4, p5, p6, _⟩ := HI.out.1.facts
    obtain ⟨q1, q2⟩ := HI.out.1.more
    by_cases hlt : i < Z.length
    · obtain ⟨z, hz⟩ : ∃ z, Z[i]? = some z := ⟨_, List.getElem?_eq_getElem hlt⟩
      obtain ⟨b, o, nz, mz, rfl, r1, r2, hzw⟩ := (HC.out.below HI.out.1.below).at_ hz
      obtain ⟨Bz, kz, dz, rfl⟩ := hzw.shape
      have HZ := Lib.hid hz
      have HZW := Lib.hid hzw
      have hlr := World.block_lt_of_cell? wr _ r1
      have hab := (Below.refl wr.heap.size wr).alloc (Nat.le_refl _) (.cells #[.bool nz, .slice Bz kz dz] 24)
      have R1 := Lib.hid (HI.out.1.call hab)
      have HM := Lib.hid (HI.out.2.carry hab)
      have HZ1 := Lib.hid (HZW.out.below hab)
      clear p1 p2 p3 p4 p5 p6 q1 q2 hz hzw hab
      obtain ⟨p1, p2, p3, p4, p5, p6, _⟩ := R1.out.facts
      obtain ⟨q1, q2⟩ := R1.out.more
      go_wp2_with fail
      refine (add2_any _ n1 nz _ _ _ z (HM.out.sound (HS.out i hi)).whole HZ1.out).mono ?_
      rintro e w1 ⟨n2, m2, rfl, g⟩
      obtain ⟨B2, k2, d2, rfl⟩ := g.shape
      have R2 := Lib.hid (R1.out.call g.below)
      clear p1 p2 p3 p4 p5 p6 q1 q2
      obtain ⟨p1, p2, p3, p4, p5, p6, _⟩ := R2.out.facts
      obtain ⟨q1, q2⟩ := R2.out.more
      go_wp2_with fail
      go_roundw
      case rel =>
        refine ⟨i + 1, n2, B2, k2, d2, by omega, by go_num, R2.out.put0 _ _, ?_⟩
        have M := (g.after HM.out.below).put R2.out.p0 (Nat.le_trans HW0.out (Nat.le_refl _)) (by decide) (.bool n2) (.slice B2 k2 d2)
        exact M.to (foldl_snoc HZ.out).symm
      case measure => simp [intOf]; omega
    · have hiz : i = Z.length := by omega
      have hfin : (Z.take i).foldl (fun x y : Int => x + y) z0 = Z.foldl (fun x y : Int => x + y) z0 := by rw [hiz, List.take_length]
      have HF := Lib.hid hfin
      clear hfin
      go_wp2_with fail
      refine bodyPost_ret (v := .agg #[.bool n1, .slice B1 k1 d1]) (by simp [results, Tryz.results93, go_sem, HI.out.1.res.c0', HI.out.1.res.c1']) rfl ⟨_, _, rfl, ?_, (HI.out.1.put _ _).below⟩
      obtain ⟨x, y, hx⟩ := HI.out.1.res
      exact (HI.out.2.put hx (Nat.le_trans HW0.out (by omega)) (by decide) _ _).to HF.out

set_option maxHeartbeats 2000000 in
set_option maxRecDepth 100000 in
theorem fold_mul (w0 w : World) (n : Bool) (m : Value) (z0 : Int) (A : Option Addr) (c : Nat) (Z : List Int) (h : MadeZ 43 w0 w n m z0) (hZ : CellsZ w A Z) (hl : Z.length ≤ 1000) (hs : ∀ j, j ≤ Z.length → sz ((Z.take j).foldl (fun x y : Int => x * y) z0).natAbs ≤ 1000) :
    Calls Tryz.prog 93 #[.agg #[.bool n, m], .slice A Z.length c, .func (.func 94) #[] #[]] w fun e w' => ∃ n' m', e = .returned (.agg #[.bool n', m']) ∧ MadeZ 43 w0 w' n' m' (Z.foldl (fun x y : Int => x * y) z0) ∧ Below w.heap.size w w' := by
  have HW0 := Lib.hid h.below.size
  have HR := Lib.hid (Reg1.start w 24 (.bool n) m)
  have HS := Lib.hid hs
  have HC := Lib.hid hZ
  have hm := h.has.shape
  obtain ⟨B, k, d, rfl⟩ := hm
  have H0 := Lib.hid h
  clear hs hZ h
  go_enter Tryz.func93, Tryz.ntmps93
  go_wp2_with fail
  go_loopw [8, 11] (fun _ iv wr => ∃ (i : Nat) (n' : Bool) (B' : Option Addr) (k' d' : Nat), i ≤ Z.length ∧ iv = .int .i64 i ∧ Hid (Reg1 w wr 24 (.bool n') (.slice B' k' d') ∧ MadeZ 43 w0 wr n' (.slice B' k' d') ((Z.take i).foldl (fun x y : Int => x * y) z0))) (fun _ iv _ => Z.length - (intOf iv).toNat)
  case atStart => exact ⟨0, n, B, k, d, Nat.zero_le _, rfl, HR.out, (H0.out.carry (((Below.refl _ w).alloc (Nat.le_refl _) _).alloc (by simp) _)).to (by simp)⟩
  case round =>
    obtain ⟨i, n1, B1, k1, d1, hi, rfl, HI⟩ := hrel
    obtain ⟨p1, p2, p3, p4, p5, p6, _⟩ := HI.out.1.facts
    obtain ⟨q1, q2⟩ := HI.out.1.more
    by_cases hlt : i < Z.length
    · obtain ⟨z, hz⟩ : ∃ z, Z[i]? = some z := ⟨_, List.getElem?_eq_getElem hlt⟩
      obtain ⟨b, o, nz, mz, rfl, r1, r2, hzw⟩ := (HC.out.below HI.out.1.below).at_ hz
      obtain ⟨Bz, kz, dz, rfl⟩ := hzw.shape
      have HZ := Lib.hid hz
      have HZW := Lib.hid hzw
      have hlr := World.block_lt_of_cell? wr _ r1
      have hab := (Below.refl wr.heap.size wr).alloc (Nat.le_refl _) (.cells #[.bool nz, .slice Bz kz dz] 24)
      have R1 := Lib.hid (HI.out.1.call hab)
      have HM := Lib.hid (HI.out.2.carry hab)
      have HZ1 := Lib.hid (HZW.out.below hab)
      clear p1 p2 p3 p4 p5 p6 q1 q2 hz hzw hab
      obtain ⟨p1, p2, p3, p4, p5, p6, _⟩ := R1.out.facts
      obtain ⟨q1, q2⟩ := R1.out.more
      go_wp2_with fail
      refine (mul2_any _ n1 nz _ _ _ z (HM.out.sound (HS.out i hi)).whole HZ1.out).mono ?_
      rintro e w1 ⟨n2, m2, rfl, g⟩
      obtain ⟨B2, k2, d2, rfl⟩ := g.shape
      have R2 := Lib.hid (R1.out.call g.below)
      clear p1 p2 p3 p4 p5 p6 q1 q2
      obtain ⟨p1, p2, p3, p4, p5, p6, _⟩ := R2.out.facts
      obtain ⟨q1, q2⟩ := R2.out.more
      go_wp2_with fail
      go_roundw
      case rel =>
        refine ⟨i + 1, n2, B2, k2, d2, by omega, by go_num, R2.out.put0 _ _, ?_⟩
        have M := (g.after HM.out.below).put R2.out.p0 (Nat.le_trans HW0.out (Nat.le_refl _)) (by decide) (.bool n2) (.slice B2 k2 d2)
        exact M.to (foldl_snoc HZ.out).symm
      case measure => simp [intOf]; omega
    · have hiz : i = Z.length := by omega
      have hfin : (Z.take i).foldl (fun x y : Int => x * y) z0 = Z.foldl (fun x y : Int => x * y) z0 := by rw [hiz, List.take_length]
      have HF := Lib.hid hfin
      clear hfin
      go_wp2_with fail
      refine bodyPost_ret (v := .agg #[.bool n1, .slice B1 k1 d1]) (by simp [results, Tryz.results93, go_sem, HI.out.1.res.c0', HI.out.1.res.c1']) rfl ⟨_, _, rfl, ?_, (HI.out.1.put _ _).below⟩
      obtain ⟨x, y, hx⟩ := HI.out.1.res
      exact (HI.out.2.put hx (Nat.le_trans HW0.out (by omega)) (by decide) _ _).to HF.out

set_option maxHeartbeats 1000000 in
set_option maxRecDepth 100000 in
theorem Add_row (w : World) (A : Option Addr) (c : Nat) (Z : List Int) (hZ : CellsZ w A Z) (hl : Z.length ≤ 1000) (hs : ∀ j, j ≤ Z.length → sz ((Z.take j).foldl (fun x y : Int => x + y) 0).natAbs ≤ 1000) :
    Calls Tryz.prog 99 #[.slice A Z.length c] w fun e w' => ∃ n' m', e = .returned (.agg #[.bool n', m']) ∧ MadeZ 43 w w' n' m' (Z.foldl (fun x y : Int => x + y) 0) := by
  have HB := Lib.hid ((Below.refl _ w).alloc (Nat.le_refl _) (.cells #[.bool false, .slice none 0 0] 24))
  have B0 := Lib.hid (Box2.new w 24 (.bool false) (.slice none 0 0))
  go_enter Tryz.func99, Tryz.ntmps99
  go_wp2_with fail
  refine (fold_add w _ _ _ 0 A c Z (MadeZ.zero _ HB.out) (hZ.below HB.out) hl hs).mono ?_
  rintro e wo ⟨no, mo, rfl, go, hbo⟩
  have B := Lib.hid (B0.out.below hbo)
  obtain ⟨A1, k1, c1, rfl⟩ := go.shape
  obtain ⟨hc0, hc1, hf0, hf1⟩ := B.out.facts
  go_wp2_with fail
  refine bodyPost_ret (v := .agg #[.bool no, .slice A1 k1 c1]) (by simp [results, Tryz.results99, go_sem, (B.out.set0 _).c0, ((B.out.set0 _).set1 _).c1]) rfl ⟨_, _, rfl, ?_⟩
  exact go.put B.out (Nat.le_refl _) (by decide) _ _

set_option maxHeartbeats 1000000 in
set_option maxRecDepth 100000 in
theorem Mul_row (w : World) (A : Option Addr) (c : Nat) (Z : List Int) (hZ : CellsZ w A Z) (hl : Z.length ≤ 1000) (hs : ∀ j, j ≤ Z.length → sz ((Z.take j).foldl (fun x y : Int => x * y) 1).natAbs ≤ 1000) :
    Calls Tryz.prog 49 #[.slice A Z.length c] w fun e w' => ∃ n' m', e = .returned (.agg #[.bool n', m']) ∧ MadeZ 43 w w' n' m' (Z.foldl (fun x y : Int => x * y) 1) := by
  have HB := Lib.hid ((Below.refl _ w).alloc (Nat.le_refl _) (.cells #[.bool false, .slice none 0 0] 24))
  have B0 := Lib.hid (Box2.new w 24 (.bool false) (.slice none 0 0))
  go_enter Tryz.func49, Tryz.ntmps49
  go_wp2_with fail
  refine (bfrom_any _ 1 (by decide) (by decide)).mono ?_
  rintro e w1 ⟨n1, m1, rfl, g1⟩
  have HB1 := Lib.hid (HB.out.trans (g1.below.mono HB.out.size))
  have B1 := Lib.hid (B0.out.below g1.below)
  obtain ⟨hc0, hc1, hf0, hf1⟩ := B1.out.facts
  go_wp2_with fail
  refine (fold_mul w _ _ _ 1 A c Z (g1.after HB.out) (hZ.below HB1.out) hl hs).mono ?_
  rintro e wo ⟨no, mo, rfl, go, hbo⟩
  clear hc0 hc1 hf0 hf1
  have B := Lib.hid (B1.out.below hbo)
  obtain ⟨A1, k1, c1, rfl⟩ := go.shape
  obtain ⟨hc0, hc1, hf0, hf1⟩ := B.out.facts
  go_wp2_with fail
  refine bodyPost_ret (v := .agg #[.bool no, .slice A1 k1 c1]) (by simp [results, Tryz.results49, go_sem, (B.out.set0 _).c0, ((B.out.set0 _).set1 _).c1]) rfl ⟨_, _, rfl, ?_⟩
  exact go.put B.out (Nat.le_refl _) (by decide) _ _

theorem sz_one : sz (1 : Int).natAbs ≤ 1000 := by exact Nat.le_trans (sz_le (k := 1) (by decide)) (by decide)
theorem sz_nil' : sz (0 : Int).natAbs ≤ 1000 := by exact Nat.le_trans (sz_le (k := 0) (by decide)) (by decide)
end Go.Proofs.YtbippecchpaleaaGreatDoor

