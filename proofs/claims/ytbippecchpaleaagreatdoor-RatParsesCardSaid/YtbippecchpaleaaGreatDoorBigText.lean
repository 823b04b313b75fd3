import Derived.Test.YtbippecchpaleaaGreatDoorGOf
import Derived.Test.YtbippecchpaleaaGreatDoorGSign
import Derived.Test.YtbippecchpaleaaGreatDoorGTx
import Derived.Test.YtbippecchpaleaaGreatDoorGNat
import Derived.Shelf.Small.Wraps
/- big.Text, big.Parse, big.Right, big.Small: what each returns. -/
namespace Go.Num
open Go Go.RowKit
/-- The text of a whole number. -/
def ztext (z : Int) : List UInt8 := if z < 0 then 45 :: dec z.natAbs else dec z.natAbs
theorem dec_short {n k : Nat} (h : sz n ≤ k) : (dec n).length ≤ 10 * k + 1 := by
  rcases Nat.eq_zero_or_pos n with h0 | h0
  · subst h0; unfold dec; rw [if_pos rfl]; simp
  · unfold dec
    rw [if_neg (by omega)]
    have h1 : n < 4294967296 ^ k := Nat.lt_of_lt_of_le (lt_sz n) (Nat.pow_le_pow_right (by decide) h)
    have h2 : 4294967296 ^ k ≤ 10 ^ (10 * k) := by rw [Nat.pow_mul]; exact Nat.pow_le_pow_left (by decide) k
    have := (decs_length_le n (10 * k)).2 (Nat.lt_of_lt_of_le h1 h2)
    omega
theorem ztext_neg {z : Int} (h : z < 0) : ztext z = 45 :: dec z.natAbs := if_pos h
theorem ztext_pos {z : Int} (h : ¬ z < 0) : ztext z = dec z.natAbs := if_neg h
end Go.Num
namespace Go.Proofs.YtbippecchpaleaaGreatDoor
open Go.RowKit Go.Num Go.Shelf
attribute [local go_sem] Oper.semAt_some u64_mask

theorem field0 (w : World) (n : Bool) (m : Value) : (Instr.field 24 (.agg #[.bool n, m]) 0).run Tryz.prog w = .ok (.bool n) w := by kernel_rfl
theorem cat_bytes' (l r : List UInt8) : ByteArray.mk l.toArray ++ ByteArray.mk r.toArray = ByteArray.mk (l ++ r).toArray := by
  apply ByteArray.ext
  simp

set_option maxHeartbeats 1000000 in
set_option maxRecDepth 100000 in
theorem btext_any (w : World) (n : Bool) (m : Value) (z : Int) (h : Whole w n m z) :
    Calls Tryz.prog 80 #[.agg #[.bool n, m]] w fun e w' => e = .returned (.string ⟨(ztext z).toArray⟩) ∧ Below w.heap.size w w' := by
  have hw := Lib.hid h
  obtain ⟨l, a, hn, hl, hz⟩ := h
  have ea : z.natAbs = a := by rw [hz, sg_natAbs]
  have HE := Lib.hid ea
  have HB := Lib.hid ((Below.refl _ w).alloc (Nat.le_refl _) (.cells #[.bool n, m] 24))
  have B0 := Lib.hid (Box2.new w 24 (.bool n) m)
  have hdl : (dec a).length ≤ 1000000 := Nat.le_trans (dec_short (Nat.le_trans (sz_num hn) hl)) (by decide)
  have hcat : ByteArray.mk #[45] ++ ByteArray.mk (dec a).toArray = ByteArray.mk (45 :: dec a).toArray := cat_bytes' [45] (dec a)
  clear hz ea
  have hfd := field0
  go_enter Tryz.func80, Tryz.ntmps80
  go_wp2_with fail
  refine (text_any _ _ _ a (hn.alloc _)).mono ?_
  rintro e w1 ⟨rfl, h1⟩
  have B1 := Lib.hid (B0.out.below h1)
  have H1 := Lib.hid (HB.out.trans (h1.mono HB.out.size))
  obtain ⟨hc0, hc1, _, _⟩ := B1.out.facts
  go_wp2_with fail
  refine (made_any _ n m z (hw.out.below H1.out)).mono ?_
  rintro e w2 ⟨n1, m1, rfl, g⟩
  obtain ⟨A1, k1, c1, rfl⟩ := g.shape
  have HN := Lib.hid g.sign
  have H2 := Lib.hid (H1.out.trans (g.below.mono H1.out.size))
  clear hc0 hc1 g
  by_cases hz : z < 0
  · have hn1 : n1 = true := by rw [HN.out]; simpa using hz
    subst hn1
    have HT := Lib.hid (ztext_neg hz)
    clear hz
    go_wp2_with fail
    go_ret
    exact ⟨by rw [HT.out, HE.out]; rfl, H2.out⟩
  · have hn1 : n1 = false := by rw [HN.out]; simpa using hz
    subst hn1
    have HT := Lib.hid (ztext_pos hz)
    clear hz
    go_wp2_with fail
    go_ret
    exact ⟨by rw [HT.out, HE.out]; rfl, H2.out⟩

theorem cut_neg (t : List UInt8) : Lib.trimPrefix (ByteArray.mk (45 :: t).toArray).data.toList (ByteArray.mk #[45]).data.toList = t ∧ Lib.hasPrefix (ByteArray.mk (45 :: t).toArray).data.toList (ByteArray.mk #[45]).data.toList = true := by
  constructor <;> simp [Lib.trimPrefix, Lib.hasPrefix]
theorem cut_pos (l : List UInt8) (h : l.head? ≠ some 45) : Lib.trimPrefix (ByteArray.mk l.toArray).data.toList (ByteArray.mk #[45]).data.toList = l ∧ Lib.hasPrefix (ByteArray.mk l.toArray).data.toList (ByteArray.mk #[45]).data.toList = false := by
  cases l with
  | nil => constructor <;> simp [Lib.trimPrefix, Lib.hasPrefix]
  | cons x t =>
    have hx : ¬ x = 45 := fun e => h (by simp [e])
    have hb : ((45 : UInt8) == x) = false := by simpa using fun e => hx (Eq.symm e)
    have hp : Lib.hasPrefix (x :: t) [45] = false := by unfold Lib.hasPrefix; simp only [List.isPrefixOf, hb, Bool.false_and]
    have e1 : (ByteArray.mk (x :: t).toArray).data.toList = x :: t := by simp
    have e2 : (ByteArray.mk #[45]).data.toList = [45] := rfl
    rw [e1, e2]
    exact ⟨by unfold Lib.trimPrefix; rw [hp]; rfl, hp⟩
/-- One run of big.Parse. -/
theorem start_z (w : World) : Box2 (w.alloc (.cells #[.bool false, .slice none 0 0] 24)) w.heap.size 24 (.bool false) (.slice none 0 0) ∧ Below w.heap.size w (w.alloc (.cells #[.bool false, .slice none 0 0] 24)) := ⟨Box2.new w _ _ _, (Below.refl _ w).alloc (Nat.le_refl _) _⟩

set_option maxHeartbeats 1000000 in
set_option maxRecDepth 100000 in
theorem parse_neg_bad (w : World) (t : List UInt8) (hg : goodText t = false) (hs : t.length ≤ 900000) :
    Calls Tryz.prog 87 #[.string ⟨(45 :: t).toArray⟩] w fun e w' => e = .returned (.tuple #[.agg #[.bool false, .slice none 0 0], .bool false]) ∧ Below w.heap.size w w' := by
  obtain ⟨hd1, hd2⟩ := cut_neg t
  have htr := Any.strings_CutPrefix Tryz.lays103 ⟨(45 :: t).toArray⟩ ⟨#[45]⟩ (w.alloc (.cells #[.bool false, .slice none 0 0] 24))
  rw [hd1, hd2] at htr
  have HB := Lib.hid (start_z w)
  clear hd1 hd2
  go_enter Tryz.func87, Tryz.ntmps87
  go_wp2_with fail
  refine htr.mono ?_
  rintro e wt ⟨rfl, rfl⟩
  go_wp2_with fail
  refine (parse_no _ t hg hs).mono ?_
  rintro e w1 ⟨rfl, hq⟩
  have B := Lib.hid (HB.out.1.below hq)
  have H1 := Lib.hid (HB.out.2.trans (hq.mono HB.out.2.size))
  obtain ⟨hc0, hc1, hf0, hf1⟩ := B.out.facts
  go_wp2_with fail
  refine bodyPost_ret (v := .tuple #[.agg #[.bool false, .slice none 0 0], .bool false]) (by simp [results, Tryz.results87, go_sem, (B.out.set0 _).c0, ((B.out.set0 _).set1 _).c1]) rfl ⟨rfl, (H1.out.setCell (p := ⟨w.heap.size, 0, none⟩) (Nat.le_refl _) _).setCell (p := ⟨w.heap.size, 1, none⟩) (Nat.le_refl _) _⟩

set_option maxHeartbeats 1000000 in
set_option maxRecDepth 100000 in
theorem parse_neg_zero (w : World) (t : List UInt8) (hg : goodText t = true) (h0 : tval 0 t = 0) (hs : t.length ≤ 900000) :
    Calls Tryz.prog 87 #[.string ⟨(45 :: t).toArray⟩] w fun e w' => e = .returned (.tuple #[.agg #[.bool false, .slice none 0 0], .bool false]) ∧ Below w.heap.size w w' := by
  have hl : (limbs (tval 0 t)).length = 0 := by rw [h0, limbs_zero]; rfl
  clear h0
  obtain ⟨hd1, hd2⟩ := cut_neg t
  have htr := Any.strings_CutPrefix Tryz.lays103 ⟨(45 :: t).toArray⟩ ⟨#[45]⟩ (w.alloc (.cells #[.bool false, .slice none 0 0] 24))
  rw [hd1, hd2] at htr
  have HB := Lib.hid (start_z w)
  clear hd1 hd2
  go_enter Tryz.func87, Tryz.ntmps87
  go_wp2_with fail
  refine htr.mono ?_
  rintro e wt ⟨rfl, rfl⟩
  go_wp2_with fail
  refine (parse_yes _ t hg hs).mono ?_
  rintro e w1 ⟨v1, rfl, g⟩
  have hq := g.below
  obtain ⟨A1, c1, rfl, _, _⟩ := g.arg.open_
  rw [hl]
  clear g
  have B := Lib.hid (HB.out.1.below hq)
  have H1 := Lib.hid (HB.out.2.trans (hq.mono HB.out.2.size))
  obtain ⟨hc0, hc1, hf0, hf1⟩ := B.out.facts
  go_wp2_with fail
  refine bodyPost_ret (v := .tuple #[.agg #[.bool false, .slice none 0 0], .bool false]) (by simp [results, Tryz.results87, go_sem, (B.out.set0 _).c0, ((B.out.set0 _).set1 _).c1]) rfl ⟨rfl, (H1.out.setCell (p := ⟨w.heap.size, 0, none⟩) (Nat.le_refl _) _).setCell (p := ⟨w.heap.size, 1, none⟩) (Nat.le_refl _) _⟩

set_option maxHeartbeats 1000000 in
set_option maxRecDepth 100000 in
theorem parse_neg_yes (w : World) (t : List UInt8) (hg : goodText t = true) (h0 : tval 0 t ≠ 0) (hs : t.length ≤ 900000) (hsz : sz (tval 0 t) ≤ 100000) :
    Calls Tryz.prog 87 #[.string ⟨(45 :: t).toArray⟩] w fun e w' => ∃ n' m', e = .returned (.tuple #[.agg #[.bool n', m'], .bool true]) ∧ MadeZ 43 w w' n' m' (-(tval 0 t : Int)) := by
  obtain ⟨k, hk⟩ : ∃ k, (limbs (tval 0 t)).length = k + 1 := ⟨(limbs (tval 0 t)).length - 1, by rw [limbs_pos (by omega)]; simp⟩
  have hk9 : k < 100000 := by unfold sz at hsz; omega
  clear h0
  obtain ⟨hd1, hd2⟩ := cut_neg t
  have htr := Any.strings_CutPrefix Tryz.lays103 ⟨(45 :: t).toArray⟩ ⟨#[45]⟩ (w.alloc (.cells #[.bool false, .slice none 0 0] 24))
  rw [hd1, hd2] at htr
  have HB := Lib.hid (start_z w)
  clear hd1 hd2
  go_enter Tryz.func87, Tryz.ntmps87
  go_wp2_with fail
  refine htr.mono ?_
  rintro e wt ⟨rfl, rfl⟩
  go_wp2_with fail
  refine (parse_yes _ t hg hs).mono ?_
  rintro e w1 ⟨v1, rfl, g⟩
  have B := Lib.hid (HB.out.1.below g.below)
  have HG := Lib.hid g
  obtain ⟨A1, c1, rfl, _, _⟩ := g.arg.open_
  clear g
  rw [hk]
  go_wp2_with fail
  refine (of_num _ true _ _ (tval 0 t) (-(tval 0 t : Int)) (hk ▸ HG.out.num hsz) (sg_true _)).mono ?_
  rintro e wo ⟨no, mo, rfl, go⟩
  obtain ⟨D1, k1, b1, rfl⟩ := go.shape
  have B2 := Lib.hid (B.out.below go.below)
  obtain ⟨hc0, hc1, hf0, hf1⟩ := B2.out.facts
  go_wp2_with fail
  refine bodyPost_ret (v := .tuple #[.agg #[.bool no, .slice D1 k1 b1], .bool true]) (by simp [results, Tryz.results87, go_sem, (B2.out.set0 _).c0, ((B2.out.set0 _).set1 _).c1]) rfl ⟨_, _, rfl, ?_⟩
  have hb := HB.out.2.trans (HG.out.below.mono HB.out.2.size)
  exact (go.after hb).put B2.out (Nat.le_refl _) (by decide) _ _

set_option maxHeartbeats 1000000 in
set_option maxRecDepth 100000 in
theorem parse_pos_bad (w : World) (l : List UInt8) (hh : l.head? ≠ some 45) (hg : goodText l = false) (hs : l.length ≤ 900000) :
    Calls Tryz.prog 87 #[.string ⟨l.toArray⟩] w fun e w' => e = .returned (.tuple #[.agg #[.bool false, .slice none 0 0], .bool false]) ∧ Below w.heap.size w w' := by
  obtain ⟨hd1, hd2⟩ := cut_pos l hh
  have htr := Any.strings_CutPrefix Tryz.lays103 ⟨(l).toArray⟩ ⟨#[45]⟩ (w.alloc (.cells #[.bool false, .slice none 0 0] 24))
  rw [hd1, hd2] at htr
  have HB := Lib.hid (start_z w)
  clear hd1 hd2
  go_enter Tryz.func87, Tryz.ntmps87
  go_wp2_with fail
  refine htr.mono ?_
  rintro e wt ⟨rfl, rfl⟩
  go_wp2_with fail
  refine (parse_no _ l hg hs).mono ?_
  rintro e w1 ⟨rfl, hq⟩
  have B := Lib.hid (HB.out.1.below hq)
  have H1 := Lib.hid (HB.out.2.trans (hq.mono HB.out.2.size))
  obtain ⟨hc0, hc1, hf0, hf1⟩ := B.out.facts
  go_wp2_with fail
  refine bodyPost_ret (v := .tuple #[.agg #[.bool false, .slice none 0 0], .bool false]) (by simp [results, Tryz.results87, go_sem, (B.out.set0 _).c0, ((B.out.set0 _).set1 _).c1]) rfl ⟨rfl, (H1.out.setCell (p := ⟨w.heap.size, 0, none⟩) (Nat.le_refl _) _).setCell (p := ⟨w.heap.size, 1, none⟩) (Nat.le_refl _) _⟩

set_option maxHeartbeats 1000000 in
set_option maxRecDepth 100000 in
theorem parse_pos_yes (w : World) (l : List UInt8) (hh : l.head? ≠ some 45) (hg : goodText l = true) (hs : l.length ≤ 900000) (hsz : sz (tval 0 l) ≤ 100000) :
    Calls Tryz.prog 87 #[.string ⟨l.toArray⟩] w fun e w' => ∃ n' m', e = .returned (.tuple #[.agg #[.bool n', m'], .bool true]) ∧ MadeZ 43 w w' n' m' ((tval 0 l : Int)) := by
  obtain ⟨hd1, hd2⟩ := cut_pos l hh
  have htr := Any.strings_CutPrefix Tryz.lays103 ⟨(l).toArray⟩ ⟨#[45]⟩ (w.alloc (.cells #[.bool false, .slice none 0 0] 24))
  rw [hd1, hd2] at htr
  have HB := Lib.hid (start_z w)
  clear hd1 hd2
  go_enter Tryz.func87, Tryz.ntmps87
  go_wp2_with fail
  refine htr.mono ?_
  rintro e wt ⟨rfl, rfl⟩
  go_wp2_with fail
  refine (parse_yes _ l hg hs).mono ?_
  rintro e w1 ⟨v1, rfl, g⟩
  have B := Lib.hid (HB.out.1.below g.below)
  have HG := Lib.hid g
  obtain ⟨A1, c1, rfl, _, _⟩ := g.arg.open_
  clear g
  go_wp2_with fail
  refine (of_num _ false _ _ (tval 0 l) ((tval 0 l : Int)) (HG.out.num hsz) (sg_false _)).mono ?_
  rintro e wo ⟨no, mo, rfl, go⟩
  obtain ⟨D1, k1, b1, rfl⟩ := go.shape
  have B2 := Lib.hid (B.out.below go.below)
  obtain ⟨hc0, hc1, hf0, hf1⟩ := B2.out.facts
  go_wp2_with fail
  refine bodyPost_ret (v := .tuple #[.agg #[.bool no, .slice D1 k1 b1], .bool true]) (by simp [results, Tryz.results87, go_sem, (B2.out.set0 _).c0, ((B2.out.set0 _).set1 _).c1]) rfl ⟨_, _, rfl, ?_⟩
  have hb := HB.out.2.trans (HG.out.below.mono HB.out.2.size)
  exact (go.after hb).put B2.out (Nat.le_refl _) (by decide) _ _
end Go.Proofs.YtbippecchpaleaaGreatDoor

