import Derived.Test.YtdmghakmhfhpiaaDoorGcds
import Derived.Test.YtdmghakmhfhpiaaDoorRefParse
import Derived.BigRegion
import Derived.RegionTactic
/- litmuslaw01.NatParses returns true. -/
namespace Go.Proofs.YtdmghakmhfhpiaaDoor
open Go.RowKit Go.Num
attribute [local go_sem] Oper.semAt_some

theorem ext_take (l : List UInt8) (k : Nat) : (ByteArray.mk l.toArray).extract 0 (min l.length k) = ⟨(l.take k).toArray⟩ := by
  apply ByteArray.ext
  simp [ByteArray.data_extract, Nat.min_comm]
theorem idx_pair (u v : List UInt8) (i : Fin 2) (w : World) : (Instr.index 29 (.agg #[.string ⟨u.toArray⟩, .string ⟨v.toArray⟩]) (.int .i64 (i.val : Int))).run Tryd.prog w = .ok (.string ⟨(if i.val = 0 then u else v).toArray⟩) w := by
  have h : Tryd.prog.underlying 29 = some (.array 2 9) := Tryd.underlying29
  rcases i with ⟨k, hk⟩
  have : k = 0 ∨ k = 1 := by omega
  rcases this with rfl | rfl <;> simp [Instr.index, run_underlying h, asIntOf, part, go_sem]
theorem sz_text {u : List UInt8} (h : goodText u = true) (hl : u.length ≤ 100) : sz (tval 0 u) ≤ 50 := by
  have hall : u.all isDig = true := by
    unfold goodText at h
    simp only [Bool.and_eq_true] at h
    exact h.1.2
  have h1 := tval_bound 0 u hall
  refine sz_le (Nat.lt_of_lt_of_le h1 ?_)
  rw [Nat.zero_add, Nat.one_mul]
  exact Nat.le_trans (Nat.pow_le_pow_right (by decide) hl) (by decide)
theorem DRow.arg {w : World} {g n c : Nat} {D : List UInt8} (h : DRow w g n D) (hc : n ≤ c) : Arg encY w (.slice (some ⟨g, 0, none⟩) n c) D :=
  ⟨_, c, by rw [h.len], by rw [h.len]; exact hc, fun _ => ⟨g, 0, rfl, fun j x hj => by rw [Nat.zero_add]; exact h.cell hj⟩⟩
set_option maxHeartbeats 8000000 in
set_option maxRecDepth 100000 in
theorem natParses_any (w : World) (l : List UInt8) (x y : Nat) (hl : l.length ≤ 9223372036854775807) (hx : x < 256) (hy : y < 256) :
    Calls Tryd.prog 4 #[.string ⟨l.toArray⟩, .agg #[.int .u8 x, .int .u8 y]] w fun e w' => e = .returned (.bool true) ∧ Below w.heap.size w w' := by
  have hsz : (ByteArray.mk l.toArray).size = l.length := by show l.toArray.size = _; simp
  have hext := ext_take l 100
  obtain ⟨D, hD⟩ : ∃ D, D = l.take 100 := ⟨_, rfl⟩
  have hDn : D.length ≤ 100 := by rw [hD, List.length_take]; omega
  rw [← hD] at hext
  obtain ⟨m, hm⟩ : ∃ m, m = min l.length 100 := ⟨_, rfl⟩
  have hmi : min (l.length : Int) 100 = (m : Int) := by omega
  have hml : m ≤ l.length := by omega
  rw [← hm] at hext
  clear hm
  obtain ⟨n, hn⟩ : ∃ n, D.length = n := ⟨_, rfl⟩
  rw [hn] at hDn
  obtain ⟨W1, hW1⟩ : ∃ W1, W1 = w.alloc (.cells #[.int .u8 (x : Int), .int .u8 (y : Int)] 27) := ⟨_, rfl⟩
  obtain ⟨W2, hW2⟩ : ∃ W2, W2 = textRow W1 D := ⟨_, rfl⟩
  obtain ⟨c, hc⟩ : ∃ c, c = grownCap W1 n 0 5 := ⟨_, rfl⟩
  have hs1 : W1.heap.size = w.heap.size + 1 := by rw [hW1]; exact size_alloc _ _
  have hcv : (convert 9 28 (.string ⟨D.toArray⟩)).run Tryd.prog (w.alloc (.cells #[.int .u8 (x : Int), .int .u8 (y : Int)] 27)) = .ok (.slice (some ⟨w.heap.size + 1, 0, none⟩) n c) W2 := by
    have h1 := conv_text W1 D
    rw [hn, ← hW2, hs1, ← hc, hW1] at h1
    exact h1
  have hnc : n ≤ c := by rw [hc]; exact grownCap_ge _ _ _ _
  have hrow : DRow W2 (w.heap.size + 1) n D := by
    have h1 := textRow_row W1 D
    rwa [hn, ← hW2, hs1] at h1
  have hb12 : Below W1.heap.size W1 W2 := by rw [hW2]; exact textRow_below W1 D
  have hB2 : Below w.heap.size w W2 := ((Below.refl _ w).alloc (Nat.le_refl _) _).trans (by rw [← hW1]; exact hb12.mono (by omega))
  have hx1 : W1.cell? ⟨w.heap.size, 0, none⟩ = some (.int .u8 (x : Int)) := by rw [hW1, cell_of_row _ _ _ _ _ _ (heap_alloc_new w _)]; rfl
  have hy1 : W1.cell? ⟨w.heap.size, 1, none⟩ = some (.int .u8 (y : Int)) := by rw [hW1, cell_of_row _ _ _ _ _ _ (heap_alloc_new w _)]; rfl
  have hx2 := (hb12.cell (by show w.heap.size < W1.heap.size; omega)).trans hx1
  have hy2 := (hb12.cell (by show w.heap.size < W1.heap.size; omega)).trans hy1
  have HLD := Lib.hid (show D.length ≤ 100 by omega)
  have HN := Lib.hid hn
  clear hD hn hW1 hW2 hc hs1 hb12 hx1 hy1
  rcases Nat.eq_zero_or_pos n with h0 | h0
  · have hD0 : D = [] := List.length_eq_zero_iff.1 (by have := HN.out; omega)
    obtain ⟨E, hE⟩ : ∃ E : List UInt8, E = [] := ⟨_, rfl⟩
    have hback := conv_any W2 (.slice (some ⟨w.heap.size + 1, 0, none⟩) 0 c) E (by rw [hE]; exact Arg.nil_ _ _ _ _)
    have HLE := Lib.hid (show E.length ≤ 100 by rw [hE]; decide)
    have hidx0 : ∀ w : World, (Instr.index 29 (.agg #[.string ⟨D.toArray⟩, .string ⟨E.toArray⟩]) (.int .i64 0)).run Tryd.prog w = .ok (.string ⟨D.toArray⟩) w := fun w => idx_pair D E 0 w
    have hidx1 : ∀ w : World, (Instr.index 29 (.agg #[.string ⟨D.toArray⟩, .string ⟨E.toArray⟩]) (.int .i64 1)).run Tryd.prog w = .ok (.string ⟨E.toArray⟩) w := fun w => idx_pair D E 1 w
    have hB3 := hB2
    subst h0
    clear hD0 hE hrow hB2 hx2 hy2
    go_enter Tryd.func4, Tryd.ntmps4
    go_wp2_with fail
    go_loopw [36] (fun iv wr => ∃ k : Nat, k ≤ 2 ∧ iv = .int .i64 k ∧ Below w.heap.size w wr) (fun iv _ => 2 - (intOf iv).toNat)
    case atStart => exact ⟨0, by decide, rfl, hB3⟩
    case round =>
      clear hB3
      obtain ⟨k, hk, rfl, hB4⟩ := hrel
      have hk3 : k = 0 ∨ k = 1 ∨ k = 2 := by omega
      rcases hk3 with rfl | rfl | rfl
      · have HL := HLD
        cases hg : goodText D with
        | true =>
          have HG := Lib.hid hg
          clear hg
          go_wp2_with fail
          refine (parse_yes _ D HG.out (by have := HL.out; omega)).mono ?_
          rintro e w5 ⟨v5, rfl, g5⟩
          have hb5 := hB4.trans (g5.below.mono hB4.size)
          have n5 := g5.num (Nat.le_trans (sz_text HG.out HL.out) (by decide))
          clear g5 hB4
          go_wp2_with fail
          refine (rparse_yes _ D HG.out (by have := HL.out; omega)).mono ?_
          rintro e w6 ⟨v6, rfl, g6, b6⟩
          have hb6 := hb5.trans (b6.mono hb5.size)
          have n6 := num_of g6 (Nat.le_trans (sz_text HG.out HL.out) (by decide))
          have n56 := n5.below b6
          clear g6 b6 n5 hb5
          go_wp2_with fail
          refine (refSame_yes _ _ _ _ _ n56 n6 rfl).mono ?_
          rintro e w7 ⟨rfl, b7⟩
          have hb7 := hb6.trans (b7.mono hb6.size)
          clear n56 n6 b7 hb6
          go_wp2_with fail
          go_roundw
          case rel => exact ⟨1, by decide, rfl, hb7⟩
          case measure => simp [intOf]
        | false =>
          have HG := Lib.hid hg
          clear hg
          go_wp2_with fail
          refine (parse_no _ D HG.out (by have := HL.out; omega)).mono ?_
          rintro e w5 ⟨rfl, b5⟩
          have hb5 := hB4.trans (b5.mono hB4.size)
          clear b5 hB4
          go_wp2_with fail
          refine (rparse_no _ D HG.out (by have := HL.out; omega)).mono ?_
          rintro e w6 ⟨rfl, b6⟩
          have hb6 := hb5.trans (b6.mono hb5.size)
          clear b6 hb5
          go_wp2_with fail
          refine (refSame_yes _ _ _ _ _ (num_nil _ _) (num_nil _ _) rfl).mono ?_
          rintro e w7 ⟨rfl, b7⟩
          have hb7 := hb6.trans (b7.mono hb6.size)
          clear b7 hb6
          go_wp2_with fail
          go_roundw
          case rel => exact ⟨1, by decide, rfl, hb7⟩
          case measure => simp [intOf]
      · have HL := HLE
        cases hg : goodText E with
        | true =>
          have HG := Lib.hid hg
          clear hg
          go_wp2_with fail
          refine (parse_yes _ E HG.out (by have := HL.out; omega)).mono ?_
          rintro e w5 ⟨v5, rfl, g5⟩
          have hb5 := hB4.trans (g5.below.mono hB4.size)
          have n5 := g5.num (Nat.le_trans (sz_text HG.out HL.out) (by decide))
          clear g5 hB4
          go_wp2_with fail
          refine (rparse_yes _ E HG.out (by have := HL.out; omega)).mono ?_
          rintro e w6 ⟨v6, rfl, g6, b6⟩
          have hb6 := hb5.trans (b6.mono hb5.size)
          have n6 := num_of g6 (Nat.le_trans (sz_text HG.out HL.out) (by decide))
          have n56 := n5.below b6
          clear g6 b6 n5 hb5
          go_wp2_with fail
          refine (refSame_yes _ _ _ _ _ n56 n6 rfl).mono ?_
          rintro e w7 ⟨rfl, b7⟩
          have hb7 := hb6.trans (b7.mono hb6.size)
          clear n56 n6 b7 hb6
          go_wp2_with fail
          go_roundw
          case rel => exact ⟨2, by decide, rfl, hb7⟩
          case measure => simp [intOf]
        | false =>
          have HG := Lib.hid hg
          clear hg
          go_wp2_with fail
          refine (parse_no _ E HG.out (by have := HL.out; omega)).mono ?_
          rintro e w5 ⟨rfl, b5⟩
          have hb5 := hB4.trans (b5.mono hB4.size)
          clear b5 hB4
          go_wp2_with fail
          refine (rparse_no _ E HG.out (by have := HL.out; omega)).mono ?_
          rintro e w6 ⟨rfl, b6⟩
          have hb6 := hb5.trans (b6.mono hb5.size)
          clear b6 hb5
          go_wp2_with fail
          refine (refSame_yes _ _ _ _ _ (num_nil _ _) (num_nil _ _) rfl).mono ?_
          rintro e w7 ⟨rfl, b7⟩
          have hb7 := hb6.trans (b7.mono hb6.size)
          clear b7 hb6
          go_wp2_with fail
          go_roundw
          case rel => exact ⟨2, by decide, rfl, hb7⟩
          case measure => simp [intOf]
      · go_wp2_with fail
        refine (works_any _).mono ?_
        rintro e w5 ⟨rfl, b5⟩
        go_wp2_with fail
        go_ret
        exact ⟨rfl, hB4.trans (b5.mono hB4.size)⟩
  · obtain ⟨j, hj⟩ : ∃ j, j = x % n := ⟨_, rfl⟩
    have hji : (x : Int) % (n : Int) = (j : Int) := by rw [hj]; simp
    have hjn : j < n := by rw [hj]; exact Nat.mod_lt _ h0
    obtain ⟨z, hz⟩ := get_some (l := D) (k := j) (by have := HN.out; omega)
    have hcz := hrow.cell hz
    have hfz := hrow.free hjn
    have HZ := Lib.hid hj
    have HR := Lib.hid hrow
    clear hj hz hrow
    go_enter Tryd.func4, Tryd.ntmps4
    go_wp2_with fail
    go_region
    obtain ⟨b, hb⟩ : ∃ b : UInt8, encY b = .int .u8 (y : Int) := ⟨UInt8.ofNat y, by show Value.int .u8 ((UInt8.ofNat y).toNat : Int) = _; rw [UInt8.toNat_ofNat']; congr 2; omega⟩
    have hrow3 := (HR.out.set j b).drew
    rw [hb] at hrow3
    have hB3 := (hB2.setCell (p := ⟨w.heap.size + 1, j, none⟩) (by show w.heap.size ≤ w.heap.size + 1; omega) (.int .u8 (y : Int))).drew
    generalize (W2.setCell ⟨w.heap.size + 1, j, none⟩ (.int .u8 (y : Int))).drew = w3 at hrow3 hB3 ⊢
    obtain ⟨E, hE⟩ : ∃ E, E = D.set j b := ⟨_, rfl⟩
    rw [← hE] at hrow3
    have hback := conv_any w3 _ E (hrow3.arg hnc)
    have HLE := Lib.hid (show E.length ≤ 100 by rw [hE, List.length_set]; exact HLD.out)
    have hidx0 : ∀ w : World, (Instr.index 29 (.agg #[.string ⟨D.toArray⟩, .string ⟨E.toArray⟩]) (.int .i64 0)).run Tryd.prog w = .ok (.string ⟨D.toArray⟩) w := fun w => idx_pair D E 0 w
    have hidx1 : ∀ w : World, (Instr.index 29 (.agg #[.string ⟨D.toArray⟩, .string ⟨E.toArray⟩]) (.int .i64 1)).run Tryd.prog w = .ok (.string ⟨E.toArray⟩) w := fun w => idx_pair D E 1 w
    clear hE hrow3 hB2 hx2 hy2 hb hji hcz hfz
    go_wp2_with fail
    go_loopw [36] (fun iv wr => ∃ k : Nat, k ≤ 2 ∧ iv = .int .i64 k ∧ Below w.heap.size w wr) (fun iv _ => 2 - (intOf iv).toNat)
    case atStart => exact ⟨0, by decide, rfl, hB3⟩
    case round =>
      clear hB3
      obtain ⟨k, hk, rfl, hB4⟩ := hrel
      have hk3 : k = 0 ∨ k = 1 ∨ k = 2 := by omega
      rcases hk3 with rfl | rfl | rfl
      · have HL := HLD
        cases hg : goodText D with
        | true =>
          have HG := Lib.hid hg
          clear hg
          go_wp2_with fail
          refine (parse_yes _ D HG.out (by have := HL.out; omega)).mono ?_
          rintro e w5 ⟨v5, rfl, g5⟩
          have hb5 := hB4.trans (g5.below.mono hB4.size)
          have n5 := g5.num (Nat.le_trans (sz_text HG.out HL.out) (by decide))
          clear g5 hB4
          go_wp2_with fail
          refine (rparse_yes _ D HG.out (by have := HL.out; omega)).mono ?_
          rintro e w6 ⟨v6, rfl, g6, b6⟩
          have hb6 := hb5.trans (b6.mono hb5.size)
          have n6 := num_of g6 (Nat.le_trans (sz_text HG.out HL.out) (by decide))
          have n56 := n5.below b6
          clear g6 b6 n5 hb5
          go_wp2_with fail
          refine (refSame_yes _ _ _ _ _ n56 n6 rfl).mono ?_
          rintro e w7 ⟨rfl, b7⟩
          have hb7 := hb6.trans (b7.mono hb6.size)
          clear n56 n6 b7 hb6
          go_wp2_with fail
          go_roundw
          case rel => exact ⟨1, by decide, rfl, hb7⟩
          case measure => simp [intOf]
        | false =>
          have HG := Lib.hid hg
          clear hg
          go_wp2_with fail
          refine (parse_no _ D HG.out (by have := HL.out; omega)).mono ?_
          rintro e w5 ⟨rfl, b5⟩
          have hb5 := hB4.trans (b5.mono hB4.size)
          clear b5 hB4
          go_wp2_with fail
          refine (rparse_no _ D HG.out (by have := HL.out; omega)).mono ?_
          rintro e w6 ⟨rfl, b6⟩
          have hb6 := hb5.trans (b6.mono hb5.size)
          clear b6 hb5
          go_wp2_with fail
          refine (refSame_yes _ _ _ _ _ (num_nil _ _) (num_nil _ _) rfl).mono ?_
          rintro e w7 ⟨rfl, b7⟩
          have hb7 := hb6.trans (b7.mono hb6.size)
          clear b7 hb6
          go_wp2_with fail
          go_roundw
          case rel => exact ⟨1, by decide, rfl, hb7⟩
          case measure => simp [intOf]
      · have HL := HLE
        cases hg : goodText E with
        | true =>
          have HG := Lib.hid hg
          clear hg
          go_wp2_with fail
          refine (parse_yes _ E HG.out (by have := HL.out; omega)).mono ?_
          rintro e w5 ⟨v5, rfl, g5⟩
          have hb5 := hB4.trans (g5.below.mono hB4.size)
          have n5 := g5.num (Nat.le_trans (sz_text HG.out HL.out) (by decide))
          clear g5 hB4
          go_wp2_with fail
          refine (rparse_yes _ E HG.out (by have := HL.out; omega)).mono ?_
          rintro e w6 ⟨v6, rfl, g6, b6⟩
          have hb6 := hb5.trans (b6.mono hb5.size)
          have n6 := num_of g6 (Nat.le_trans (sz_text HG.out HL.out) (by decide))
          have n56 := n5.below b6
          clear g6 b6 n5 hb5
          go_wp2_with fail
          refine (refSame_yes _ _ _ _ _ n56 n6 rfl).mono ?_
          rintro e w7 ⟨rfl, b7⟩
          have hb7 := hb6.trans (b7.mono hb6.size)
          clear n56 n6 b7 hb6
          go_wp2_with fail
          go_roundw
          case rel => exact ⟨2, by decide, rfl, hb7⟩
          case measure => simp [intOf]
        | false =>
          have HG := Lib.hid hg
          clear hg
          go_wp2_with fail
          refine (parse_no _ E HG.out (by have := HL.out; omega)).mono ?_
          rintro e w5 ⟨rfl, b5⟩
          have hb5 := hB4.trans (b5.mono hB4.size)
          clear b5 hB4
          go_wp2_with fail
          refine (rparse_no _ E HG.out (by have := HL.out; omega)).mono ?_
          rintro e w6 ⟨rfl, b6⟩
          have hb6 := hb5.trans (b6.mono hb5.size)
          clear b6 hb5
          go_wp2_with fail
          refine (refSame_yes _ _ _ _ _ (num_nil _ _) (num_nil _ _) rfl).mono ?_
          rintro e w7 ⟨rfl, b7⟩
          have hb7 := hb6.trans (b7.mono hb6.size)
          clear b7 hb6
          go_wp2_with fail
          go_roundw
          case rel => exact ⟨2, by decide, rfl, hb7⟩
          case measure => simp [intOf]
      · go_wp2_with fail
        refine (works_any _).mono ?_
        rintro e w5 ⟨rfl, b5⟩
        go_wp2_with fail
        go_ret
        exact ⟨rfl, hB4.trans (b5.mono hB4.size)⟩
end Go.Proofs.YtdmghakmhfhpiaaDoor
