import Derived.Test.YtbippecchpaleaaGreatDoorGAr
import Derived.Test.YtbippecchpaleaaGreatDoorShelf
import Derived.Test.YtbippecchpaleaaGreatDoorGBox
import Derived.Laws.IdiomStrings
/- nat.Text: what it returns. Conditions: a row of at most a hundred thousand limbs. -/
namespace Go.Proofs.YtbippecchpaleaaGreatDoor
open Go.RowKit Go.Num Go.Shelf
attribute [local go_sem] Oper.semAt_some u64_mask

theorem infoY : (Tryz.prog.info? 5).map (fun i => (i.zero, i.size, i.bytes)) = some (some (.int .u8 0), 1, 1) := by kernel_rfl

/-- Two rows of two types of element lie apart. -/
theorem rows_apart {w : World} {b1 b2 : Nat} {e1 e2 : TypeId} {s1 s2 n1 n2 : Nat} {v1 v2 : Value} {x1 x2 : List Value} (h1 : w.ownsRow b1 e1 s1 v1 n1 x1) (h2 : w.ownsRow b2 e2 s2 v2 n2 x2) (hne : e1 ≠ e2) : v1.ownBlock = none ∨ v1.ownBlock ≠ v2.ownBlock := by
  rcases h1.2 with ⟨rfl, _⟩ | ⟨g, cap, cur, rfl, _, hg, _⟩
  · exact .inl rfl
  · refine .inr fun e => ?_
    rcases h2.2 with ⟨rfl, _⟩ | ⟨g', cap', cur', rfl, _, hg', _⟩
    · simp [Value.ownBlock] at e
    · simp only [Value.ownBlock, Option.some.injEq] at e
      subst e
      rw [hg] at hg'
      simp only [Option.some.injEq, Obj.cells.injEq] at hg'
      exact hne hg'.2.1
set_option maxHeartbeats 2000000 in
set_option maxRecDepth 100000 in
/-- The closure of nat.Text: one digit goes to the list; the rest comes back. -/
theorem digit_any (w : World) (lo base n : Nat) (v : Value) (l : List UInt8) (hbo : Boxed w lo 52 v) (hrow : w.ownsRow base 5 1 v l.length (l.map encY)) (hn : n / 4294967296 < 4294967296) (hl : l.length ≤ 10000000) (hbase : base ≤ w.heap.size) :
    Calls Tryz.prog 111 #[.int .u64 n, .pointer (some ⟨lo, 0, none⟩)] w fun e w' => ∃ v', e = .returned (.int .u64 (n / 10 : Nat)) ∧ Boxed w' lo 52 v' ∧ w'.ownsRow base 5 1 v' (l ++ [Num.byteOf (n % 10)]).length ((l ++ [Num.byteOf (n % 10)]).map encY) ∧
      (∀ (b2 : Nat) (v2 : Value) (xs : List Nat), w.ownsRow b2 43 1 v2 xs.length (xs.map encU) → w'.ownsRow b2 43 1 v2 xs.length (xs.map encU)) ∧
      (∀ w0 : World, Below w0.heap.size w0 w → w0.heap.size ≤ lo → w0.heap.size ≤ base → Below w0.heap.size w0 w') := by
  obtain ⟨i0, hi0, hz0, hz1, hz2⟩ := info_parts infoY
  have hcb := hbo.cell
  have hfb := hbo.frozen
  have hd10 : (n : Int) / 10 = ((n / 10 : Nat) : Int) := by simp
  have hY : encY (Num.byteOf (n % 10)) = .int .u8 (48 + (n : Int) % 10) := by
    unfold encY
    rw [Num.byteOf_toNat (Nat.mod_lt _ (by decide))]
    simp
  have HY := Lib.hid hY
  have Hd := Lib.hid hd10
  clear hY hd10
  go_enter Tryz.func111, Tryz.ntmps111
  go_wp2_with (at_builtin; refine wpList_append_own _ rfl _ _ 52 rfl base 5 i0 (.int .u8 0) 1 1 Tryz.underlying52 hi0 hz0 hz1 hz2 rfl (by decide) _ _ _ rfl (World.ownsRow.alloc hrow _) ⟨w.heap.size, 0, none⟩ 1 1 [.int .u8 (48 + (n : Int) % 10)] rfl rfl (cell_one_new _ _ _) (by simp [Value.oneCell']) ?c3 ?c4 ?c5 ?_)
  case c3 => unfold maxLen; omega
  case c4 => omega
  case c5 => simp; omega
  intro v' w3 hown' hgr _
  obtain ⟨g', cap', rfl⟩ := ownsRow_succ hown'
  have hgrow : (w.alloc (.cells #[.int .u8 (48 + (n : Int) % 10)] 5)).grownBy w3 v.ownBlock := hgr
  clear hgr
  have hbo0 := hbo.alloc (.cells #[.int .u8 (48 + (n : Int) % 10)] 5)
  have hbo1 := hbo0.kept hgrow (hbo.not_row (by decide) hrow)
  have hcb1 := hbo1.cell
  have hfb1 := hbo1.frozen
  go_wp2_with fail
  go_ret
  have hst := grownBy_setCell' w3 lo (.slice (some ⟨g', 0, none⟩) (l.length + 1) cap')
  have hne := hbo1.not_row (by decide) hown'
  refine ⟨_, by rw [← Hd.out]; rfl, hbo1.set _, ?_, ?_, ?_⟩
  · rw [List.length_append, List.map_append, List.map_singleton, HY.out]
    exact hown'.kept hst (.inr hne.symm)
  · intro b2 v2 xs h2
    have h3 := h2.alloc (.cells #[.int .u8 (48 + (n : Int) % 10)] 5)
    have h4 := h3.kept hgrow (rows_apart h2 hrow (by decide))
    refine h4.kept hst ?_
    have := hbo1.not_row (by decide) h4
    exact .inr this.symm
  · intro w0 hb0 hlo hba
    have h1 := hb0.alloc hb0.size (.cells #[.int .u8 (48 + (n : Int) % 10)] 5)
    have h2 := h1.grown hgrow h1.size (fun k hk => Nat.le_trans hba (World.ownsRow.lt hrow k hk).1)
    exact h2.setCell (p := ⟨lo, 0, none⟩) hlo _

theorem grownBy_putRow_ {α : Type} [Inhabited α] (enc : α → Value) (w : World) (n g : Nat) (d : Array α) : w.grownBy (Sort.putRow enc (Sort.ahead w n) g 0 d) (some g) := by
  refine ⟨rfl, rfl, rfl, by simp [Sort.putRow, Sort.mapBlock, Sort.ahead], fun k hk hne => ?_⟩
  have : k ≠ g := fun e => hne (by rw [e])
  simp [Sort.putRow, Sort.mapBlock, Sort.ahead, Array.getElem?_modify, Ne.symm this]

theorem vlow_add (j k n : Nat) : vlow (j + k) n = vlow j n ++ vlow k (n / 10 ^ j) := by
  induction j generalizing n with
  | zero => simp [vlow]
  | succ j ih =>
    rw [show j + 1 + k = (j + k) + 1 by omega]
    simp only [vlow, List.cons_append]
    rw [ih, Nat.div_div_eq_div_mul, Nat.pow_succ, Nat.mul_comm 10]
theorem vlow_mod (k n : Nat) : vlow k (n % 10 ^ k) = vlow k n := by
  induction k generalizing n with
  | zero => rfl
  | succ k ih =>
    simp only [vlow]
    rw [Nat.pow_succ, Nat.mul_comm, Nat.mod_mul_right_mod, Nat.mod_mul_right_div_self, ih]
theorem pow10_lt {m n K : Nat} (h : 10 ^ m ≤ n) (hn : n < 4294967296 ^ K) : m < 32 * K := by
  have h1 : 2 ^ m ≤ 10 ^ m := Nat.pow_le_pow_left (by decide) m
  have h2 : 4294967296 ^ K = 2 ^ (32 * K) := by rw [Nat.pow_mul]
  rw [h2] at hn
  exact (Nat.pow_lt_pow_iff_right (a := 2) (by decide)).1 (by omega)

theorem rev_any (w : World) (base g c : Nat) (l : List UInt8) (hrow : w.ownsRow base 5 1 (.slice (some ⟨g, 0, none⟩) l.length c) l.length (l.map encY)) (hl : l.length ≤ 10000000) :
    Calls Tryz.prog 113 #[.slice (some ⟨g, 0, none⟩) l.length c] w fun e w' => e = .returned (.tuple #[]) ∧ (∀ j x, l.reverse[j]? = some x → w'.cell? ⟨g, j, none⟩ = some (encY x)) ∧ w.grownBy w' (some g) := by
  have hH : Sort.Holds encY w g 0 l.toArray := by
    intro j hj
    have hj' : j < l.length := by simpa using hj
    have h1 := World.ownsRow.cellAt hrow j (by omega)
    have h2 := World.ownsRow.frozenAt hrow j
    rw [Nat.zero_add]
    refine ⟨?_, h2⟩
    rw [h1, List.getElem?_map, List.getElem?_eq_getElem hj']
    simp [getElem!_pos, hj']
  refine (AnyE.slices_Reverse Tryz.lays35 encY (fun _ => rfl) g 0 c l w hH (by omega)).mono ?_
  rintro e w' ⟨rfl, n, rfl⟩
  refine ⟨rfl, fun j x hj => ?_, grownBy_putRow_ _ _ _ _ _⟩
  have h3 := Sort.holds_putRow encY (Sort.ahead w n) g 0 l.toArray l.reverse.toArray (fun j hj => hH j hj) (by simp)
  have hjl := (List.getElem?_eq_some_iff.1 hj).1
  have h4 := (h3 j (by simpa using hjl)).1
  rw [Nat.zero_add] at h4
  rw [h4]
  simp only [List.getElem!_toArray, List.getElem!_eq_getElem?_getD, hj]
  rfl

theorem rev_all (w : World) (base : Nat) (v : Value) (l : List UInt8) (hrow : w.ownsRow base 5 1 v l.length (l.map encY)) (hl : l.length ≤ 10000000) :
    Calls Tryz.prog 113 #[v] w fun e w' => e = .returned (.tuple #[]) ∧ Arg encY w' v l.reverse ∧ w.grownBy w' v.ownBlock := by
  rcases hrow.2 with ⟨rfl, h0⟩ | ⟨g, cap, cur, rfl, _, _, hnc, _⟩
  · refine (AnyE.slices_Reverse_empty Tryz.lays35 none 0 w).mono ?_
    rintro e w' ⟨rfl, rfl⟩
    have hn : l = [] := List.length_eq_zero_iff.1 h0
    subst hn
    exact ⟨rfl, Arg.nil_ _ _ _ _, World.grownBy.refl _ _⟩
  · refine (rev_any w base g cap l hrow hl).mono ?_
    rintro e w' ⟨rfl, h1, h2⟩
    exact ⟨rfl, Arg.mk_ (by simp) hnc (fun _ => ⟨g, 0, rfl, fun j x hj => by rw [Nat.zero_add]; exact h1 j x hj⟩), h2⟩
theorem conv_any (w : World) (v : Value) (l : List UInt8) (h : Arg encY w v l) : (convert 52 9 v).run Tryz.prog w = .ok (.string ⟨l.toArray⟩) w := by
  obtain ⟨A, c, rfl, hc, hr⟩ := h.open_
  cases A with
  | none =>
    have hn : l = [] := by
      rcases Nat.eq_zero_or_pos l.length with h0 | h0
      · exact List.length_eq_zero_iff.1 h0
      · obtain ⟨_, _, e, _⟩ := hr h0; cases e
    subst hn
    show (convert 52 9 (.slice none 0 c)).run Tryz.prog w = _
    rw [run_convert_bytes_string w 52 9 5 none 0 c Tryz.underlying52 Tryz.underlying5 Tryz.underlying9]
    simp [Conv.bytesToString]
    rfl
  | some a0 =>
    refine run_convert_bytes_back w 52 9 5 a0 c l Tryz.underlying52 Tryz.underlying5 Tryz.underlying9 (fun j hj => ?_)
    obtain ⟨b, o, e, hx⟩ := hr (by omega)
    cases e
    rw [Addr.add_lit]
    exact hx j _ (List.getElem?_eq_getElem hj)

set_option maxHeartbeats 4000000 in
set_option maxRecDepth 100000 in
theorem text_any (w : World) (va : Value) (la : List Nat) (a : Nat) (ha : Num w va la a) :
    Calls Tryz.prog 81 #[va] w fun e w' => e = .returned (.string ⟨(dec a).toArray⟩) ∧ Below w.heap.size w w' := by
  obtain ⟨lo, hlo⟩ : ∃ lo, lo = w.heap.size := ⟨_, rfl⟩
  have hB0 := (Below.refl w.heap.size w).alloc (Nat.le_refl _) (.cells #[.slice none 0 0] 52)
  have hbo0 : Boxed (w.alloc (.cells #[.slice none 0 0] 52)) lo 52 (.slice none 0 0) := by rw [hlo]; exact Boxed.new _ _ _
  go_enter Tryz.func81, Tryz.ntmps81
  go_wp2_with fail
  refine (trim_any _ _ _ (ha.arg.alloc _) ha.lim (by have := ha.len; omega)).mono ?_
  rintro e w1 ⟨v1, rfl, g1⟩
  rw [ha.val] at g1
  have hsa := Nat.le_trans (sz_num ha) ha.len
  have g2 := g1.after hB0
  have hbo1 := hbo0.kept (row := none) ⟨g1.below.os, g1.below.tape, g1.below.output, g1.below.size, fun k hk _ => g1.below.block k hk⟩ (by simp)
  have hs1 := g1.below.size
  simp only [World.size_alloc] at hs1
  clear ha g1 hB0 hbo0
  rw [← hlo] at hs1 ⊢
  have Hlo := Lib.hid hlo
  clear hlo
  go_wp2_with fail
  go_loopg [0] a (fun k av wr => ∃ r v, Gives 43 encU w wr av (limbs k) ∧ Boxed wr lo 52 v ∧ wr.ownsRow (lo + 1) 5 1 v ((vlow (9 * r) a).map Num.byteOf).length (((vlow (9 * r) a).map Num.byteOf).map encY) ∧
    Hid (k = a / 10 ^ (9 * r)) ∧ 9 * r ≤ 3300000 ∧ sz k ≤ 100000 ∧ lo + 1 ≤ wr.heap.size)
  case atStart => exact ⟨0, _, g2, hbo1, World.ownsRow_nil _ _ _ _, (by show a = a / 10 ^ (9 * 0); simp), by omega, hsa, hs1⟩
  case round =>
    obtain ⟨r, v, gx, hbo, hrow, HK, hr9, hsz, hlow⟩ := hrel
    have nx := gx.num hsz
    obtain ⟨A, c, rfl, hc, _⟩ := gx.arg.open_
    rcases Nat.eq_zero_or_pos gk with h0 | h0
    · have hl0 : (limbs gk).length = 0 := by rw [h0, limbs_zero]; rfl
      have hlt : a < 10 ^ (9 * r) := by
        have := HK.out
        rw [h0] at this
        exact (Nat.div_eq_zero_iff_lt (Nat.pow_pos (by decide))).1 this.symm
      have hstr := strike_zeros hlt
      obtain ⟨bs, hbs⟩ : ∃ bs, bs = (vlow (9 * r) a).map Num.byteOf := ⟨_, rfl⟩
      have hbl : bs.length ≤ 10000000 := by rw [hbs, List.length_map, vlow_length]; omega
      rw [← hbs] at hrow hstr
      have hrev := rev_all wr (lo + 1) v bs hrow hbl
      have Hrev := Lib.hid hrev
      have Hst := Lib.hid hstr
      have hcb := hbo.cell
      have hne := hbo.not_row (by decide) hrow
      have hgx := gx.below
      have hge : ∀ k, v.ownBlock = some k → w.heap.size ≤ k := fun k hk => by
        have := (World.ownsRow.lt hrow k hk).1
        have := Hlo.out
        omega
      have HG := Lib.hid (And.intro hbo (And.intro hne (And.intro hgx hge)))
      obtain ⟨A', c', hv', _, _⟩ := (ownsRow_arg hrow).open_
      rw [hl0]
      clear h0 hlt hstr hbs hrev hrow hne hgx hge gx nx hc hbo
      subst hv'
      go_wp2_with fail
      refine Hrev.out.mono ?_
      rintro e w6 ⟨rfl, harg, hgr⟩
      have hbo6 := HG.out.1.kept hgr HG.out.2.1
      have hb6 := HG.out.2.2.1.grown hgr HG.out.2.2.1.size HG.out.2.2.2
      have hcb6 := hbo6.cell
      have hconv := conv_any _ _ _ harg
      clear harg hgr hbo6
      go_wp2_with fail
      refine (Any.strings_TrimLeft_one Tryz.lays161 ⟨bs.reverse.toArray⟩ 48 (by decide) _).mono ?_
      rintro e w7 ⟨rfl, rfl⟩
      have htl : Lib.trimLeftB bs.reverse 48 = decs a := Hst.out
      rw [htl]
      rcases Nat.eq_zero_or_pos a with ha0 | ha0
      · have hd : decs a = [] := (decs_nil_iff a).2 ha0
        rw [hd]
        have hdec : dec a = [48] := by unfold dec; rw [if_pos ha0]
        have Hd := Lib.hid hdec
        clear hd hdec
        go_wp2_with fail
        go_ret
        exact ⟨by rw [Hd.out]; rfl, hb6⟩
      · have hd : decs a ≠ [] := fun h => by have := (decs_nil_iff a).1 h; omega
        have hdec : dec a = decs a := by unfold dec; rw [if_neg (by omega)]
        have Hd := Lib.hid hdec
        obtain ⟨ds, hds⟩ : ∃ ds, ds = decs a := ⟨_, rfl⟩
        rw [← hds] at hd ⊢
        have HD := Lib.hid hds
        have hbeq : ds.isEmpty = false := by
          cases ds with
          | nil => exact absurd rfl hd
          | cons => rfl
        clear hdec hds
        go_wp2_with fail
        go_ret
        exact ⟨by rw [Hd.out, ← HD.out]; rfl, hb6⟩
    · have hl0 : 0 < (limbs gk).length := by
        rcases Nat.eq_zero_or_pos (limbs gk).length with h | h
        · have := (limbs_length_le gk 0).1 (by omega); simp at this; omega
        · exact h
      clear hc
      go_wp2_with fail
      refine (short_any _ _ _ 1000000000 nx.arg nx.lim (by have := nx.len; omega) (by decide) (by decide)).mono ?_
      rintro e w5 ⟨v5, rfl, g5⟩
      rw [nx.val] at g5 ⊢
      obtain ⟨L0, hL0⟩ : ∃ L0, L0 = gk % 1000000000 := ⟨_, rfl⟩
      rw [← hL0]
      have hL9 : L0 < 1000000000 := by rw [hL0]; exact Nat.mod_lt _ (by decide)
      have hgrow5 : wr.grownBy w5 none := ⟨g5.below.os, g5.below.tape, g5.below.output, g5.below.size, fun k hk _ => g5.below.block k hk⟩
      have hbo5 := hbo.kept hgrow5 (by simp)
      have hrow5 := hrow.kept hgrow5 (by
        rcases hrow.2 with h | ⟨g, cap, cur, rfl, _⟩
        · exact .inl (by rw [h.1]; rfl)
        · exact .inr (by simp [Value.ownBlock]))
      have hb5 := gx.below.trans (g5.below.mono gx.below.size)
      have ho5 := g5.own
      have hs5 := Nat.le_trans hlow g5.below.size
      have hsz5 := Nat.le_trans (sz_div gk 1000000000) hsz
      have HL := Lib.hid hL0
      have Hbase := Lib.hid gx.below.size
      have hr9b : 9 * r < 3200000 := by
        obtain ⟨K, hK⟩ : ∃ K, K = 100000 := ⟨_, rfl⟩
        have h1 : a < 4294967296 ^ K := Nat.lt_of_lt_of_le (lt_sz a) (Nat.pow_le_pow_right (by decide) (by omega))
        have h2 : 10 ^ (9 * r) ≤ a := by
          rw [HK.out] at h0
          exact (Nat.div_pos_iff.1 h0).2
        have := pow10_lt h2 h1
        omega
      clear hL0 hgrow5 gx nx hbo hrow g5 hlow
      go_wp2_with fail
      go_loopw [6, 20] (fun lf iv wq => ∃ j v, j ≤ 9 ∧ iv = .int .i64 (j : Nat) ∧ lf = .int .u64 ((L0 / 10 ^ j : Nat) : Int) ∧ Boxed wq lo 52 v ∧ wq.ownsRow (lo + 1) 5 1 v ((vlow (9 * r) a).map Num.byteOf ++ (vlow j L0).map Num.byteOf).length (((vlow (9 * r) a).map Num.byteOf ++ (vlow j L0).map Num.byteOf).map encY) ∧
        wq.ownsRow wr.heap.size 43 1 v5 (limbs (gk / 1000000000)).length ((limbs (gk / 1000000000)).map encU) ∧ Below w.heap.size w wq ∧ lo + 1 ≤ wq.heap.size) (fun _ iv _ => 9 - (intOf iv).toNat)
      case atStart => exact ⟨0, v, by omega, rfl, by simp, hbo5, by simpa [vlow] using hrow5, ho5, hb5, hs5⟩
      case round =>
        obtain ⟨j, v, hj, rfl, rfl, hbo, hrow, ho, hb, hs⟩ := hrel
        clear hbo5 hrow5 ho5 hb5 hs5
        by_cases hj9 : j < 9
        · have hlenr : ((vlow (9 * r) a).map Num.byteOf ++ (vlow j L0).map Num.byteOf).length ≤ 10000000 := by simp [vlow_length]; omega
          have hLj : L0 / 10 ^ j / 4294967296 < 4294967296 := by
            have : L0 / 10 ^ j ≤ L0 := Nat.div_le_self _ _
            omega
          obtain ⟨Lj, hLje⟩ : ∃ Lj, Lj = L0 / 10 ^ j := ⟨_, rfl⟩
          rw [← hLje] at hLj ⊢
          have hdg := digit_any _ lo (lo + 1) Lj v _ hbo hrow hLj hlenr hs
          have Hdg := Lib.hid hdg
          have HLj := Lib.hid hLje
          clear hdg hlenr hbo hrow hLje
          go_wp2_with fail
          refine Hdg.out.mono ?_
          rintro e w6 ⟨v6, rfl, hbo6, hrow6, hoo, hbb⟩
          have ho6 := hoo _ _ _ ho
          have hb6 := hbb w hb (by rw [← Hlo.out]; exact Nat.le_refl _) (by rw [← Hlo.out]; omega)
          clear Hdg hoo hbb
          go_wp2_with fail
          go_roundw
          case rel =>
            refine ⟨j + 1, v6, by omega, by go_num, ?_, hbo6, ?_, ho6, hb6, hbo6.lt⟩
            · rw [Nat.pow_succ, ← Nat.div_div_eq_div_mul, ← HLj.out]; simp
            · rw [vlow_snoc, List.map_append, ← List.append_assoc, ← HLj.out]
              exact hrow6
          case measure => simp [intOf]; omega
        · have hj10 : j = 9 := by omega
          subst hj10
          clear hj hj9
          have hvl : (vlow (9 * r) a).map Num.byteOf ++ (vlow 9 L0).map Num.byteOf = (vlow (9 * (r + 1)) a).map Num.byteOf := by
            rw [HL.out, show (1000000000 : Nat) = 10 ^ 9 by decide, vlow_mod, HK.out, ← List.map_append, ← vlow_add, Nat.mul_add]
          rw [hvl] at hrow
          have hk' : gk / 1000000000 = a / 10 ^ (9 * (r + 1)) := by
            rw [HK.out, Nat.div_div_eq_div_mul, Nat.mul_add, Nat.pow_add]
          have HK' := Lib.hid hk'
          clear hvl hk'
          go_wp2_with fail
          go_roundg (gk / 1000000000)
          case measure => exact Nat.div_lt_self h0 (by decide)
          case rel => exact ⟨r + 1, v, ⟨ownsRow_base ho Hbase.out, hb⟩, hbo, hrow, HK', by omega, hsz5, hs⟩
end Go.Proofs.YtbippecchpaleaaGreatDoor
/- nat.Parse: what it returns. Conditions: a text of at most nine hundred thousand bytes. -/
namespace Go.Proofs.YtbippecchpaleaaGreatDoor
open Go.RowKit Go.Num Go.Shelf
attribute [local go_sem] Oper.semAt_some u64_mask

def digs : List UInt8 := [48, 49, 50, 51, 52, 53, 54, 55, 56, 57]
theorem digs_iff (c : UInt8) : digs.contains c = isDig c := by
  rw [Bool.eq_iff_iff, isDig_iff]
  simp only [digs, List.contains_cons, List.contains_nil, Bool.or_false, Bool.or_eq_true, beq_iff_eq]
  have h : ∀ d : UInt8, c = d ↔ c.toNat = d.toNat := fun d => ⟨fun h => by rw [h], fun h => UInt8.toNat_inj.1 h⟩
  simp only [h]
  simp
  omega
theorem dropWhile_nil_iff {α : Type} (p : α → Bool) (l : List α) : l.dropWhile p = [] ↔ l.all p = true := by
  induction l with
  | nil => simp
  | cons x l ih =>
    rw [List.dropWhile_cons]
    by_cases h : p x = true
    · simp [h, ih]
    · simp [h]
theorem trimS_nil (l : List UInt8) : Lib.trimS l digs = [] ↔ l.all isDig = true := by
  have e : (fun c => digs.contains c) = isDig := funext digs_iff
  unfold Lib.trimS Lib.trimLeftS Lib.trimRightS
  rw [e]
  constructor
  · intro h
    rw [dropWhile_nil_iff, List.all_reverse] at h
    by_cases h2 : l.all isDig = true
    · exact h2
    · exfalso
      have h3 : (l.reverse.dropWhile isDig) ≠ [] := fun h4 => h2 (by have := (dropWhile_nil_iff isDig l.reverse).1 h4; rwa [List.all_reverse] at this)
      obtain ⟨x, t, hxt⟩ := List.exists_cons_of_ne_nil h3
      have h5 : isDig x = true := by
        rw [hxt] at h
        simp at h
        exact h.1
      have h6 := List.head_dropWhile_not isDig h3
      simp only [hxt, List.head_cons] at h6
      rw [h5] at h6
      cases h6
  · intro h
    have h1 : l.reverse.dropWhile isDig = [] := (dropWhile_nil_iff _ _).2 (by rw [List.all_reverse]; exact h)
    rw [h1]
    rfl

set_option maxHeartbeats 4000000 in
set_option maxRecDepth 100000 in
theorem parse_no (w : World) (l : List UInt8) (h : goodText l = false) (hs : l.length ≤ 900000) :
    Calls Tryz.prog 89 #[.string ⟨l.toArray⟩] w fun e w' => e = .returned (.tuple #[.slice none 0 0, .bool false]) ∧ Below w.heap.size w w' := by
  have htr := Any.strings_Trim_laid Tryz.lays160 (by kernel_rfl) ⟨l.toArray⟩ ⟨#[48, 49, 50, 51, 52, 53, 54, 55, 56, 57]⟩ w (by show l.toArray.size ≤ _; simp; omega) (by decide) (ascii_of_all (by decide))
  have hnil := trimS_nil l
  have hdd : Lib.trimS (ByteArray.mk l.toArray).data.toList (ByteArray.mk #[48, 49, 50, 51, 52, 53, 54, 55, 56, 57]).data.toList = Lib.trimS l digs := by simp [digs]
  rw [hdd] at htr
  generalize Lib.trimS l digs = T at htr hnil
  have Htr := Lib.hid htr
  clear htr hdd
  cases l with
  | nil =>
    go_enter Tryz.func89, Tryz.ntmps89
    go_wp2_with fail
    go_ret2
    exact ⟨rfl, Below.refl _ _⟩
  | cons c t =>
    by_cases hT : T = []
    · subst hT
      have hall := hnil.1 rfl
      have h1 : c = 48 ∧ t ≠ [] := by
        unfold goodText at h
        rw [hall] at h
        simp at h
        exact ⟨h.1, h.2 h.1⟩
      obtain ⟨rfl, ht⟩ := h1
      have ht2 : t.isEmpty = false := by
        cases t with
        | nil => exact absurd rfl ht
        | cons => rfl
      clear hnil hall h
      go_enter Tryz.func89, Tryz.ntmps89
      go_wp2_with fail
      refine Htr.out.mono ?_
      rintro e w1 ⟨rfl, hb⟩
      go_wp2_with fail
      go_ret2
      exact ⟨rfl, hb⟩
    · have hTe : T.isEmpty = false := by
        cases T with
        | nil => exact absurd rfl hT
        | cons => rfl
      clear hnil h
      go_enter Tryz.func89, Tryz.ntmps89
      go_wp2_with fail
      refine Htr.out.mono ?_
      rintro e w1 ⟨rfl, hb⟩
      go_wp2_with fail
      all_goals (go_ret2; exact ⟨rfl, hb⟩)

theorem start_parse (l : List UInt8) : Lim ([] : List Nat) ∧ val [] = tval 0 (l.take 0) := And.intro Lim.nil (by rw [List.take_zero]; rfl)
theorem good_parts {c : UInt8} {t : List UInt8} (h : goodText (c :: t) = true) : (c :: t).all isDig = true ∧ (c = 48 → t = []) := by
  unfold goodText at h
  simp only [List.isEmpty_cons, Bool.not_false, Bool.true_and, Bool.and_eq_true] at h
  refine ⟨h.1, fun e => ?_⟩
  have h2 := h.2
  subst e
  simpa using h2

set_option maxHeartbeats 4000000 in
set_option maxRecDepth 100000 in
theorem parse_yes (w : World) (l : List UInt8) (h : goodText l = true) (hs : l.length ≤ 900000) :
    Calls Tryz.prog 89 #[.string ⟨l.toArray⟩] w fun e w' => ∃ v, e = .returned (.tuple #[v, .bool true]) ∧ Gives 43 encU w w' v (limbs (tval 0 l)) := by
  have htr := Any.strings_Trim_laid Tryz.lays160 (by kernel_rfl) ⟨l.toArray⟩ ⟨#[48, 49, 50, 51, 52, 53, 54, 55, 56, 57]⟩ w (by show l.toArray.size ≤ _; simp; omega) (by decide) (ascii_of_all (by decide))
  have hnil := trimS_nil l
  have hdd : Lib.trimS (ByteArray.mk l.toArray).data.toList (ByteArray.mk #[48, 49, 50, 51, 52, 53, 54, 55, 56, 57]).data.toList = Lib.trimS l digs := by simp [digs]
  rw [hdd] at htr
  cases l with
  | nil => exact absurd h (by decide)
  | cons c t =>
    obtain ⟨hall, hz⟩ := good_parts h
    rw [hnil.2 hall] at htr
    have Htr := Lib.hid htr
    have Hall := Lib.hid hall
    clear htr hdd hnil h hall
    have hc0 : ((({ data := (c :: t).toArray } : ByteArray)[0]'(by show 0 < (c :: t).toArray.size; simp)).toNat : Int) = (c.toNat : Int) := rfl
    have hsz : (({ data := (c :: t).toArray } : ByteArray)).size = (c :: t).length := by show (c :: t).toArray.size = _; simp
    by_cases h48 : c = 48
    · have ht := hz h48
      subst ht
      subst h48
      go_enter Tryz.func89, Tryz.ntmps89
      go_wp2_with fail
      refine Htr.out.mono ?_
      rintro e w1 ⟨rfl, hb⟩
      obtain ⟨l, hl⟩ : ∃ l : List UInt8, l = [48] := ⟨_, rfl⟩
      rw [← hl] at Hall hs
      have H00 := Lib.hid (start_parse l)
      have hS : ∃ S : ByteArray, S = { data := #[48] } ∧ S.size = l.length ∧ (∀ k (hk : k < S.size) (hk' : k < l.length), (S[k]'hk).toNat = (l[k]'hk').toNat) ∧ S.size ≤ 900000 := ⟨{ data := #[48] }, rfl, by subst hl; rfl, fun k hk hk' => by subst hl; obtain rfl : k = 0 := (by simpa using hk'); rfl, by have h9 : ({ data := #[48] } : ByteArray).size = 1 := rfl; omega⟩
      obtain ⟨S, hSe, hSl, hSg, hSb⟩ := hS
      have hS1 : S.size = 1 := by rw [hSl, hl]; rfl
      go_wp2_with fail
      rw [← hSe]
      have HSg := Lib.hid hSg
      have HSe := Lib.hid hSe
      clear hSe hSg
      go_loopw [4, 24] (fun av iv wq => ∃ (k : Nat) (r : List Nat), k ≤ S.size ∧ iv = .int .i64 k ∧ Arg encU wq av r ∧ r.length = k ∧ Hid (Lim r ∧ val r = tval 0 (l.take k)) ∧ Below w.heap.size w wq) (fun _ iv _ => S.size - (intOf iv).toNat)
      case atStart => exact ⟨0, [], by omega, rfl, Arg.nil_ _ _ _ _, rfl, H00, hb⟩
      case round =>
        obtain ⟨k, r, hk, rfl, harg, hrl, HI, hbq⟩ := hrel
        by_cases hlt : k < S.size
        · have hlt' : k < l.length := by omega
          have hdig : isDig (l[k]'hlt') = true := List.all_eq_true.1 Hall.out _ (List.getElem_mem hlt')
          have hdd := (isDig_iff _).1 hdig
          obtain ⟨m, hm⟩ : ∃ m, (l[k]'hlt').toNat = 48 + m := ⟨(l[k]'hlt').toNat - 48, by omega⟩
          have hm10 : m ≤ 9 := by omega
          have hidx : ((S[k]'hlt).toNat : Int) = 48 + (m : Int) := by rw [HSg.out k hlt hlt', hm]; simp
          have hsub : (((S[k]'hlt).toNat : Int) - 48) % 256 = (m : Int) := by rw [hidx]; omega
          clear hidx
          have htk : l.take (k + 1) = l.take k ++ [l[k]'hlt'] := take_snoc (List.getElem?_eq_getElem hlt')
          have hnext : tval 0 (l.take (k + 1)) = 10 * tval 0 (l.take k) + m := by rw [htk, tval_snoc, hm]; omega
          have HN := Lib.hid hnext
          clear hnext htk hdd hdig hm
          go_wp2_with fail
          simp only [hsub]
          clear hsub
          refine (by_any _ _ r 10 m harg HI.out.1 (by omega) (by decide) (by omega)).mono ?_
          rintro e w2 ⟨v2, r2, rfl, g2, h1, h2, h3⟩
          have H2 := Lib.hid (And.intro h1 h3)
          have ha2 := g2.arg
          have hb2 := hbq.trans (g2.below.mono hbq.size)
          clear h1 h3 g2 harg hbq
          go_wp2_with fail
          go_roundw
          case rel => exact ⟨k + 1, r2, by omega, by go_num, ha2, by omega, ⟨H2.out.1, by rw [H2.out.2, HI.out.2, HN.out]⟩, hb2⟩
          case measure => simp [intOf]; omega
        · go_wp2_with fail
          refine (trim_any _ _ r harg HI.out.1 (by omega)).mono ?_
          rintro e w2 ⟨v2, rfl, g2⟩
          have hv : val r = tval 0 l := by rw [HI.out.2, List.take_of_length_le (by omega)]
          rw [hv, hl] at g2
          have g3 := g2.after hbq
          go_wp2_with fail
          go_ret2
          exact ⟨_, rfl, g3⟩
    · have hcn : ¬ (c.toNat : Int) = 48 := by
        intro e
        have h1 : c.toNat = 48 := by omega
        exact h48 (UInt8.toNat_inj.1 h1)
      go_enter Tryz.func89, Tryz.ntmps89
      go_wp2_with fail
      refine Htr.out.mono ?_
      rintro e w1 ⟨rfl, hb⟩
      obtain ⟨l, hl⟩ : ∃ l : List UInt8, l = c :: t := ⟨_, rfl⟩
      rw [← hl] at Hall hs
      have H00 := Lib.hid (start_parse l)
      have hS : ∃ S : ByteArray, S = { data := (c :: t).toArray } ∧ S.size = l.length ∧ (∀ k (hk : k < S.size) (hk' : k < l.length), (S[k]'hk).toNat = (l[k]'hk').toNat) ∧ S.size ≤ 900000 := ⟨{ data := (c :: t).toArray }, rfl, by subst hl; exact hsz, fun k hk hk' => by subst hl; rfl, by rw [hsz, ← hl]; exact hs⟩
      obtain ⟨S, hSe, hSl, hSg, hSb⟩ := hS
      have hS1 : S.size = t.length + 1 := by rw [hSl, hl]; rfl
      go_wp2_with fail
      rw [← hSe]
      have HSg := Lib.hid hSg
      have HSe := Lib.hid hSe
      clear hSe hSg
      go_loopw [4, 24] (fun av iv wq => ∃ (k : Nat) (r : List Nat), k ≤ S.size ∧ iv = .int .i64 k ∧ Arg encU wq av r ∧ r.length = k ∧ Hid (Lim r ∧ val r = tval 0 (l.take k)) ∧ Below w.heap.size w wq) (fun _ iv _ => S.size - (intOf iv).toNat)
      case atStart => exact ⟨0, [], by omega, rfl, Arg.nil_ _ _ _ _, rfl, H00, hb⟩
      case round =>
        obtain ⟨k, r, hk, rfl, harg, hrl, HI, hbq⟩ := hrel
        by_cases hlt : k < S.size
        · have hlt' : k < l.length := by omega
          have hdig : isDig (l[k]'hlt') = true := List.all_eq_true.1 Hall.out _ (List.getElem_mem hlt')
          have hdd := (isDig_iff _).1 hdig
          obtain ⟨m, hm⟩ : ∃ m, (l[k]'hlt').toNat = 48 + m := ⟨(l[k]'hlt').toNat - 48, by omega⟩
          have hm10 : m ≤ 9 := by omega
          have hidx : ((S[k]'hlt).toNat : Int) = 48 + (m : Int) := by rw [HSg.out k hlt hlt', hm]; simp
          have hsub : (((S[k]'hlt).toNat : Int) - 48) % 256 = (m : Int) := by rw [hidx]; omega
          clear hidx
          have htk : l.take (k + 1) = l.take k ++ [l[k]'hlt'] := take_snoc (List.getElem?_eq_getElem hlt')
          have hnext : tval 0 (l.take (k + 1)) = 10 * tval 0 (l.take k) + m := by rw [htk, tval_snoc, hm]; omega
          have HN := Lib.hid hnext
          clear hnext htk hdd hdig hm
          go_wp2_with fail
          simp only [hsub]
          clear hsub
          refine (by_any _ _ r 10 m harg HI.out.1 (by omega) (by decide) (by omega)).mono ?_
          rintro e w2 ⟨v2, r2, rfl, g2, h1, h2, h3⟩
          have H2 := Lib.hid (And.intro h1 h3)
          have ha2 := g2.arg
          have hb2 := hbq.trans (g2.below.mono hbq.size)
          clear h1 h3 g2 harg hbq
          go_wp2_with fail
          go_roundw
          case rel => exact ⟨k + 1, r2, by omega, by go_num, ha2, by omega, ⟨H2.out.1, by rw [H2.out.2, HI.out.2, HN.out]⟩, hb2⟩
          case measure => simp [intOf]; omega
        · go_wp2_with fail
          refine (trim_any _ _ r harg HI.out.1 (by omega)).mono ?_
          rintro e w2 ⟨v2, rfl, g2⟩
          have hv : val r = tval 0 l := by rw [HI.out.2, List.take_of_length_le (by omega)]
          rw [hv, hl] at g2
          have g3 := g2.after hbq
          go_wp2_with fail
          go_ret2
          exact ⟨_, rfl, g3⟩
end Go.Proofs.YtbippecchpaleaaGreatDoor

