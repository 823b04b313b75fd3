import Derived.Test.YtmajcjdhhnhmmaaDoorGuess
import Derived.Test.YtmajcjdhhnhmmaaDoorGBox
/- nat.take, nat.back: what each leaves. Conditions: u is a part of a row that the caller owns; rows of at most two hundred thousand limbs. -/
namespace Go.Num
/-- The row r, from place i on d. -/
def splice (r : List Nat) (i : Nat) (d : List Nat) : List Nat := r.take i ++ (d ++ r.drop (i + d.length))
theorem splice_nil (r : List Nat) (i : Nat) : splice r i [] = r := by simp [splice]
theorem splice_length {r : List Nat} {i : Nat} {d : List Nat} (h : i + d.length ≤ r.length) : (splice r i d).length = r.length := by
  unfold splice
  rw [List.length_append, List.length_append, List.length_take, List.length_drop, Nat.min_eq_left (by omega)]
  omega
theorem splice_get {r : List Nat} {i : Nat} {d : List Nat} (h : i + d.length < r.length) : (splice r i d)[i + d.length]? = r[i + d.length]? := by
  unfold splice
  rw [List.getElem?_append_right (by rw [List.length_take]; omega), List.length_take, Nat.min_eq_left (by omega), List.getElem?_append_right (by omega), List.getElem?_drop]
  congr 1
  omega
theorem splice_set {r : List Nat} {i : Nat} {d : List Nat} (x : Nat) (h : i + d.length < r.length) : (splice r i d).set (i + d.length) x = splice r i (d ++ [x]) := by
  unfold splice
  rw [List.set_append_right _ _ (by rw [List.length_take]; omega), List.length_take, Nat.min_eq_left (by omega), List.set_append_right _ _ (by omega), List.drop_eq_getElem_cons h, show i + d.length - i - d.length = 0 by omega, List.set_cons_zero]
  simp [Nat.add_assoc]
theorem splice_val {r : List Nat} {i : Nat} {d : List Nat} (h : i + d.length ≤ r.length) : val (splice r i d) = val (r.take i) + 4294967296 ^ i * (val d + 4294967296 ^ d.length * val (r.drop (i + d.length))) := by
  unfold splice
  rw [val_append, val_append, List.length_take, Nat.min_eq_left (by omega)]
theorem splice_lim {r : List Nat} {i : Nat} {d : List Nat} (h : Lim r) (hd : Lim d) : Lim (splice r i d) := (h.take i).append (hd.append (h.drop _))
theorem splice_drop {r : List Nat} {i : Nat} {d : List Nat} (h : i + d.length ≤ r.length) : (splice r i d).drop i = d ++ r.drop (i + d.length) := by
  unfold splice
  rw [List.drop_append_of_le_length (by rw [List.length_take]; omega), List.drop_eq_nil_of_le (by rw [List.length_take]; omega), List.nil_append]
theorem part_snoc {r : List Nat} {i k y : Nat} (h : r[i + k]? = some y) : (r.drop i).take (k + 1) = (r.drop i).take k ++ [y] := take_snoc (by rw [List.getElem?_drop]; exact h)
/-- One step of what is taken away. -/
theorem take_round {P U W V q x u S D c b s : Nat} (h1 : s + P * c = q * V) (h2 : U + P * b = W + s) (hS : S = c + q * x) (hD : u + 4294967296 * hi63 D = D % 4294967296 + S % 4294967296 + b) :
    ∃ s', s' + (P * 4294967296) * (S / 4294967296) = q * (V + P * x) ∧ (U + P * u) + (P * 4294967296) * hi63 D = (W + P * (D % 4294967296)) + s' := by
  refine ⟨s + P * (S % 4294967296), ?_, ?_⟩
  · have e1 : P * (S % 4294967296 + 4294967296 * (S / 4294967296)) = P * (c + q * x) := by rw [← hS, Nat.mod_add_div]
    have e3 : q * (P * x) = P * (q * x) := by rw [Nat.mul_left_comm]
    rw [Nat.mul_add, Nat.mul_add, ← Nat.mul_assoc P 4294967296] at e1
    rw [Nat.mul_add, e3]
    omega
  · have e2 : P * (u + 4294967296 * hi63 D) = P * (D % 4294967296 + S % 4294967296 + b) := by rw [hD]
    rw [Nat.mul_add, Nat.mul_add, Nat.mul_add, ← Nat.mul_assoc] at e2
    omega
theorem take_end {U W V q c b s n : Nat} (h1 : s + 4294967296 ^ (n + 1) * c = q * V) (h2 : U + 4294967296 ^ (n + 1) * b = W + s) (hq : q < 4294967296) (hV : V < 4294967296 ^ n) : U + 4294967296 ^ (n + 1) * b = W + q * V := by
  have h3 : q * V < 4294967296 ^ (n + 1) := by
    rw [Nat.pow_succ, Nat.mul_comm]
    exact Nat.mul_lt_mul'' hV hq
  have h0 : c = 0 := by
    rcases Nat.eq_zero_or_pos c with h | h
    · exact h
    · have : 4294967296 ^ (n + 1) * 1 ≤ 4294967296 ^ (n + 1) * c := Nat.mul_le_mul_left _ h
      omega
  subst h0
  omega
theorem inp_grown {w w' : Go.World} {e : Go.TypeId} {base g n c : Nat} {q : List Nat} {row : Option Nat} (h : Inp e encU base w g n c q) (hg : w.grownBy w' row) (hne : row ≠ some g) : Inp e encU base w' g n c q :=
  Go.World.ownsRow.kept h.row hg (.inr (by simpa [Go.Value.ownBlock] using fun e => hne e.symm))
end Go.Num
namespace Go.Proofs.YtmajcjdhhnhmmaaDoor
open Go.RowKit Go.Num
attribute [local go_sem] Oper.semAt_some u64_mask shr63

set_option maxHeartbeats 4000000 in
set_option maxRecDepth 100000 in
theorem take_any (w : World) (base g N c i cu : Nat) (r : List Nat) (vv : Value) (lv : List Nat) (x : Nat) (hu : Inp 52 encU base w g N c r) (hlr : Lim r) (hi : i + lv.length + 1 ≤ N) (hv : Arg encU w vv lv) (hlv : Lim lv) (hx : x < 4294967296) (hb : N ≤ 200000) (_hcu : lv.length + 1 ≤ cu) :
    Calls Tryd.prog 94 #[.slice (some ⟨g, i, none⟩) (lv.length + 1) cu, vv, .int .u64 x] w fun e w' => ∃ d b, e = .returned (.bool (decide (0 < b))) ∧ b ≤ 1 ∧ d.length = lv.length + 1 ∧ Lim d ∧
      val ((r.drop i).take (lv.length + 1)) + 4294967296 ^ (lv.length + 1) * b = val d + x * val lv ∧ Inp 52 encU base w' g N c (splice r i d) ∧ w.grownBy w' (some g) := by
  obtain ⟨i0, hi0, hz0, hz1, hz2⟩ := info_parts infoU
  have hNr := hu.len
  have hgw := hu.lt
  go_enter Tryd.func94, Tryd.ntmps94
  go_wp2_with fail
  refine (clone_any w vv lv hv (by omega)).mono ?_
  rintro e w1 ⟨v1, rfl, hg1⟩
  have hown1 := hg1.own
  have hbel1 := hg1.below
  have hv1 := val_lt hlv
  have Hv := Lib.hid (And.intro hlv hv1)
  clear hg1 hv hlv hv1
  go_wp2_with (at_builtin; refine wpList_append_own _ rfl _ _ 22 rfl w.heap.size 52 i0 (.int .u32 0) 1 4 Tryd.underlying22 hi0 hz0 hz1 hz2 rfl (by decide) _ _ _ rfl (World.ownsRow.alloc hown1 _) ⟨w1.heap.size, 0, none⟩ 1 1 [.int .u32 0] rfl rfl (cell_one_new _ _ _) (by simp [Value.oneCell']) ?c3 ?c4 ?c5 ?_)
  case c3 => unfold maxLen; omega
  case c4 => omega
  case c5 => have := hbel1.size; simp; omega
  intro v' w3 h3 hgr _
  have hgr3 : w.grownBy w3 (some g) := by
    refine ⟨(hgr.os.trans hbel1.os), (hgr.tape.trans hbel1.tape), (hgr.output.trans hbel1.output), Nat.le_trans hbel1.size (Nat.le_trans (by simp) hgr.size), fun k hk _ => ?_⟩
    have h1 := hbel1.block k hk
    have h2 := hbel1.size
    rw [hgr.block k (by simp; omega) (fun e => by have := (World.ownsRow.lt hown1 k e.symm).1; omega), Below.heap_alloc _ _ k (by omega), h1]
  have hin3 : Inp 52 encU base w3 g N c r := ((hu.below hbel1).alloc _).row |> fun h => World.ownsRow.kept h hgr (.inr (fun e => by
    have := (World.ownsRow.lt hown1 g (by simpa [Value.ownBlock] using e.symm)).1; omega))
  obtain ⟨g', cap', rfl⟩ := ownsRow_succ h3
  have hv3 : Inp 52 encU w.heap.size w3 g' (lv.length + 1) cap' (lv ++ [0]) := by
    unfold Inp
    rw [List.map_append]
    exact h3
  have hgg : g ≠ g' := by have := hv3.base_le; omega
  have hlen0 : (lv ++ [0]).length = lv.length + 1 := by simp
  have hlim0 : Lim (lv ++ [0]) := Hv.out.1.snoc (by decide)
  have hval0 : val ((lv ++ [0]).take (lv.length + 1)) = val lv := by rw [take_all _ (by simp), val_snoc]; simp
  have Hval0 := Lib.hid hval0
  clear hval0 h3 hgr hown1 hbel1
  generalize hl0 : lv ++ [0] = l0 at *
  generalize hn : lv.length = n at *
  go_wp2_with fail
  go_loopw [7, 8, 17] (fun cv bv iv wr => ∃ (k C B : Nat) (d : List Nat), k ≤ n + 1 ∧ iv = .int .i64 k ∧ cv = .int .u64 C ∧ bv = .int .u64 B ∧ C < 4294967296 ∧ B ≤ 1 ∧ d.length = k ∧
      Hid (Lim d ∧ ∃ s, s + 4294967296 ^ k * C = x * val (l0.take k) ∧ val ((r.drop i).take k) + 4294967296 ^ k * B = val d + s) ∧ Inp 52 encU base wr g N c (splice r i d) ∧ w3.grownBy wr (some g)) (fun _ _ iv _ => n + 1 - (intOf iv).toNat)
  case atStart => exact ⟨0, 0, 0, [], Nat.zero_le _, rfl, rfl, rfl, by decide, by decide, rfl, ⟨Lim.nil, 0, by simp, by simp⟩, by rw [splice_nil]; exact hin3, World.grownBy.refl _ _⟩
  case round =>
    obtain ⟨k, C, B, d, hk, rfl, rfl, rfl, hC, hB, hdk, HI, hin, hgr⟩ := hrel
    have hv4 := inp_grown hv3 hgr (by simpa using hgg)
    by_cases hlt : k < n + 1
    · obtain ⟨y, hy⟩ := get_some (l := l0) (k := k) (by omega)
      have hcy := hv4.cell hy
      have hyb := hlim0.get hy
      obtain ⟨u, hu0⟩ := get_some (l := r) (k := i + k) (by omega)
      have hsg : (splice r i d)[i + k]? = some u := by rw [← hdk, splice_get (by omega), hdk]; exact hu0
      have hcu := hin.cell hsg
      have hub := hlr.get hu0
      have hfu := hin.free (i + k)
      obtain ⟨S, hS⟩ : ∃ S, S = C + x * y := ⟨_, rfl⟩
      obtain ⟨R, hR⟩ : ∃ R, R = S % 4294967296 := ⟨_, rfl⟩
      have hSi : (C : Int) + (x : Int) * (y : Int) = (S : Int) := by rw [hS]; simp
      have hRi : (S : Int) % 4294967296 = (R : Int) := by rw [hR]; simp
      have hSb : S / 4294967296 < 4294967296 := by
        have : x * y ≤ 4294967295 * 4294967295 := Nat.mul_le_mul (by omega) (by omega)
        omega
      have hxy : x * y ≤ S := by omega
      obtain ⟨D, hD, hD1, hD2, hD3⟩ := sub64 u R B hub (by omega) hB
      have hst := take_round HI.out.2.choose_spec.1 HI.out.2.choose_spec.2 hS (D := D) (by rw [← hR]; exact hD3)
      have Hst := Lib.hid hst
      have Hsg := Lib.hid (And.intro hu0 hy)
      have Hset := Lib.hid (splice_set (r := r) (i := i) (d := d) (D % 4294967296) (by omega))
      have Hps := Lib.hid (part_snoc hu0)
      have Hts := Lib.hid (take_snoc hy)
      clear hS hR hst hsg hu0 hy
      go_wp2_with fail
      go_roundw
      case rel =>
        refine ⟨k + 1, S / 4294967296, hi63 D, d ++ [D % 4294967296], by omega, by go_num, by go_num, rfl, hSb, hD2, by simp; omega, ?_, ?_, hgr.trans ⟨rfl, rfl, rfl, by simp, fun k hk hne => Below.heap_setCell _ _ _ k (fun e => hne (by rw [e]))⟩⟩
        · obtain ⟨s', e1, e2⟩ := Hst.out
          exact ⟨HI.out.1.snoc (Nat.mod_lt _ (by decide)), s', by rw [Hts.out, val_snoc, List.length_take, Nat.min_eq_left (by omega), pow_succ']; exact e1, by rw [Hps.out, val_snoc, List.length_take, List.length_drop, Nat.min_eq_left (by omega), val_snoc, hdk, pow_succ']; exact e2⟩
        · have := hin.set (i + k) (D % 4294967296)
          rw [← hdk, Hset.out, hdk] at this
          exact this
      case measure => simp [intOf]; omega
    · have hk1 : k = n + 1 := by omega
      subst hk1
      clear hlt
      go_wp2_with fail
      go_ret
      obtain ⟨s, e1, e2⟩ := HI.out.2
      rw [Hval0.out] at e1
      rw [hn]
      exact ⟨d, B, rfl, hB, hdk, HI.out.1, take_end e1 e2 hx Hv.out.2, hin, hgr3.trans hgr⟩

set_option maxHeartbeats 4000000 in
set_option maxRecDepth 100000 in
theorem back_any (w : World) (base g N c i cu : Nat) (r : List Nat) (vv : Value) (lv : List Nat) (hu : Inp 52 encU base w g N c r) (hlr : Lim r) (hi : i + lv.length + 1 ≤ N) (hv : Arg encU w vv lv) (hlv : Lim lv) (hb : N ≤ 200000) (_hcu : lv.length + 1 ≤ cu) :
    Calls Tryd.prog 95 #[.slice (some ⟨g, i, none⟩) (lv.length + 1) cu, vv] w fun e w' => ∃ d C, e = .returned (.tuple #[]) ∧ d.length = lv.length + 1 ∧ Lim d ∧
      val ((r.drop i).take (lv.length + 1)) + val lv = val d + 4294967296 ^ (lv.length + 1) * C ∧ Inp 52 encU base w' g N c (splice r i d) ∧ w.grownBy w' (some g) := by
  obtain ⟨i0, hi0, hz0, hz1, hz2⟩ := info_parts infoU
  have hNr := hu.len
  have hgw := hu.lt
  go_enter Tryd.func95, Tryd.ntmps95
  go_wp2_with fail
  refine (clone_any w vv lv hv (by omega)).mono ?_
  rintro e w1 ⟨v1, rfl, hg1⟩
  have hown1 := hg1.own
  have hbel1 := hg1.below
  have hv1 := val_lt hlv
  have Hv := Lib.hid (And.intro hlv hv1)
  clear hg1 hv hlv hv1
  go_wp2_with (at_builtin; refine wpList_append_own _ rfl _ _ 22 rfl w.heap.size 52 i0 (.int .u32 0) 1 4 Tryd.underlying22 hi0 hz0 hz1 hz2 rfl (by decide) _ _ _ rfl (World.ownsRow.alloc hown1 _) ⟨w1.heap.size, 0, none⟩ 1 1 [.int .u32 0] rfl rfl (cell_one_new _ _ _) (by simp [Value.oneCell']) ?c3 ?c4 ?c5 ?_)
  case c3 => unfold maxLen; omega
  case c4 => omega
  case c5 => have := hbel1.size; simp; omega
  intro v' w3 h3 hgr _
  have hgr3 : w.grownBy w3 (some g) := by
    refine ⟨(hgr.os.trans hbel1.os), (hgr.tape.trans hbel1.tape), (hgr.output.trans hbel1.output), Nat.le_trans hbel1.size (Nat.le_trans (by simp) hgr.size), fun k hk _ => ?_⟩
    have h1 := hbel1.block k hk
    have h2 := hbel1.size
    rw [hgr.block k (by simp; omega) (fun e => by have := (World.ownsRow.lt hown1 k e.symm).1; omega), Below.heap_alloc _ _ k (by omega), h1]
  have hin3 : Inp 52 encU base w3 g N c r := ((hu.below hbel1).alloc _).row |> fun h => World.ownsRow.kept h hgr (.inr (fun e => by
    have := (World.ownsRow.lt hown1 g (by simpa [Value.ownBlock] using e.symm)).1; omega))
  obtain ⟨g', cap', rfl⟩ := ownsRow_succ h3
  have hv3 : Inp 52 encU w.heap.size w3 g' (lv.length + 1) cap' (lv ++ [0]) := by
    unfold Inp
    rw [List.map_append]
    exact h3
  have hgg : g ≠ g' := by have := hv3.base_le; omega
  have hlen0 : (lv ++ [0]).length = lv.length + 1 := by simp
  have hlim0 : Lim (lv ++ [0]) := Hv.out.1.snoc (by decide)
  have hval0 : val ((lv ++ [0]).take (lv.length + 1)) = val lv := by rw [take_all _ (by simp), val_snoc]; simp
  have Hval0 := Lib.hid hval0
  clear hval0 h3 hgr hown1 hbel1
  generalize hl0 : lv ++ [0] = l0 at *
  generalize hn : lv.length = n at *
  go_wp2_with fail
  go_loopw [4, 12] (fun cv iv wr => ∃ (k C : Nat) (d : List Nat), k ≤ n + 1 ∧ iv = .int .i64 k ∧ cv = .int .u64 C ∧ C ≤ 1 ∧ d.length = k ∧
      Hid (Lim d ∧ val ((r.drop i).take k) + val (l0.take k) = val d + 4294967296 ^ k * C) ∧ Inp 52 encU base wr g N c (splice r i d) ∧ w3.grownBy wr (some g)) (fun _ iv _ => n + 1 - (intOf iv).toNat)
  case atStart => exact ⟨0, 0, [], Nat.zero_le _, rfl, rfl, by decide, rfl, ⟨Lim.nil, by simp⟩, by rw [splice_nil]; exact hin3, World.grownBy.refl _ _⟩
  case round =>
    obtain ⟨k, C, d, hk, rfl, rfl, hC, hdk, HI, hin, hgr⟩ := hrel
    have hv4 := inp_grown hv3 hgr (by simpa using hgg)
    by_cases hlt : k < n + 1
    · obtain ⟨y, hy⟩ := get_some (l := l0) (k := k) (by omega)
      have hcy := hv4.cell hy
      have hyb := hlim0.get hy
      obtain ⟨u, hu0⟩ := get_some (l := r) (k := i + k) (by omega)
      have hsg : (splice r i d)[i + k]? = some u := by rw [← hdk, splice_get (by omega), hdk]; exact hu0
      have hcu := hin.cell hsg
      have hub := hlr.get hu0
      have hfu := hin.free (i + k)
      obtain ⟨S, hS⟩ : ∃ S, S = C + (u + y) := ⟨_, rfl⟩
      have hSi : (C : Int) + ((u : Int) + (y : Int)) = (S : Int) := by rw [hS]; simp
      have hSb : S / 4294967296 < 4294967296 := by omega
      have hS1 : S / 4294967296 ≤ 1 := by omega
      have huy : u + y ≤ S := by omega
      have hst : val ((r.drop i).take k) + val (l0.take k) = val d + 4294967296 ^ k * C → (val d + 4294967296 ^ k * (S % 4294967296)) + (4294967296 ^ k * 4294967296) * (S / 4294967296) = (val ((r.drop i).take k) + 4294967296 ^ k * u) + (val (l0.take k) + 4294967296 ^ k * y) := fun h => add_step h.symm (by omega)
      have Hst := Lib.hid (hst HI.out.2)
      have Hsg := Lib.hid (And.intro hu0 hy)
      have Hset := Lib.hid (splice_set (r := r) (i := i) (d := d) (S % 4294967296) (by omega))
      have Hps := Lib.hid (part_snoc hu0)
      have Hts := Lib.hid (take_snoc hy)
      clear hS hst hsg hu0 hy
      go_wp2_with fail
      go_roundw
      case rel =>
        refine ⟨k + 1, S / 4294967296, d ++ [S % 4294967296], by omega, by go_num, by go_num, hS1, by simp; omega, ?_, ?_, hgr.trans ⟨rfl, rfl, rfl, by simp, fun k hk hne => Below.heap_setCell _ _ _ k (fun e => hne (by rw [e]))⟩⟩
        · refine ⟨HI.out.1.snoc (Nat.mod_lt _ (by decide)), ?_⟩
          rw [Hts.out, val_snoc, List.length_take, Nat.min_eq_left (by omega), Hps.out, val_snoc, List.length_take, List.length_drop, Nat.min_eq_left (by omega), val_snoc, hdk, pow_succ']
          exact Hst.out.symm
        · have := hin.set (i + k) (S % 4294967296)
          rw [← hdk, Hset.out, hdk] at this
          exact this
      case measure => simp [intOf]; omega
    · have hk1 : k = n + 1 := by omega
      subst hk1
      clear hlt
      go_wp2_with fail
      refine bodyPost_end (results_none rfl _ _ _) rfl ?_
      have e1 := HI.out.2
      rw [Hval0.out] at e1
      rw [hn]
      exact ⟨d, C, rfl, hdk, HI.out.1, e1, hin, hgr3.trans hgr⟩
end Go.Proofs.YtmajcjdhhnhmmaaDoor
