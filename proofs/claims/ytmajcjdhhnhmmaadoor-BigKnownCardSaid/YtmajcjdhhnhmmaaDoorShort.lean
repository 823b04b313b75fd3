import Derived.Test.YtmajcjdhhnhmmaaDoorInp
import Derived.Test.YtmajcjdhhnhmmaaDoorBy
/- nat.up, nat.short: what each returns. Conditions: numbers up to 2^32; rows of at most a hundred thousand limbs. -/
namespace Go.Proofs.YtmajcjdhhnhmmaaDoor
open Go.RowKit Go.Num
attribute [local go_sem] u64_mask

set_option maxHeartbeats 1000000 in
theorem up_any (w : World) (v : Value) (l : List Nat) (n : Nat) (h : Arg encU w v l) (hl : Lim l) (hb : l.length ≤ 1000000) (hn : n < 32) :
    Calls Tryd.prog 92 #[v, .int .u64 n] w fun e w' => ∃ v' r, e = .returned v' ∧ Gives 52 encU w w' v' r ∧ Lim r ∧ r.length = l.length + 1 ∧ val r = 2 ^ n * val l := by
  obtain ⟨p, hp⟩ : ∃ p : Nat, p = 2 ^ n := ⟨_, rfl⟩
  have hp32 : p < 4294967296 := by rw [hp]; exact Nat.pow_lt_pow_right (by decide) hn
  have hw : IntKind.u64.wrap (2 ^ n) = (p : Int) := by
    have e : ((2 : Int) ^ n) = (p : Int) := by rw [hp]; simp
    rw [e]; exact IntWalk.u64_in _ (by omega)
  have HP := Lib.hid hp
  clear hp
  go_enter Tryd.func92, Tryd.ntmps92
  go_wp2_with fail
  refine (by_any w v l p 0 h hl hb hp32 (by decide)).mono ?_
  rintro e w1 ⟨v1, r, rfl, hg, hlim, hlen, hval⟩
  have H := Lib.hid (And.intro hlen hval)
  clear hlen hval
  go_wp2
  go_ret
  exact ⟨_, _, rfl, hg, hlim, H.out.1, by rw [H.out.2, HP.out]; omega⟩

theorem drop_pred {l : List Nat} {k y : Nat} (h0 : 0 < k) (hy : l[k - 1]? = some y) : l.drop (k - 1) = y :: l.drop k := by
  have hk := len_of_get hy
  rw [List.drop_eq_getElem_cons hk, show k - 1 + 1 = k by omega]
  rw [List.getElem?_eq_getElem hk] at hy
  rw [Option.some.inj hy]
theorem drop_set_pred {l : List Nat} {k d : Nat} (h0 : 0 < k) (hk : k ≤ l.length) : (l.set (k - 1) d).drop (k - 1) = d :: l.drop k := by
  rw [drop_pred (k := k) (y := d) h0 (by rw [List.getElem?_set]; simp; omega)]
  congr 1
  apply List.ext_getElem?
  intro j
  rw [List.getElem?_drop, List.getElem?_drop, List.getElem?_set_ne (by omega)]
theorem short_step {x Q L T y S D R : Nat} (h : Q * x + L = T) (hS : S = L * 4294967296 + y) (hD : D = S / x) (hR : R = S % x) : (D + 4294967296 * Q) * x + R = y + 4294967296 * T := by
  have e := Nat.div_add_mod S x
  rw [← hD, ← hR] at e
  rw [Nat.add_mul, Nat.mul_assoc, ← h, Nat.mul_add, Nat.mul_comm D x]
  omega

set_option maxHeartbeats 2000000 in
set_option maxRecDepth 100000 in
theorem short_any (w : World) (v : Value) (l : List Nat) (x : Nat) (h : Arg encU w v l) (hl : Lim l) (hb : l.length ≤ 200000) (hx : x ≤ 4294967296) (hx0 : 0 < x) :
    Calls Tryd.prog 83 #[v, .int .u64 x] w fun e w' => ∃ v', e = .returned (.tuple #[v', .int .u64 (val l % x : Nat)]) ∧ Gives 52 encU w w' v' (limbs (val l / x)) := by
  obtain ⟨A, c, rfl, hc, hr⟩ := h.open_
  have Hl := Lib.hid hl
  clear hl h
  have hmk := run_make_row' (P := Tryd.prog) 22 52 (.int .u32 0) 4 Tryd.underlying22 infoU rfl .i64 .i64 l.length (by omega) (by omega)
  have hstart : Inp 52 encU w.heap.size (w.alloc (.cells (madeCells #[.int .u32 0] l.length) 52)) w.heap.size l.length l.length (List.replicate l.length 0) := Inp.made w 0 (by omega) rfl
  have hdone : ∀ (q : List Nat) (L : Nat), val (q.drop 0) * x + L = val (l.drop 0) → L < x → val q = val l / x ∧ L = val l % x := by
    intro q L h1 h2
    simp only [List.drop_zero] at h1
    rw [← h1, Nat.mul_comm, Nat.mul_add_div hx0, Nat.mul_add_mod, Nat.mod_eq_of_lt h2, Nat.div_eq_of_lt h2]
    exact ⟨rfl, rfl⟩
  have Hdone := Lib.hid hdone
  clear hdone
  go_enter Tryd.func83, Tryd.ntmps83
  go_wp2
  go_loopw [5, 6] (fun lv i wr => ∃ (k L : Nat) (q : List Nat), k ≤ l.length ∧ i = .int .i64 ((k : Int) - 1) ∧ lv = .int .u64 L ∧ L < x ∧ Lim q ∧
      Hid (val (q.drop k) * x + L = val (l.drop k)) ∧ Inp 52 encU w.heap.size wr w.heap.size l.length l.length q ∧ Below w.heap.size w wr) (fun _ i _ => (intOf i + 1).toNat)
  case atStart =>
    refine ⟨l.length, 0, List.replicate l.length 0, Nat.le_refl _, rfl, rfl, hx0, Lim.zeros _, ?_, hstart, (Below.refl _ w).alloc (Nat.le_refl _) _⟩
    show val (List.drop l.length (List.replicate l.length 0)) * x + 0 = val (l.drop l.length)
    simp
  case round =>
    obtain ⟨k, L, q, hk, rfl, rfl, hL, hq, HI, hown, hbel⟩ := hrel
    rcases Nat.eq_zero_or_pos k with h0 | h0
    · subst h0
      clear hmk hstart
      obtain ⟨e1, e2⟩ := Hdone.out q L HI.out hL
      have E1 := Lib.hid e1
      have E2 := Lib.hid e2
      clear e1 e2 HI
      have hbq : q.length ≤ 1000000 := by have := hown.len; omega
      go_wp2_with fail
      refine (trim_any _ _ q hown.arg hq hbq).mono ?_
      rintro e w1 ⟨v1, rfl, hg⟩
      rw [E1.out] at hg
      go_wp2
      go_ret2
      exact ⟨_, by rw [← E2.out]; rfl, hg.after hbel⟩
    · obtain ⟨y, hy⟩ := get_some (l := l) (k := k - 1) (by omega)
      obtain ⟨b, o, rfl, hc0⟩ := hr.at_ hy
      have hc1 := (hbel.cell (World.block_lt_of_cell? w _ hc0)).trans hc0
      have hy32 := Hl.out.get hy
      have Hy := Lib.hid hy
      clear hy hc0
      obtain ⟨S, hS⟩ : ∃ S : Nat, S = L * 4294967296 + y := ⟨_, rfl⟩
      have hSi : Go.bits .or .u64 ((L : Int) * 4294967296) (y : Int) = (S : Int) := by rw [u64_join L y (by omega) hy32, hS]; simp
      obtain ⟨D, hD⟩ : ∃ D : Nat, D = S / x := ⟨_, rfl⟩
      obtain ⟨R, hR⟩ : ∃ R : Nat, R = S % x := ⟨_, rfl⟩
      have hDi : (S : Int) / (x : Int) = (D : Int) := by rw [hD]; simp
      have hRi : (S : Int) % (x : Int) = (R : Int) := by rw [hR]; simp
      have hSx : S < x * 4294967296 := by
        have : (L + 1) * 4294967296 ≤ x * 4294967296 := Nat.mul_le_mul_right _ (by omega)
        omega
      have hD32 : D < 4294967296 := by rw [hD]; exact Nat.div_lt_of_lt_mul hSx
      have hRx : R < x := by rw [hR]; exact Nat.mod_lt _ hx0
      have hSb : S / 4294967296 < 4294967296 := by omega
      have HS := Lib.hid (And.intro hS (And.intro hD hR))
      clear hS hD hR hSx hmk hstart
      have hfz := hown.free (k - 1)
      obtain ⟨t, ht⟩ := get_some (l := q) (k := k - 1) (by have := hown.len; omega)
      have hct := hown.cell ht
      clear ht
      go_wp2_with fail
      go_roundw
      case rel =>
        refine ⟨k - 1, R, q.set (k - 1) D, by omega, by go_num, by rw [hRi], hRx, hq.set _ _ hD32, ?_, hown.set (k - 1) D, hbel.setCell (p := ⟨w.heap.size, k - 1, none⟩) (Nat.le_refl _) _⟩
        show val ((q.set (k - 1) D).drop (k - 1)) * x + R = val (l.drop (k - 1))
        rw [drop_set_pred h0 (by have := hown.len; omega), drop_pred h0 Hy.out, val_cons, val_cons]
        exact short_step HI.out HS.out.1 HS.out.2.1 HS.out.2.2
      case measure => simp [intOf]; omega
end Go.Proofs.YtmajcjdhhnhmmaaDoor
