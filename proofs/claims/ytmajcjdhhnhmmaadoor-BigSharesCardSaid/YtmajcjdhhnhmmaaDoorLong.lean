import Derived.Test.YtmajcjdhhnhmmaaDoorTake
import Derived.Test.YtmajcjdhhnhmmaaDoorGNat
import Derived.Deep.RegionWith
import Derived.Deep.CutRange
/- nat.Div: what it returns. Conditions: rows of at most a hundred thousand limbs. -/
namespace Go.Proofs.YtmajcjdhhnhmmaaDoor
open Go.RowKit Go.Num
attribute [local go_sem] Oper.semAt_some u64_mask

/-- Two answers' rows are two. -/
def Apart (v u : Value) : Prop := ∀ k, v.ownBlock = some k → u.ownBlock ≠ some k
theorem Apart.nil_ (u : Value) (n c : Nat) : Apart (.slice none n c) u := fun k h => by simp [Value.ownBlock] at h
theorem Apart.of_lt {e e' : TypeId} {w w1 w2 w3 : World} {v u : Value} {l m : List Nat} (h : Gives e encU w w1 u l) (k : Gives e' encU w2 w3 v m) (hs : w1.heap.size ≤ w2.heap.size) : Apart v u := fun j hj hu => by
  have h1 := (World.ownsRow.lt h.own j hu).2
  have h2 := (World.ownsRow.lt k.own j hj).1
  omega
theorem _root_.Go.Num.Gives.later {α : Type} {enc : α → Value} {e : TypeId} {w w1 w2 : World} {v : Value} {l : List α} (h : Gives e enc w w1 v l) (hb : Below w1.heap.size w1 w2) : Gives e enc w w2 v l :=
  ⟨World.ownsRow.kept h.own (row := none) ⟨hb.os, hb.tape, hb.output, hb.size, fun k hk _ => hb.block k hk⟩ (by
    rcases h.own.2 with h0 | ⟨g, cap, cur, rfl, _⟩
    · exact .inl (by rw [h0.1]; rfl)
    · exact .inr (by simp [Value.ownBlock])), h.below.trans (hb.mono h.below.size)⟩

theorem gives_shape {e : TypeId} {w w' : World} {v : Value} {l : List Nat} {n : Nat} (h : Gives e encU w w' v l) (hn : l.length = n + 1) : ∃ g c, v = .slice (some ⟨g, 0, none⟩) (n + 1) c ∧ n + 1 ≤ c ∧ Inp e encU w.heap.size w' g (n + 1) c l := by
  have ho := h.own
  rw [hn] at ho
  obtain ⟨g, c, rfl⟩ := ownsRow_succ ho
  refine ⟨g, c, rfl, ?_, ho⟩
  obtain ⟨_, _, e5, h5, _⟩ := h.arg.open_
  simp only [Value.slice.injEq] at e5
  omega

set_option maxHeartbeats 2000000 in
theorem div_zero (w : World) (va vb : Value) (la lb : List Nat) (a : Nat) (ha : Num w va la a) (hb : Num w vb lb 0) :
    Calls Tryd.prog 72 #[va, vb] w fun e w' => e = .returned (.tuple #[.slice none 0 0, .slice none 0 0, .int .i64 3]) ∧ Below w.heap.size w w' := by
  go_enter Tryd.func72, Tryd.ntmps72
  go_wp2_with fail
  refine (trim_any _ _ _ ha.arg ha.lim (by have := ha.len; omega)).mono ?_
  rintro e w1 ⟨v1, rfl, g1⟩
  go_wp2_with fail
  refine (trim_any _ _ _ (hb.arg.below g1.below) hb.lim (by have := hb.len; omega)).mono ?_
  rintro e w2 ⟨v2, rfl, g2⟩
  rw [hb.val] at g2
  obtain ⟨A, c, rfl, hc, hr⟩ := g2.arg.open_
  have hbel := g1.below.trans (g2.below.mono g1.below.size)
  have hl0 : (limbs 0).length = 0 := by rw [limbs_zero]; rfl
  rw [hl0] at *
  go_wp2_with fail
  go_ret3
  exact ⟨rfl, hbel⟩

set_option maxHeartbeats 2000000 in
theorem div_low (w : World) (va vb : Value) (la lb : List Nat) (a b : Nat) (ha : Num w va la a) (hb : Num w vb lb b) (hab : a < b) :
    Calls Tryd.prog 72 #[va, vb] w fun e w' => ∃ vr, e = .returned (.tuple #[.slice none 0 0, vr, .int .i64 0]) ∧ Gives 52 encU w w' vr (limbs a) := by
  have hc1 : cmpN a b = -1 := cmpN_lt hab
  go_enter Tryd.func72, Tryd.ntmps72
  go_wp2_with fail
  refine (trim_any _ _ _ ha.arg ha.lim (by have := ha.len; omega)).mono ?_
  rintro e w1 ⟨v1, rfl, g1⟩
  go_wp2_with fail
  refine (trim_any _ _ _ (hb.arg.below g1.below) hb.lim (by have := hb.len; omega)).mono ?_
  rintro e w2 ⟨v2, rfl, g2⟩
  rw [hb.val] at g2
  rw [ha.val] at g1
  have na := (g1.later g2.below).num (Nat.le_trans (sz_num ha) ha.len)
  have nb := g2.num (Nat.le_trans (sz_num hb) hb.len)
  have gr := (g1.later g2.below)
  obtain ⟨A, c, rfl, hc, hr⟩ := nb.arg.open_
  have hl0 : 0 < (limbs b).length := by
    rcases Nat.eq_zero_or_pos (limbs b).length with h | h
    · have := (limbs_length_le b 0).1 (by omega); simp at this; omega
    · exact h
  have hbel := g1.below.trans (g2.below.mono g1.below.size)
  go_wp2_with fail
  refine (cmp_any _ _ _ _ _ _ _ na nb).mono ?_
  rintro e w3 ⟨rfl, hb3⟩
  rw [hc1]
  go_wp2_with fail
  go_ret3
  exact ⟨_, rfl, gr.later hb3⟩

theorem limbs_one {b : Nat} (h0 : 0 < b) (h : b < 4294967296) : limbs b = [b] := by
  rw [limbs_pos (by omega), Nat.mod_eq_of_lt h, Nat.div_eq_of_lt h, limbs_zero]

set_option maxHeartbeats 2000000 in
theorem div_one (w : World) (va vb : Value) (la lb : List Nat) (a b : Nat) (ha : Num w va la a) (hb : Num w vb lb b) (hab : b ≤ a) (hb0 : 0 < b) (hb1 : b < 4294967296) :
    Calls Tryd.prog 72 #[va, vb] w fun e w' => ∃ vq vr, e = .returned (.tuple #[vq, vr, .int .i64 0]) ∧ Gives 52 encU w w' vq (limbs (a / b)) ∧ Gives 52 encU w w' vr (limbs (a % b)) ∧ Apart vr vq := by
  have hc1 : (0 : Int) ≤ cmpN a b := by
    rcases Nat.lt_or_ge b a with h' | h'
    · rw [cmpN_gt h']; decide
    · rw [cmpN_eq (by omega)]; decide
  have hmod : a % b < 18446744073709551616 := by have := Nat.mod_lt a hb0; omega
  have Hmod := Lib.hid hmod
  clear hmod
  go_enter Tryd.func72, Tryd.ntmps72
  go_wp2_with fail
  refine (trim_any _ _ _ ha.arg ha.lim (by have := ha.len; omega)).mono ?_
  rintro e w1 ⟨v1, rfl, g1⟩
  go_wp2_with fail
  refine (trim_any _ _ _ (hb.arg.below g1.below) hb.lim (by have := hb.len; omega)).mono ?_
  rintro e w2 ⟨v2, rfl, g2⟩
  rw [hb.val] at g2
  rw [ha.val] at g1
  have na := (g1.later g2.below).num (Nat.le_trans (sz_num ha) ha.len)
  have nb := g2.num (Nat.le_trans (sz_num hb) hb.len)
  obtain ⟨A, c, rfl, hc, hr⟩ := nb.arg.open_
  have hb2 := g1.below.trans (g2.below.mono g1.below.size)
  have hl1 : (limbs b).length = 1 := by rw [limbs_one hb0 hb1]; rfl
  obtain ⟨b1, o1, rfl, hcell⟩ := hr.at_ (k := 0) (x := b) (by rw [limbs_one hb0 hb1]; rfl)
  rw [Nat.add_zero] at hcell
  have Hl1 := Lib.hid hl1
  have Hc := Lib.hid hc
  clear g1 g2 hc hl1 hr
  rw [Hl1.out] at nb ⊢
  go_wp2_with fail
  refine (cmp_any _ _ _ _ _ _ _ na nb).mono ?_
  rintro e w3 ⟨rfl, hb3⟩
  have na3 := na.below hb3
  have hcell3 := (hb3.cell (World.block_lt_of_cell? w2 _ hcell)).trans hcell
  generalize cmpN a b = cc at *
  go_wp2_with fail
  refine (short_any _ _ _ b na3.arg na3.lim (Nat.le_trans na3.len (by decide)) (by omega) hb0).mono ?_
  rintro e w4 ⟨v4, rfl, g4⟩
  rw [na3.val] at g4 ⊢
  go_wp2_with fail
  refine (from_any _ _ Hmod.out).mono ?_
  rintro e w5 ⟨v5, rfl, g5⟩
  go_wp2_with fail
  go_ret3
  have h1 := g4.after (hb2.trans (hb3.mono hb2.size))
  exact ⟨_, _, rfl, h1.later g5.below, g5.after h1.below, Apart.of_lt g4 g5 (Nat.le_refl _)⟩

theorem limbs_top {b n : Nat} (hn : (limbs b).length = n + 1) : ∃ t, (limbs b)[n]? = some t ∧ 0 < t ∧ t < 4294967296 := by
  obtain ⟨t, ht⟩ := get_some (l := limbs b) (k := n) (by omega)
  refine ⟨t, ht, ?_, (limbs_lim b).get ht⟩
  rcases Nat.eq_zero_or_pos t with h | h
  · exfalso
    subst h
    have h1 := val_take_drop (limbs b) n (by omega)
    have h2 : (limbs b).drop n = [0] := by
      have := drop_pred (l := limbs b) (k := n + 1) (by omega) ht
      rw [show n + 1 - 1 = n by omega] at this
      rw [this, List.drop_eq_nil_of_le (by omega)]
    rw [h2, val_limbs] at h1
    have h3 := val_lo_lt (limbs_lim b) n (by omega)
    have h4 := (limbs_length_le b n).2 (by rw [h1]; simp; exact h3)
    omega
  · exact h

theorem val_split_top {l : List Nat} {n t : Nat} (hl : l.length = n + 1) (ht : l[n]? = some t) : val l = val (l.take n) + 4294967296 ^ n * t := by
  have h2 : l.drop n = [t] := by
    have := drop_pred (l := l) (k := n + 1) (by omega) ht
    rw [show n + 1 - 1 = n by omega] at this
    rw [this, List.drop_eq_nil_of_le (by omega)]
  rw [val_take_drop l n (by omega), h2]
  simp
theorem norm_top {b n k t : Nat} (hn : (limbs b).length = n + 1) (ht : (limbs b)[n]? = some t) (hk : k < 32) (hM : t * 2 ^ k < 4294967296) (hM2 : 2147483648 ≤ t * 2 ^ k) :
    2 ^ k * b < 4294967296 ^ (n + 1) ∧ 4294967296 ^ n * 2147483648 ≤ 2 ^ k * b := by
  have h1 := val_split_top hn ht
  rw [val_limbs] at h1
  have h2 := val_lo_lt (limbs_lim b) n (by omega)
  obtain ⟨B, hB⟩ : ∃ B, B = 4294967296 ^ n := ⟨_, rfl⟩
  obtain ⟨p, hp⟩ : ∃ p, p = 2 ^ k := ⟨_, rfl⟩
  have hpq : p * 2 ^ (32 - k) = 4294967296 := by rw [hp, ← Nat.pow_add, show k + (32 - k) = 32 by omega]
  have hpp : 0 < p := by rw [hp]; exact Nat.pow_pos (by decide)
  rw [Nat.pow_succ, ← hB, ← hp]
  rw [← hB] at h1 h2
  rw [← hp] at hM hM2
  have ht1 : (t + 1) * p ≤ 4294967296 := by
    have h3 : t * p < 2 ^ (32 - k) * p := by rw [Nat.mul_comm (2 ^ (32 - k)), hpq]; exact hM
    have h4 := Nat.lt_of_mul_lt_mul_right h3
    have h5 : (t + 1) * p ≤ 2 ^ (32 - k) * p := Nat.mul_le_mul_right _ h4
    rw [Nat.mul_comm (2 ^ (32 - k)), hpq] at h5
    exact h5
  constructor
  · have h6 : b < B * (t + 1) := by rw [Nat.mul_add]; omega
    have h7 : p * b < p * (B * (t + 1)) := Nat.mul_lt_mul_of_pos_left h6 hpp
    have h8 : p * (B * (t + 1)) = B * ((t + 1) * p) := by rw [Nat.mul_left_comm, Nat.mul_comm p]
    have h9 : B * ((t + 1) * p) ≤ B * 4294967296 := Nat.mul_le_mul_left _ ht1
    omega
  · have h6 : p * (B * t) ≤ p * b := Nat.mul_le_mul_left _ (by omega)
    have h8 : p * (B * t) = B * (t * p) := by rw [Nat.mul_left_comm, Nat.mul_comm p]
    have h9 : B * 2147483648 ≤ B * (t * p) := Nat.mul_le_mul_left _ hM2
    omega
theorem top_half {s : List Nat} {n : Nat} (hl : Lim s) (hs : s.length = n + 1) (h : 4294967296 ^ n * 2147483648 ≤ val s) : ∃ x, s[n]? = some x ∧ 2147483648 ≤ x := by
  obtain ⟨x, hx⟩ := get_some (l := s) (k := n) (by omega)
  refine ⟨x, hx, ?_⟩
  have h1 := val_split_top hs hx
  have h2 := val_lo_lt hl n (by omega)
  have h3 : 4294967296 ^ n * 2147483648 < 4294967296 ^ n * (x + 1) := by rw [Nat.mul_add]; omega
  have h4 := Nat.lt_of_mul_lt_mul_left h3
  omega
theorem val_take_low {s : List Nat} {n : Nat} (hs : n ≤ s.length) (h : val s < 4294967296 ^ n) : val (s.take n) = val s := by
  have h1 := val_take_drop s n hs
  have h2 : val (s.drop n) = 0 := by
    rcases Nat.eq_zero_or_pos (val (s.drop n)) with h0 | h0
    · exact h0
    · have : 4294967296 ^ n * 1 ≤ 4294967296 ^ n * val (s.drop n) := Nat.mul_le_mul_left _ h0
      omega
  rw [h1, h2]; simp

theorem splice_splice {r d d' : List Nat} {i : Nat} (h : i + d.length ≤ r.length) (hd : d'.length = d.length) : splice (splice r i d) i d' = splice r i d' := by
  have h1 : (splice r i d).take i = r.take i := by
    unfold splice
    rw [List.take_append_of_le_length (by rw [List.length_take]; omega), List.take_take, Nat.min_self]
  have h2 : (splice r i d).drop (i + d'.length) = r.drop (i + d'.length) := by
    rw [← List.drop_drop, splice_drop h, hd, List.drop_left, ← hd]
  unfold splice at *
  rw [h1, h2]
theorem long_step {r d : List Nat} {i N x Q V AA : Nat} (hlen : i + N ≤ r.length) (hd : d.length = N) (hU : val (r.drop i) < 4294967296 ^ N) (he : val (r.drop i) = x * V + val d) (hdV : val d < V)
    (hA : AA = (4294967296 ^ (i + 1) * Q) * V + val r) : AA = (4294967296 ^ i * (x + 4294967296 * Q)) * V + val (splice r i d) ∧ val ((splice r i d).drop i) < V := by
  have h1 := val_take_drop r i (by omega)
  have h0 : val (r.drop (i + N)) = 0 := by
    have h2 := val_take_drop (r.drop i) N (by rw [List.length_drop]; omega)
    rw [List.drop_drop] at h2
    rcases Nat.eq_zero_or_pos (val (r.drop (i + N))) with h | h
    · exact h
    · have : 4294967296 ^ N * 1 ≤ 4294967296 ^ N * val (r.drop (i + N)) := Nat.mul_le_mul_left _ h
      omega
  subst hd
  rw [splice_val hlen, splice_drop hlen, val_append, h0, Nat.mul_zero, Nat.add_zero]
  refine ⟨?_, hdV⟩
  rw [hA, h1, he, Nat.mul_add _ x, Nat.add_mul, Nat.mul_add _ (x * V), ← Nat.mul_assoc _ x V, pow_succ', Nat.mul_assoc (4294967296 ^ i) 4294967296 Q]
  omega
theorem quo_fair {U V x vd : Nat} (hV : 0 < V) (hx : U / V ≤ x) (he : U = vd + x * V) : vd < V := by
  have h1 : x ≤ U / V := by rw [Nat.le_div_iff_mul_le hV]; omega
  have h2 : x = U / V := Nat.le_antisymm h1 hx
  have h3 := Nat.div_add_mod U V
  have h4 := Nat.mod_lt U hV
  rw [← h2, Nat.mul_comm] at h3
  omega
theorem quo_much {U V x vd vd' C Bn : Nat} (hx : (x - 1) * V ≤ U) (he : U + Bn = vd + x * V) (hvd : vd < Bn) (hVB : V < Bn) (hb : vd + V = vd' + Bn * C) (hd' : vd' < Bn) : 1 ≤ x ∧ U = (x - 1) * V + vd' ∧ vd' < V := by
  have hx1 : 1 ≤ x := by
    rcases Nat.eq_zero_or_pos x with h | h
    · subst h; omega
    · exact h
  obtain ⟨y, rfl⟩ : ∃ y, x = y + 1 := ⟨x - 1, by omega⟩
  rw [Nat.add_sub_cancel] at hx ⊢
  rw [Nat.add_mul, Nat.one_mul] at he
  have hC : C = 1 := by
    rcases Nat.lt_trichotomy C 1 with h | h | h
    · have h0 : C = 0 := by omega
      subst h0; omega
    · exact h
    · have : Bn * 2 ≤ Bn * C := Nat.mul_le_mul_left _ h
      omega
  subst hC
  omega

theorem part_arg {e : TypeId} {base : Nat} {w : World} {g N c i k : Nat} {p : List Nat} (hp : Inp e encU base w g N c p) (h : i + k ≤ N) (hc : N ≤ c) : Arg encU w (.slice (some ⟨g, i, none⟩) k (c - i)) ((p.drop i).take k) := by
  have hl := hp.len
  refine Arg.mk_ (by rw [List.length_take, List.length_drop]; omega) (by omega) fun _ => ⟨g, i, rfl, fun y x hy => hp.cell (j := i + y) ?_⟩
  rw [List.getElem?_take] at hy
  split at hy
  · rw [List.getElem?_drop] at hy; exact hy
  · cases hy
theorem cells_grown {α : Type} {enc : α → Value} {w w' : World} {A o g : Nat} {l : List α} (h : Cells enc w (some ⟨A, o, none⟩) l) (hg : w.grownBy w' (some g)) (hne : A ≠ g) : Cells enc w' (some ⟨A, o, none⟩) l := fun h0 => by
  obtain ⟨b, o', e, hx⟩ := h h0
  cases e
  exact ⟨A, o, rfl, fun j x hj => hg.cell (hx j x hj) (by simpa using hne)⟩
theorem inp_setCellV {e : TypeId} {base : Nat} {w : World} {g G N c : Nat} {p : List Nat} (hp : Inp e encU base w g N c p) (hne : g ≠ G) (v : Value) (i : Nat) : Inp e encU base (w.setCell ⟨G, i, none⟩ v) g N c p :=
  inp_grown hp (row := some G) ⟨rfl, rfl, rfl, by simp, fun k _ h => Below.heap_setCell _ _ _ k (fun e => h (by rw [e]))⟩ (by simpa using fun e => hne e.symm)
theorem inp_setCell {e : TypeId} {base : Nat} {w : World} {g G N c : Nat} {p : List Nat} (hp : Inp e encU base w g N c p) (hne : g ≠ G) (x i : Nat) : Inp e encU base (w.setCell ⟨G, i, none⟩ (encU x)) g N c p := inp_setCellV hp hne _ i
theorem cells_setCell {α : Type} {enc : α → Value} {w : World} {A o G : Nat} {l : List α} (h : Cells enc w (some ⟨A, o, none⟩) l) (hne : A ≠ G) (i : Nat) (v : Value) : Cells enc (w.setCell ⟨G, i, none⟩ v) (some ⟨A, o, none⟩) l :=
  cells_grown h (g := G) ⟨rfl, rfl, rfl, by simp, fun k _ h => Below.heap_setCell _ _ _ k (fun e => h (by rw [e]))⟩ hne
theorem drop_low {p : List Nat} {i N V : Nat} (hp : Lim p) (hi : i < p.length) (h : val (p.drop (i + 1)) < V) (hV : V < 4294967296 ^ N) : val (p.drop i) < 4294967296 * V ∧ val (p.drop i) < 4294967296 ^ (N + 1) := by
  obtain ⟨y, hy⟩ := get_some hi
  have h1 : p.drop i = y :: p.drop (i + 1) := drop_pred (k := i + 1) (by omega) hy
  have hyb := hp.get hy
  have h2 : val (p.drop i) < 4294967296 * V := by rw [h1, val_cons]; exact part_lt hyb h
  refine ⟨h2, ?_⟩
  rw [pow_succ']
  omega

set_option maxHeartbeats 4000000 in
set_option maxRecDepth 100000 in
theorem div_long (w : World) (va vb : Value) (la lb : List Nat) (a b n : Nat) (ha : Num w va la a) (hb : Num w vb lb b) (hab : b ≤ a) (hn : (limbs b).length = n + 2) :
    Calls Tryd.prog 72 #[va, vb] w fun e w' => ∃ vq vr, e = .returned (.tuple #[vq, vr, .int .i64 0]) ∧ Gives 52 encU w w' vq (limbs (a / b)) ∧ Gives 52 encU w w' vr (limbs (a % b)) ∧ Apart vq vr := by
  have hc1 : (0 : Int) ≤ cmpN a b := by
    rcases Nat.lt_or_ge b a with h' | h'
    · rw [cmpN_gt h']; decide
    · rw [cmpN_eq (by omega)]; decide
  have hb0 : 0 < b := by
    rcases Nat.eq_zero_or_pos b with h | h
    · rw [h, limbs_zero] at hn; cases hn
    · exact h
  obtain ⟨t, ht, ht0, ht32⟩ := limbs_top (b := b) (n := n + 1) hn
  have hne0 : ((n : Int) + 2 == 0) = false := beq_eq_false_iff_ne.2 (by omega)
  have hne1 : ((n : Int) + 2 == 1) = false := beq_eq_false_iff_ne.2 (by omega)
  go_enter Tryd.func72, Tryd.ntmps72
  go_wp2_with fail
  refine (trim_any _ _ _ ha.arg ha.lim (by have := ha.len; omega)).mono ?_
  rintro e w1 ⟨v1, rfl, g1⟩
  go_wp2_with fail
  refine (trim_any _ _ _ (hb.arg.below g1.below) hb.lim (by have := hb.len; omega)).mono ?_
  rintro e w2 ⟨v2, rfl, g2⟩
  rw [hb.val] at g2
  rw [ha.val] at g1
  have na := (g1.later g2.below).num (Nat.le_trans (sz_num ha) ha.len)
  have nb := g2.num (Nat.le_trans (sz_num hb) hb.len)
  have hb2 := g1.below.trans (g2.below.mono g1.below.size)
  clear g1 g2 ha hb
  obtain ⟨A, c, rfl, hc, hr⟩ := nb.arg.open_
  obtain ⟨b1, o1, rfl, hcell⟩ := hr.at_ ht
  have hnl := nb.len
  rw [hn] at hnl hc
  have Hl1 := Lib.hid hn
  have Ht := Lib.hid ht
  clear hn ht hr
  rw [Hl1.out] at nb ⊢
  go_wp2_with fail
  refine (cmp_any _ _ _ _ _ _ _ na nb).mono ?_
  rintro e w3 ⟨rfl, hb3⟩
  have na3 := na.below hb3
  have nb3 := nb.below hb3
  have hcell3 := (hb3.cell (World.block_lt_of_cell? w2 _ hcell)).trans hcell
  have HB := Lib.hid (hb2.trans (hb3.mono hb2.size))
  clear hcell na nb hb2 hb3
  generalize cmpN a b = cc at *
  go_wp2_with fail
  go_loopw [9] (fun nv wr => ∃ k : Nat, nv = .int .u64 k ∧ k < 32 ∧ t * 2 ^ k < 4294967296 ∧ wr = w3) (fun nv _ => 32 - (intOf nv).toNat)
  case atStart => exact ⟨0, rfl, by omega, by simpa using ht32, rfl⟩
  case round =>
    obtain ⟨k, rfl, hk, hM, rfl⟩ := hrel
    obtain ⟨M, hMe⟩ : ∃ M, M = t * 2 ^ k := ⟨_, rfl⟩
    rw [← hMe] at hM
    have hw : IntKind.u32.wrap ((t : Int) * 2 ^ k) = (M : Int) := by
      have e : ((t : Int) * 2 ^ k) = (M : Int) := by rw [hMe]; simp
      rw [e]; exact IntWalk.u32_in _ (by omega)
    obtain ⟨z, hz⟩ : ∃ z, z = M / 2147483648 := ⟨_, rfl⟩
    have hzi : (M : Int) / 2147483648 = (z : Int) := by rw [hz]; simp
    have HM := Lib.hid hMe
    by_cases hz0 : z = 0
    · have Hz := Lib.hid hz
      clear hz
      have hk31 : k < 31 ∧ t * 2 ^ (k + 1) < 4294967296 := by
        have h1 : M < 2147483648 := by omega
        have h2 : t * 2 ^ (k + 1) = 2 * M := by rw [hMe, Nat.pow_succ, ← Nat.mul_assoc, Nat.mul_comm]
        refine ⟨?_, by omega⟩
        have h3 : 1 * 2 ^ k ≤ t * 2 ^ k := Nat.mul_le_mul_right _ ht0
        rw [← hMe] at h3
        exact (Nat.pow_lt_pow_iff_right (a := 2) (by decide)).1 (show 2 ^ k < 2 ^ 31 by omega)
      have HK := Lib.hid hk31.2
      have hk31 := hk31.1
      clear hMe
      subst hz0
      go_wp2_with fail
      go_roundw
      case rel => exact ⟨k + 1, by go_num, by omega, HK.out, trivial⟩
      case measure => simp [intOf]; omega
    · have Hz := Lib.hid hz
      have hzb : ((z : Int) == 0) = false := beq_eq_false_iff_ne.2 (by omega)
      clear hz hMe
      go_upto_region 12 with fail
      go_cut [10, 11] from 57 to 65 (fun uv vv wx => ∃ (g cu A cv : Nat) (r s : List Nat), uv = .slice (some ⟨g, 0, none⟩) r.length cu ∧ vv = .slice (some ⟨A, 0, none⟩) (n + 2) cv ∧ n + 2 ≤ cv ∧ s.length = n + 2 ∧ r.length ≤ cu ∧
        Inp 52 encU w.heap.size wx g r.length cu r ∧ Hid (Lim r ∧ val r = 2 ^ k * a ∧ r.length = (limbs a).length + 1) ∧ Cells encU wx (some ⟨A, 0, none⟩) s ∧ Hid (Lim s ∧ val s = 2 ^ k * b) ∧ A ≠ g ∧ Below w.heap.size w wx)
      case first =>
        have na4 := na3.drew
        have nb4 := nb3.drew
        go_region_with (first
          | (refine (up_any _ v1 (limbs a) k ?_ na3.lim ?_ hk).mono ?_; exact na4.arg; exact Nat.le_trans na3.len (by decide); rintro e w4 ⟨v4, r, rfl, g4, p1, p2, p3⟩)
          | (refine (up_any _ _ (limbs b) k ?_ nb3.lim ?_ hk).mono ?_; exact nb4.arg.below g4.below; exact Nat.le_trans nb3.len (by decide); rintro e w5 ⟨v5, s, rfl, g5, q1, q2, q3⟩; obtain ⟨ga, ca, rfl, h8, hin5⟩ := gives_shape (n := n + 2) g5 (by rw [q2, Hl1.out]); have h9 : n + 2 ≤ ca := by omega))
        all_goals (go_wp2_with fail; go_meet)
        case rel =>
          obtain ⟨gu, cu, rfl, hcu, hin4⟩ := gives_shape (n := (limbs a).length) g4 p2
          have hM31 : 2147483648 ≤ t * 2 ^ k := by rw [← HM.out]; have := Hz.out; omega
          have hnt := norm_top Hl1.out Ht.out hk (by rw [← HM.out]; exact hM) hM31
          have hsz := HB.out.size
          have hB4 : Below w.heap.size w w4 := (show Below w.heap.size w wr.drew from ⟨HB.out.os, HB.out.tape, HB.out.output, HB.out.size, HB.out.block⟩).trans (g4.below.mono hsz)
          have hs3 : s.length = n + 3 := by rw [q2, Hl1.out]
          refine ⟨gu, cu, ga, ca, r, s.take (n + 2), by simp [p2], by simp, h9, by rw [List.length_take]; omega, by rw [p2]; exact hcu, ?_, ⟨p1, by rw [p3, na3.val], p2⟩, ?_, ⟨q1.take _, by rw [val_take_low (by omega) (by rw [q3, nb3.val]; exact hnt.1), q3, nb3.val]⟩, ?_, ?_⟩
          · rw [p2]; exact (show Inp 52 encU w.heap.size w4 gu ((limbs a).length + 1) cu r from ownsRow_base hin4.row hsz).below g5.below
          · exact Cells.take (fun _ => ⟨ga, 0, rfl, fun j x hj => by rw [Nat.zero_add]; exact hin5.cell hj⟩) _
          · have h1 := hin5.base_le; have h2 := hin4.lt; omega
          · exact hB4.trans (g5.below.mono hB4.size)
      case rest =>
        obtain ⟨g, cu, A, cv, r, s, rfl, rfl, hcv, hsl, hcu, hin, hR, hcs, hS, hAg, hbw⟩ := hcut
        have hna := na3.len
        have hnn := Lib.hid (lt_sz a)
        obtain ⟨m, hm, hm1, hm2⟩ : ∃ m, r.length = m + (n + 2) ∧ 1 ≤ m ∧ m + (n + 2) ≤ 100001 := by
          have h1 := hR.out.2.2
          have h2 : n + 2 ≤ (limbs a).length := by have := sz_mono hab; unfold sz at this; rw [Hl1.out] at this; exact this
          exact ⟨r.length - (n + 2), by omega, by omega, by omega⟩
        rw [hm] at hin hcu ⊢
        have HR := Lib.hid (And.intro hR.out hm)
        have hmk := run_make_row' (P := Tryd.prog) 22 52 (.int .u32 0) 4 Tryd.underlying22 infoU rfl .i64 .i64 m (by omega) (by omega)
        have hM31 : 2147483648 ≤ t * 2 ^ k := by rw [← HM.out]; have := Hz.out; omega
        have hnt := norm_top Hl1.out Ht.out hk (by rw [← HM.out]; exact hM) hM31
        obtain ⟨V, hV⟩ : ∃ V, V = val s := ⟨_, rfl⟩
        obtain ⟨AA, hAA⟩ : ∃ AA, AA = val r := ⟨_, rfl⟩
        have hVb : V = 2 ^ k * b := hV.trans hS.out.2
        obtain ⟨sx, hsx, hsx31⟩ := top_half (n := n + 1) hS.out.1 hsl (by rw [hS.out.2]; exact hnt.2)
        have hVlt : V < 4294967296 ^ (n + 2) := by rw [hVb]; exact hnt.1
        have hVp : 0 < V := by
          rw [hVb]
          exact Nat.mul_pos (Nat.pow_pos (by decide)) hb0
        have hdrop : val (r.drop m) < V := by
          have h1 := val_take_drop r m (by omega)
          have h2 := lt_sz a
          have h3 : sz a = m + (n + 1) := by have := hR.out.2.2; unfold sz; omega
          rw [h3, Nat.pow_add] at h2
          have h4 : 2 ^ k * a < 2147483648 * (4294967296 ^ m * 4294967296 ^ (n + 1)) := by
            have hk31 : (2 : Nat) ^ k ≤ 2 ^ 31 := Nat.pow_le_pow_right (by decide) (by omega)
            have e1 : (2 : Nat) ^ k * a ≤ 2 ^ 31 * a := Nat.mul_le_mul_right _ hk31
            omega
          have h5 : 4294967296 ^ m * val (r.drop m) < 4294967296 ^ m * (4294967296 ^ (n + 1) * 2147483648) := by
            have e2 : 2147483648 * (4294967296 ^ m * 4294967296 ^ (n + 1)) = 4294967296 ^ m * (4294967296 ^ (n + 1) * 2147483648) := by
              rw [Nat.mul_comm 2147483648, Nat.mul_assoc]
            have e3 := hR.out.2.1
            omega
          have h6 := Nat.lt_of_mul_lt_mul_left h5
          have h7 := hnt.2
          omega
        have HV := Lib.hid (And.intro hVb (And.intro hVlt (And.intro hVp (And.intro hsx hsx31))))
        have HVs := Lib.hid hV
        have HA := Lib.hid (show AA = 2 ^ k * a from hAA.trans hR.out.2.1)
        have Hst := Lib.hid (show AA = (4294967296 ^ m * val ((List.replicate m 0).drop m)) * V + val r ∧ val (r.drop m) < V from ⟨by rw [List.drop_eq_nil_of_le (by simp)]; simp [hAA], hdrop⟩)
        have hstart : Inp 52 encU w.heap.size (wc.alloc (.cells (madeCells #[.int .u32 0] m) 52)) wc.heap.size m m (List.replicate m 0) := ownsRow_base (Inp.made wc 0 (by omega) rfl) hbw.size
        have hin0 := hin.alloc (.cells (madeCells #[.int .u32 0] m) 52)
        have hcs0 := hcs.alloc (.cells (madeCells #[.int .u32 0] m) 52)
        have hbw0 := hbw.alloc hbw.size (.cells (madeCells #[.int .u32 0] m) 52)
        have hgG : g ≠ wc.heap.size := by have := hin.lt; omega
        have hAG : A ≠ wc.heap.size := by
          obtain ⟨_, _, e, h⟩ := hcs.at_ hsx
          cases e
          have h9 : A < wc.heap.size := World.block_lt_of_cell? wc _ h
          omega
        obtain ⟨G, hG⟩ : ∃ G, G = wc.heap.size := ⟨_, rfl⟩
        rw [← hG] at hstart hgG hAG
        clear hR hm hna hnt hM31 hV hAA hVb hsx hsx31 hVlt hVp hdrop hw hzi hzb hz0 hM hcell3 hcs hin hbw
        go_wp2_with fail
        rw [← hG]
        clear hmk hG
        go_loopw [12] (fun iv wq => ∃ (j : Nat) (p q : List Nat), j ≤ m ∧ iv = .int .i64 ((j : Int) - 1) ∧ Inp 52 encU w.heap.size wq g (m + (n + 2)) cu p ∧ Inp 52 encU w.heap.size wq G m m q ∧ Cells encU wq (some ⟨A, 0, none⟩) s ∧
          Hid ((Lim p ∧ Lim q) ∧ AA = (4294967296 ^ j * val (q.drop j)) * V + val p ∧ val (p.drop j) < V) ∧ Below w.heap.size w wq) (fun iv _ => (intOf iv + 1).toNat)
        case atStart => exact ⟨m, r, List.replicate m 0, Nat.le_refl _, rfl, hin0, hstart, hcs0, ⟨⟨HR.out.1.1, Lim.zeros _⟩, Hst.out⟩, hbw0⟩
        case round =>
          obtain ⟨j, p, q, hj, rfl, hp, hq, hs4, HI, hbq⟩ := hrel
          clear hin0 hstart hcs0 hbw0
          rcases Nat.eq_zero_or_pos j with h0 | h0
          · subst h0
            have hk32 : (2 : Nat) ^ k < 2 ^ 32 := Nat.pow_lt_pow_right (by decide) hk
            have hkp : 0 < (2 : Nat) ^ k := Nat.pow_pos (by decide)
            obtain ⟨pk, hpk⟩ : ∃ pk, pk = (2 : Nat) ^ k := ⟨_, rfl⟩
            rw [← hpk] at hk32 hkp
            have hwk : IntKind.u64.wrap (2 ^ k) = (pk : Int) := by
              have e : ((2 : Int) ^ k) = (pk : Int) := by rw [hpk]; simp
              rw [e]; exact IntWalk.u64_in _ (by omega)
            have hfin := unscale (a := a) (b := b) (s := pk) (Q := val q) (R := val p) hkp (by
              have h1 := HI.out.2.1
              rw [HA.out, HV.out.1, ← hpk] at h1
              simp only [List.drop_zero, Nat.pow_zero, Nat.one_mul] at h1
              rw [Nat.mul_comm a, Nat.mul_comm b]; exact h1) (by
              have h1 := HI.out.2.2
              rw [HV.out.1, ← hpk] at h1
              rw [Nat.mul_comm b]; simpa using h1)
            have HF := Lib.hid hfin
            have Hpk := Lib.hid hpk
            clear hfin hpk
            have hpl := hp.len
            have hql := hq.len
            go_wp2_with fail
            refine (short_any _ _ p pk hp.arg HI.out.1.1 (by omega) (by omega) hkp).mono ?_
            rintro e w5 ⟨v5, rfl, g5⟩
            rw [HF.out.2] at g5
            go_wp2_with fail
            refine (trim_any _ _ q (hq.arg.below g5.below) HI.out.1.2 (by omega)).mono ?_
            rintro e w6 ⟨v6, rfl, g6⟩
            rw [HF.out.1] at g6
            go_wp2_with fail
            go_ret3
            have hr5 := g5.after hbq
            exact ⟨_, _, rfl, g6.after hr5.below, hr5.later g6.below, Apart.of_lt g5 g6 (Nat.le_refl _)⟩
          · obtain ⟨i, rfl⟩ : ∃ i, j = i + 1 := ⟨j - 1, by omega⟩
            have hii : ((i + 1 : Nat) : Int) - 1 = (i : Int) := by omega
            rw [hii]
            clear hii
            have hpl := hp.len
            have hql := hq.len
            obtain ⟨hlow, hlow2⟩ := drop_low HI.out.1.1 (by omega) HI.out.2.2 HV.out.2.1
            have hPl : ((p.drop i).take (n + 3)).length = s.length + 1 := by rw [List.length_take, List.length_drop]; omega
            have hPv : val ((p.drop i).take (n + 3)) = val (p.drop i) := val_take_low (by rw [List.length_drop]; omega) hlow2
            have hgs := fun (h : Arg encU _ _ _) => guess_any wr (.slice (some ⟨g, i, none⟩) (n + 3) (cu - i)) (.slice (some ⟨A, 0, none⟩) (n + 2) cv) ((p.drop i).take (n + 3)) s (part_arg hp (by omega) hcu) h ((HI.out.1.1.drop _).take _) hS.out.1 (by omega) hPl (by omega) (by rw [hsl]; exact HV.out.2.2.2.1) HV.out.2.2.2.2 (by rw [hPv, ← HVs.out]; exact hlow)
            have HP := Lib.hid (And.intro hPl (And.intro hPv (And.intro hlow hlow2)))
            have Hgs := Lib.hid (hgs (Arg.mk_ hsl.symm hcv hs4))
            clear hPl hPv hlow hlow2 hgs
            go_wp2_with fail
            rw [show i + (n + 2) + 1 - i = n + 3 by omega]
            refine Hgs.out.mono ?_
            rintro e w4 ⟨x, rfl, hx32, hx1, hx2, hb4⟩
            rw [HP.out.2.1, ← HVs.out] at hx1 hx2
            have HX := Lib.hid (And.intro hx1 hx2)
            clear hx1 hx2 Hgs
            have hp4 := hp.below hb4
            have hq4 := hq.below hb4
            have hs5 := hs4.below hb4
            have hbq4 := hbq.trans (hb4.mono hbq.size)
            clear hp hq hs4 hbq hb4
            have htk := take_any w4 w.heap.size g (m + (n + 2)) cu i (cu - i) p (.slice (some ⟨A, 0, none⟩) (n + 2) cv) s x hp4 HI.out.1.1 (by omega) (Arg.mk_ hsl.symm hcv hs5) hS.out.1 hx32 (by omega) (by omega)
            rw [hsl, ← HVs.out] at htk
            have Htk := Lib.hid htk
            clear htk
            go_wp2_with fail
            refine Htk.out.mono ?_
            rintro e w5 ⟨d, bw, rfl, hbw1, hdl, hdlim, hde, hp5, hg5⟩
            clear Htk
            rw [HP.out.2.1] at hde
            have hq5 := inp_grown hq4 hg5 (by simpa using hgG)
            have hs6 := cells_grown hs5 hg5 hAg
            have hgb := hp4.base_le
            have hbq5 := hbq4.grown hg5 hbq4.size (fun k ek => by cases ek; exact hgb)
            clear hq4 hs5 hbq4 hp4 hg5
            obtain ⟨tq, htq⟩ := get_some (l := q) (k := i) (by omega)
            rcases (show bw = 0 ∨ bw = 1 by omega) with rfl | rfl
            · rw [Nat.mul_zero, Nat.add_zero] at hde
              have hfair := quo_fair HV.out.2.2.1 HX.out.1 hde
              have hst := long_step (N := n + 3) (by omega) hdl HP.out.2.2.2 (by rw [hde, Nat.add_comm]) hfair HI.out.2.1
              have HS := Lib.hid hst
              clear hst hfair hde
              have hcq := hq5.cell htq
              have hfq := hq5.free i
              clear htq
              go_wp2_with fail
              go_roundw
              case rel =>
                (repeat apply Exists.intro)
                refine ⟨?_, rfl⟩
                refine ⟨i, splice p i d, q.set i x, by omega, by go_num, inp_setCell hp5 hgG x i, hq5.set i x, cells_setCell hs6 hAG _ _, ⟨⟨splice_lim HI.out.1.1 hdlim, HI.out.1.2.set _ _ hx32⟩, ?_⟩, ?_⟩
                · rw [show (q.set i x).drop i = x :: q.drop (i + 1) from drop_set_pred (k := i + 1) (by omega) (by omega), val_cons]
                  exact HS.out
                · exact hbq5.setCell (p := ⟨G, i, none⟩) hq5.base_le _
              case measure => simp [intOf]
            · have hbk := back_any w5 w.heap.size g (m + (n + 2)) cu i (cu - i) (splice p i d) (.slice (some ⟨A, 0, none⟩) (n + 2) cv) s hp5 (splice_lim HI.out.1.1 hdlim) (by omega) (Arg.mk_ hsl.symm hcv hs6) hS.out.1 (by omega) (by omega)
              rw [hsl, ← HVs.out] at hbk
              have Hbk := Lib.hid hbk
              clear hbk
              have Htq := Lib.hid htq
              clear htq
              go_wp2_with fail
              refine Hbk.out.mono ?_
              rintro e w6 ⟨d', C, rfl, hdl', hdlim', hde', hp6, hg6⟩
              clear Hbk
              have hds : ((splice p i d).drop i).take (n + 2 + 1) = d := by
                rw [splice_drop (by omega), List.take_append_of_le_length (by omega), List.take_of_length_le (by omega)]
              rw [hds] at hde'
              rw [splice_splice (by omega) (by omega)] at hp6
              have hvd := val_lt hdlim
              have hvd' := val_lt hdlim'
              rw [hdl] at hvd
              rw [hdl'] at hvd'
              rw [Nat.mul_one] at hde
              have hmuch := quo_much HX.out.2 hde hvd (by rw [pow_succ']; have := HV.out.2.1; omega) hde' hvd'
              have hx1 := hmuch.1
              have hst := long_step (N := n + 3) (by omega) hdl' HP.out.2.2.2 hmuch.2.1 hmuch.2.2 HI.out.2.1
              have HS := Lib.hid hst
              clear hst hmuch hde hde' hvd hvd' hds
              have hq6 := inp_grown hq5 hg6 (by simpa using hgG)
              have hs7 := cells_grown hs6 hg6 hAg
              have hgb := hp5.base_le
              have hbq6 := hbq5.grown hg6 hbq5.size (fun k ek => by cases ek; exact hgb)
              have hcq := hq6.cell Htq.out
              have hfq := hq6.free i
              clear hq5 hs6 hbq5 hp5 hg6
              go_wp2_with fail
              go_roundw
              case rel =>
                (repeat apply Exists.intro)
                refine ⟨?_, rfl⟩
                refine ⟨i, splice p i d', q.set i (x - 1), by omega, by go_num, ?_, ?_, cells_setCell hs7 hAG _ _, ⟨⟨splice_lim HI.out.1.1 hdlim', HI.out.1.2.set _ _ (by omega)⟩, ?_⟩, ?_⟩
                · exact inp_setCellV hp6 hgG _ i
                · have := hq6.set i (x - 1)
                  rw [show encU (x - 1) = .int .u32 ((x : Int) - 1) by go_num] at this
                  exact this
                · rw [show (q.set i (x - 1)).drop i = (x - 1) :: q.drop (i + 1) from drop_set_pred (k := i + 1) (by omega) (by omega), val_cons]
                  exact HS.out
                · exact hbq6.setCell (p := ⟨G, i, none⟩) hq6.base_le _
              case measure => simp [intOf]

/-- nat.Div, of two rows that are numbers, the second above 0. -/
theorem div_any (w : World) (va vb : Value) (la lb : List Nat) (a b : Nat) (ha : Num w va la a) (hb : Num w vb lb b) (hb0 : 0 < b) :
    Calls Tryd.prog 72 #[va, vb] w fun e w' => ∃ vq vr, e = .returned (.tuple #[vq, vr, .int .i64 0]) ∧ Gives 52 encU w w' vq (limbs (a / b)) ∧ Gives 52 encU w w' vr (limbs (a % b)) ∧ (Apart vq vr ∨ Apart vr vq) := by
  rcases Nat.lt_or_ge a b with h | h
  · refine (div_low w va vb la lb a b ha hb h).mono ?_
    rintro e w' ⟨vr, rfl, g⟩
    refine ⟨_, _, rfl, ?_, ?_, .inl (Apart.nil_ _ _ _)⟩
    · rw [Nat.div_eq_of_lt h, limbs_zero]; exact ⟨World.ownsRow_nil _ _ _ _, g.below⟩
    · rw [Nat.mod_eq_of_lt h]; exact g
  · obtain ⟨n, hn⟩ : ∃ n, n = (limbs b).length := ⟨_, rfl⟩
    rcases (show n = 0 ∨ n = 1 ∨ 2 ≤ n by omega) with h0 | h0 | h0
    · exfalso
      have := (limbs_length_le b 0).1 (by omega)
      simp at this
      omega
    · refine (div_one w va vb la lb a b ha hb h hb0 ?_).mono ?_
      · have := (limbs_length_le b 1).1 (by omega)
        simpa using this
      · rintro e w' ⟨vq, vr, rfl, g1, g2, g3⟩
        exact ⟨vq, vr, rfl, g1, g2, .inr g3⟩
    · refine (div_long w va vb la lb a b (n - 2) ha hb h (by omega)).mono ?_
      rintro e w' ⟨vq, vr, rfl, g1, g2, g3⟩
      exact ⟨vq, vr, rfl, g1, g2, .inl g3⟩
end Go.Proofs.YtmajcjdhhnhmmaaDoor
