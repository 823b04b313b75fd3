import Derived.Test.YtmajcjdhhnhmmaaDoorLong
import Derived.Test.YtmajcjdhhnhmmaaDoorShelf
/- nat.Parse: what it returns. Conditions: a text of at most nine hundred thousand bytes. -/
namespace Go.Proofs.YtmajcjdhhnhmmaaDoor
open Go.RowKit Go.Num Go.Shelf
attribute [local go_sem] Oper.semAt_some u64_mask

def digs : List UInt8 := [48, 49, 50, 51, 52, 53, 54, 55, 56, 57]
theorem digs_iff (c : UInt8) : digs.contains c = isDig c := by
  rw [Bool.eq_iff_iff, isDig_iff]
  simp only [digs, List.contains_cons, List.contains_nil, Bool.or_false, Bool.or_eq_true, beq_iff_eq]
  have h : ∀ d : UInt8, c = d ↔ c.toNat = d.toNat := fun d => ⟨fun h => by rw [h], fun h => UInt8.toNat_inj.1 h⟩
  simp only [h]
  simp
  omega
theorem dropWhile_nil_iff {α : Type} (p : α → Bool) (l : List α) : l.dropWhile p = [] ↔ l.all p = true := by
  induction l with
  | nil => simp
  | cons x l ih =>
    rw [List.dropWhile_cons]
    by_cases h : p x = true
    · simp [h, ih]
    · simp [h]
theorem trimS_nil (l : List UInt8) : Lib.trimS l digs = [] ↔ l.all isDig = true := by
  have e : (fun c => digs.contains c) = isDig := funext digs_iff
  unfold Lib.trimS Lib.trimLeftS Lib.trimRightS
  rw [e]
  constructor
  · intro h
    rw [dropWhile_nil_iff, List.all_reverse] at h
    by_cases h2 : l.all isDig = true
    · exact h2
    · exfalso
      have h3 : (l.reverse.dropWhile isDig) ≠ [] := fun h4 => h2 (by have := (dropWhile_nil_iff isDig l.reverse).1 h4; rwa [List.all_reverse] at this)
      obtain ⟨x, t, hxt⟩ := List.exists_cons_of_ne_nil h3
      have h5 : isDig x = true := by
        rw [hxt] at h
        simp at h
        exact h.1
      have h6 := List.head_dropWhile_not isDig h3
      simp only [hxt, List.head_cons] at h6
      rw [h5] at h6
      cases h6
  · intro h
    have h1 : l.reverse.dropWhile isDig = [] := (dropWhile_nil_iff _ _).2 (by rw [List.all_reverse]; exact h)
    rw [h1]
    rfl

set_option maxHeartbeats 4000000 in
set_option maxRecDepth 100000 in
theorem parse_no (w : World) (l : List UInt8) (h : goodText l = false) (hs : l.length ≤ 900000) :
    Calls Tryd.prog 56 #[.string ⟨l.toArray⟩] w fun e w' => e = .returned (.tuple #[.slice none 0 0, .bool false]) ∧ Below w.heap.size w w' := by
  have htr := Any.strings_Trim_laid Tryd.lays160 (by kernel_rfl) ⟨l.toArray⟩ ⟨#[48, 49, 50, 51, 52, 53, 54, 55, 56, 57]⟩ w (by show l.toArray.size ≤ _; simp; omega) (by decide) (ascii_of_all (by decide))
  have hnil := trimS_nil l
  have hdd : Lib.trimS (ByteArray.mk l.toArray).data.toList (ByteArray.mk #[48, 49, 50, 51, 52, 53, 54, 55, 56, 57]).data.toList = Lib.trimS l digs := by simp [digs]
  rw [hdd] at htr
  generalize Lib.trimS l digs = T at htr hnil
  have Htr := Lib.hid htr
  clear htr hdd
  cases l with
  | nil =>
    go_enter Tryd.func56, Tryd.ntmps56
    go_wp2_with fail
    go_ret2
    exact ⟨rfl, Below.refl _ _⟩
  | cons c t =>
    by_cases hT : T = []
    · subst hT
      have hall := hnil.1 rfl
      have h1 : c = 48 ∧ t ≠ [] := by
        unfold goodText at h
        rw [hall] at h
        simp at h
        exact ⟨h.1, h.2 h.1⟩
      obtain ⟨rfl, ht⟩ := h1
      have ht2 : t.isEmpty = false := by
        cases t with
        | nil => exact absurd rfl ht
        | cons => rfl
      clear hnil hall h
      go_enter Tryd.func56, Tryd.ntmps56
      go_wp2_with fail
      refine Htr.out.mono ?_
      rintro e w1 ⟨rfl, hb⟩
      go_wp2_with fail
      go_ret2
      exact ⟨rfl, hb⟩
    · have hTe : T.isEmpty = false := by
        cases T with
        | nil => exact absurd rfl hT
        | cons => rfl
      clear hnil h
      go_enter Tryd.func56, Tryd.ntmps56
      go_wp2_with fail
      refine Htr.out.mono ?_
      rintro e w1 ⟨rfl, hb⟩
      go_wp2_with fail
      all_goals (go_ret2; exact ⟨rfl, hb⟩)

theorem start_parse (l : List UInt8) : Lim ([] : List Nat) ∧ val [] = tval 0 (l.take 0) := And.intro Lim.nil (by rw [List.take_zero]; rfl)
theorem good_parts {c : UInt8} {t : List UInt8} (h : goodText (c :: t) = true) : (c :: t).all isDig = true ∧ (c = 48 → t = []) := by
  unfold goodText at h
  simp only [List.isEmpty_cons, Bool.not_false, Bool.true_and, Bool.and_eq_true] at h
  refine ⟨h.1, fun e => ?_⟩
  have h2 := h.2
  subst e
  simpa using h2

set_option maxHeartbeats 4000000 in
set_option maxRecDepth 100000 in
theorem parse_yes (w : World) (l : List UInt8) (h : goodText l = true) (hs : l.length ≤ 900000) :
    Calls Tryd.prog 56 #[.string ⟨l.toArray⟩] w fun e w' => ∃ v, e = .returned (.tuple #[v, .bool true]) ∧ Gives 52 encU w w' v (limbs (tval 0 l)) := by
  have htr := Any.strings_Trim_laid Tryd.lays160 (by kernel_rfl) ⟨l.toArray⟩ ⟨#[48, 49, 50, 51, 52, 53, 54, 55, 56, 57]⟩ w (by show l.toArray.size ≤ _; simp; omega) (by decide) (ascii_of_all (by decide))
  have hnil := trimS_nil l
  have hdd : Lib.trimS (ByteArray.mk l.toArray).data.toList (ByteArray.mk #[48, 49, 50, 51, 52, 53, 54, 55, 56, 57]).data.toList = Lib.trimS l digs := by simp [digs]
  rw [hdd] at htr
  cases l with
  | nil => exact absurd h (by decide)
  | cons c t =>
    obtain ⟨hall, hz⟩ := good_parts h
    rw [hnil.2 hall] at htr
    have Htr := Lib.hid htr
    have Hall := Lib.hid hall
    clear htr hdd hnil h hall
    have hc0 : ((({ data := (c :: t).toArray } : ByteArray)[0]'(by show 0 < (c :: t).toArray.size; simp)).toNat : Int) = (c.toNat : Int) := rfl
    have hsz : (({ data := (c :: t).toArray } : ByteArray)).size = (c :: t).length := by show (c :: t).toArray.size = _; simp
    by_cases h48 : c = 48
    · have ht := hz h48
      subst ht
      subst h48
      go_enter Tryd.func56, Tryd.ntmps56
      go_wp2_with fail
      refine Htr.out.mono ?_
      rintro e w1 ⟨rfl, hb⟩
      obtain ⟨l, hl⟩ : ∃ l : List UInt8, l = [48] := ⟨_, rfl⟩
      rw [← hl] at Hall hs
      have H00 := Lib.hid (start_parse l)
      have hS : ∃ S : ByteArray, S = { data := #[48] } ∧ S.size = l.length ∧ (∀ k (hk : k < S.size) (hk' : k < l.length), (S[k]'hk).toNat = (l[k]'hk').toNat) ∧ S.size ≤ 900000 := ⟨{ data := #[48] }, rfl, by subst hl; rfl, fun k hk hk' => by subst hl; obtain rfl : k = 0 := (by simpa using hk'); rfl, by have h9 : ({ data := #[48] } : ByteArray).size = 1 := rfl; omega⟩
      obtain ⟨S, hSe, hSl, hSg, hSb⟩ := hS
      have hS1 : S.size = 1 := by rw [hSl, hl]; rfl
      go_wp2_with fail
      rw [← hSe]
      have HSg := Lib.hid hSg
      have HSe := Lib.hid hSe
      clear hSe hSg
      go_loopw [4, 24] (fun av iv wq => ∃ (k : Nat) (r : List Nat), k ≤ S.size ∧ iv = .int .i64 k ∧ Arg encU wq av r ∧ r.length = k ∧ Hid (Lim r ∧ val r = tval 0 (l.take k)) ∧ Below w.heap.size w wq) (fun _ iv _ => S.size - (intOf iv).toNat)
      case atStart => exact ⟨0, [], by omega, rfl, Arg.nil_ _ _ _ _, rfl, H00, hb⟩
      case round =>
        obtain ⟨k, r, hk, rfl, harg, hrl, HI, hbq⟩ := hrel
        by_cases hlt : k < S.size
        · have hlt' : k < l.length := by omega
          have hdig : isDig (l[k]'hlt') = true := List.all_eq_true.1 Hall.out _ (List.getElem_mem hlt')
          have hdd := (isDig_iff _).1 hdig
          obtain ⟨m, hm⟩ : ∃ m, (l[k]'hlt').toNat = 48 + m := ⟨(l[k]'hlt').toNat - 48, by omega⟩
          have hm10 : m ≤ 9 := by omega
          have hidx : ((S[k]'hlt).toNat : Int) = 48 + (m : Int) := by rw [HSg.out k hlt hlt', hm]; simp
          have hsub : (((S[k]'hlt).toNat : Int) - 48) % 256 = (m : Int) := by rw [hidx]; omega
          clear hidx
          have htk : l.take (k + 1) = l.take k ++ [l[k]'hlt'] := take_snoc (List.getElem?_eq_getElem hlt')
          have hnext : tval 0 (l.take (k + 1)) = 10 * tval 0 (l.take k) + m := by rw [htk, tval_snoc, hm]; omega
          have HN := Lib.hid hnext
          clear hnext htk hdd hdig hm
          go_wp2_with fail
          simp only [hsub]
          clear hsub
          refine (by_any _ _ r 10 m harg HI.out.1 (by omega) (by decide) (by omega)).mono ?_
          rintro e w2 ⟨v2, r2, rfl, g2, h1, h2, h3⟩
          have H2 := Lib.hid (And.intro h1 h3)
          have ha2 := g2.arg
          have hb2 := hbq.trans (g2.below.mono hbq.size)
          clear h1 h3 g2 harg hbq
          go_wp2_with fail
          go_roundw
          case rel => exact ⟨k + 1, r2, by omega, by go_num, ha2, by omega, ⟨H2.out.1, by rw [H2.out.2, HI.out.2, HN.out]⟩, hb2⟩
          case measure => simp [intOf]; omega
        · go_wp2_with fail
          refine (trim_any _ _ r harg HI.out.1 (by omega)).mono ?_
          rintro e w2 ⟨v2, rfl, g2⟩
          have hv : val r = tval 0 l := by rw [HI.out.2, List.take_of_length_le (by omega)]
          rw [hv, hl] at g2
          have g3 := g2.after hbq
          go_wp2_with fail
          go_ret2
          exact ⟨_, rfl, g3⟩
    · have hcn : ¬ (c.toNat : Int) = 48 := by
        intro e
        have h1 : c.toNat = 48 := by omega
        exact h48 (UInt8.toNat_inj.1 h1)
      go_enter Tryd.func56, Tryd.ntmps56
      go_wp2_with fail
      refine Htr.out.mono ?_
      rintro e w1 ⟨rfl, hb⟩
      obtain ⟨l, hl⟩ : ∃ l : List UInt8, l = c :: t := ⟨_, rfl⟩
      rw [← hl] at Hall hs
      have H00 := Lib.hid (start_parse l)
      have hS : ∃ S : ByteArray, S = { data := (c :: t).toArray } ∧ S.size = l.length ∧ (∀ k (hk : k < S.size) (hk' : k < l.length), (S[k]'hk).toNat = (l[k]'hk').toNat) ∧ S.size ≤ 900000 := ⟨{ data := (c :: t).toArray }, rfl, by subst hl; exact hsz, fun k hk hk' => by subst hl; rfl, by rw [hsz, ← hl]; exact hs⟩
      obtain ⟨S, hSe, hSl, hSg, hSb⟩ := hS
      have hS1 : S.size = t.length + 1 := by rw [hSl, hl]; rfl
      go_wp2_with fail
      rw [← hSe]
      have HSg := Lib.hid hSg
      have HSe := Lib.hid hSe
      clear hSe hSg
      go_loopw [4, 24] (fun av iv wq => ∃ (k : Nat) (r : List Nat), k ≤ S.size ∧ iv = .int .i64 k ∧ Arg encU wq av r ∧ r.length = k ∧ Hid (Lim r ∧ val r = tval 0 (l.take k)) ∧ Below w.heap.size w wq) (fun _ iv _ => S.size - (intOf iv).toNat)
      case atStart => exact ⟨0, [], by omega, rfl, Arg.nil_ _ _ _ _, rfl, H00, hb⟩
      case round =>
        obtain ⟨k, r, hk, rfl, harg, hrl, HI, hbq⟩ := hrel
        by_cases hlt : k < S.size
        · have hlt' : k < l.length := by omega
          have hdig : isDig (l[k]'hlt') = true := List.all_eq_true.1 Hall.out _ (List.getElem_mem hlt')
          have hdd := (isDig_iff _).1 hdig
          obtain ⟨m, hm⟩ : ∃ m, (l[k]'hlt').toNat = 48 + m := ⟨(l[k]'hlt').toNat - 48, by omega⟩
          have hm10 : m ≤ 9 := by omega
          have hidx : ((S[k]'hlt).toNat : Int) = 48 + (m : Int) := by rw [HSg.out k hlt hlt', hm]; simp
          have hsub : (((S[k]'hlt).toNat : Int) - 48) % 256 = (m : Int) := by rw [hidx]; omega
          clear hidx
          have htk : l.take (k + 1) = l.take k ++ [l[k]'hlt'] := take_snoc (List.getElem?_eq_getElem hlt')
          have hnext : tval 0 (l.take (k + 1)) = 10 * tval 0 (l.take k) + m := by rw [htk, tval_snoc, hm]; omega
          have HN := Lib.hid hnext
          clear hnext htk hdd hdig hm
          go_wp2_with fail
          simp only [hsub]
          clear hsub
          refine (by_any _ _ r 10 m harg HI.out.1 (by omega) (by decide) (by omega)).mono ?_
          rintro e w2 ⟨v2, r2, rfl, g2, h1, h2, h3⟩
          have H2 := Lib.hid (And.intro h1 h3)
          have ha2 := g2.arg
          have hb2 := hbq.trans (g2.below.mono hbq.size)
          clear h1 h3 g2 harg hbq
          go_wp2_with fail
          go_roundw
          case rel => exact ⟨k + 1, r2, by omega, by go_num, ha2, by omega, ⟨H2.out.1, by rw [H2.out.2, HI.out.2, HN.out]⟩, hb2⟩
          case measure => simp [intOf]; omega
        · go_wp2_with fail
          refine (trim_any _ _ r harg HI.out.1 (by omega)).mono ?_
          rintro e w2 ⟨v2, rfl, g2⟩
          have hv : val r = tval 0 l := by rw [HI.out.2, List.take_of_length_le (by omega)]
          rw [hv, hl] at g2
          have g3 := g2.after hbq
          go_wp2_with fail
          go_ret2
          exact ⟨_, rfl, g3⟩
end Go.Proofs.YtmajcjdhhnhmmaaDoor
