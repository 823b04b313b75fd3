import Derived.Test.YtdmghakmhfhpiaaDoorRefConv
import Derived.BigQuiet
/- litmusref01.Digits: what it returns. -/
namespace Go.Proofs.YtdmghakmhfhpiaaDoor
open Go.RowKit Go.Num
attribute [local go_sem] Oper.semAt_some
theorem all_bad {l : List UInt8} {k : Nat} {x : UInt8} (h : l[k]? = some x) (hx : x.toNat < 48 ∨ 57 < x.toNat) : l.all isDig = false := by
  rw [List.all_eq_false]
  refine ⟨x, List.mem_of_getElem? h, fun hd => ?_⟩
  have := (isDig_iff x).1 hd
  omega
theorem good_all {c : UInt8} {t : List UInt8} (h : c = 48 → t = []) : goodText (c :: t) = (c :: t).all isDig := by
  unfold goodText
  by_cases hc : c = 48
  · have := h hc; subst this; subst hc; rfl
  · simp [hc]

set_option maxHeartbeats 4000000 in
set_option maxRecDepth 100000 in
theorem digits_any (w : World) (l : List UInt8) (hs : l.length ≤ 900000) :
    Calls Tryd.prog 44 #[.string ⟨l.toArray⟩] w fun e w' => e = .returned (.bool (goodText l)) ∧ Below w.heap.size w w' := by
  cases l with
  | nil =>
    go_enter Tryd.func44, Tryd.ntmps44
    go_wp2_with fail
    go_ret
    exact ⟨rfl, Below.refl _ _⟩
  | cons c t =>
    have hc0 : ((({ data := (c :: t).toArray } : ByteArray)[0]'(by show 0 < (c :: t).toArray.size; simp)).toNat : Int) = (c.toNat : Int) := rfl
    have hsz : (({ data := (c :: t).toArray } : ByteArray)).size = (c :: t).length := by show (c :: t).toArray.size = _; simp
    by_cases h48 : c = 48
    · cases t with
      | nil =>
        obtain ⟨t, ht⟩ : ∃ t : List UInt8, t = [] := ⟨_, rfl⟩
        rw [← ht] at hc0 hsz hs ⊢
        have HG := Lib.hid (good_all (c := c) (t := t) fun _ => ht)
        have ht0 : t.length = 0 := by rw [ht]; rfl
        have hc48 : (c.toNat : Int) = 48 := by rw [h48]; rfl
        clear h48 ht
        obtain ⟨l, hl⟩ : ∃ l : List UInt8, l = c :: t := ⟨_, rfl⟩
        have hS : ∃ S : ByteArray, S = { data := (c :: t).toArray } ∧ S.size = l.length ∧ (∀ k (hk : k < S.size) (hk' : k < l.length), (S[k]'hk).toNat = (l[k]'hk').toNat) ∧ S.size ≤ 900000 := ⟨{ data := (c :: t).toArray }, rfl, by subst hl; exact hsz, fun k hk hk' => by subst hl; rfl, by rw [hsz]; exact hs⟩
        obtain ⟨S, hSe, hSl, hSg, hSb⟩ := hS
        have HS2 := Lib.hid hSe
        rw [← hl] at HG hSe ⊢
        have hS1 : S.size = t.length + 1 := by rw [hSl, hl]; rfl
        have HSg := Lib.hid (And.intro hSg hSl)
        have hl0 : 0 < l.length := by rw [hl]; simp
        have HL0 := Lib.hid hl0
        go_enter Tryd.func44, Tryd.ntmps44
        go_wp2_with fail
        first | rw [← hSe] | rw [← HS2.out]
        have HSe := Lib.hid hSe
        have HLE := Lib.hid hl
        clear hSe hSg hc0 hsz hl0 hl
        go_loopw [3] (fun iv wq => ∃ k : Nat, k ≤ S.size ∧ iv = .int .i64 k ∧ Hid ((l.take k).all isDig = true) ∧ Below w.heap.size w wq) (fun iv _ => S.size - (intOf iv).toNat)
        case atStart => exact ⟨0, by omega, rfl, by show (l.take 0).all isDig = true; simp, Below.refl _ _⟩
        case round =>
          obtain ⟨k, hk, rfl, HI, hbq⟩ := hrel
          by_cases hlt : k < S.size
          · have hlt' : k < l.length := by omega
            have hidx : ((S[k]'hlt).toNat : Int) = ((l[k]'hlt').toNat : Int) := by rw [HSg.out.1 k hlt hlt']
            obtain ⟨x, hx⟩ : ∃ x, x = l[k]'hlt' := ⟨_, rfl⟩
            have hx2 : l[k]? = some x := by rw [hx]; exact List.getElem?_eq_getElem hlt'
            rw [← hx] at hidx
            have HX := Lib.hid hx2
            have hx3 := UInt8.toNat_lt x
            obtain ⟨n, hn⟩ : ∃ n, n = x.toNat := ⟨_, rfl⟩
            rw [← hn] at hidx hx3
            have HN := Lib.hid hn
            clear hx hx2 hn hlt'
            rcases Nat.lt_or_ge n 48 with h1 | h1
            · have hbad : Hid (goodText l = false) := HG.out.trans (all_bad HX.out (by rw [← HN.out]; exact .inl h1))
              go_wp2_with fail
              go_ret
              exact ⟨by rw [hbad.out]; rfl, hbq⟩
            · rcases Nat.lt_or_ge 57 n with h2 | h2
              · have hbad : Hid (goodText l = false) := HG.out.trans (all_bad HX.out (by rw [← HN.out]; exact .inr h2))
                go_wp2_with fail
                go_ret
                exact ⟨by rw [hbad.out]; rfl, hbq⟩
              · go_wp2_with fail
                go_roundw
                case rel =>
                  refine ⟨k + 1, by omega, by go_num, ?_, hbq⟩
                  show (l.take (k + 1)).all isDig = true
                  rw [take_snoc HX.out, List.all_append, HI.out]
                  simp
                  rw [isDig_iff]
                  have := HN.out
                  omega
                case measure => simp [intOf]; omega
          · have hgood : Hid (goodText l = true) := HG.out.trans (by have := HI.out; rwa [take_all l (by omega)] at this)
            go_wp2_with fail
            go_ret
            exact ⟨by rw [hgood.out]; rfl, hbq⟩
      | cons d t =>
        subst h48
        have hg : goodText (48 :: d :: t) = false := by unfold goodText; simp
        have HG := Lib.hid hg
        clear hg
        go_enter Tryd.func44, Tryd.ntmps44
        go_wp2_with fail
        go_ret
        exact ⟨by rw [HG.out]; rfl, Below.refl _ _⟩
    · have hcn : ¬ (c.toNat : Int) = 48 := by
        intro e
        have h1 : c.toNat = 48 := by omega
        exact h48 (UInt8.toNat_inj.1 h1)
      have HG := Lib.hid (good_all (c := c) (t := t) fun e => absurd e h48)
      clear h48
      obtain ⟨l, hl⟩ : ∃ l : List UInt8, l = c :: t := ⟨_, rfl⟩
      have hS : ∃ S : ByteArray, S = { data := (c :: t).toArray } ∧ S.size = l.length ∧ (∀ k (hk : k < S.size) (hk' : k < l.length), (S[k]'hk).toNat = (l[k]'hk').toNat) ∧ S.size ≤ 900000 := ⟨{ data := (c :: t).toArray }, rfl, by subst hl; exact hsz, fun k hk hk' => by subst hl; rfl, by rw [hsz]; exact hs⟩
      obtain ⟨S, hSe, hSl, hSg, hSb⟩ := hS
      have HS2 := Lib.hid hSe
      rw [← hl] at HG hSe ⊢
      have hS1 : S.size = t.length + 1 := by rw [hSl, hl]; rfl
      have HSg := Lib.hid (And.intro hSg hSl)
      have hl0 : 0 < l.length := by rw [hl]; simp
      have HL0 := Lib.hid hl0
      go_enter Tryd.func44, Tryd.ntmps44
      go_wp2_with fail
      first | rw [← hSe] | rw [← HS2.out]
      have HSe := Lib.hid hSe
      have HLE := Lib.hid hl
      clear hSe hSg hc0 hsz hl0 hl
      go_loopw [3] (fun iv wq => ∃ k : Nat, k ≤ S.size ∧ iv = .int .i64 k ∧ Hid ((l.take k).all isDig = true) ∧ Below w.heap.size w wq) (fun iv _ => S.size - (intOf iv).toNat)
      case atStart => exact ⟨0, by omega, rfl, by show (l.take 0).all isDig = true; simp, Below.refl _ _⟩
      case round =>
        obtain ⟨k, hk, rfl, HI, hbq⟩ := hrel
        by_cases hlt : k < S.size
        · have hlt' : k < l.length := by omega
          have hidx : ((S[k]'hlt).toNat : Int) = ((l[k]'hlt').toNat : Int) := by rw [HSg.out.1 k hlt hlt']
          obtain ⟨x, hx⟩ : ∃ x, x = l[k]'hlt' := ⟨_, rfl⟩
          have hx2 : l[k]? = some x := by rw [hx]; exact List.getElem?_eq_getElem hlt'
          rw [← hx] at hidx
          have HX := Lib.hid hx2
          have hx3 := UInt8.toNat_lt x
          obtain ⟨n, hn⟩ : ∃ n, n = x.toNat := ⟨_, rfl⟩
          rw [← hn] at hidx hx3
          have HN := Lib.hid hn
          clear hx hx2 hn hlt'
          rcases Nat.lt_or_ge n 48 with h1 | h1
          · have hbad : Hid (goodText l = false) := HG.out.trans (all_bad HX.out (by rw [← HN.out]; exact .inl h1))
            go_wp2_with fail
            go_ret
            exact ⟨by rw [hbad.out]; rfl, hbq⟩
          · rcases Nat.lt_or_ge 57 n with h2 | h2
            · have hbad : Hid (goodText l = false) := HG.out.trans (all_bad HX.out (by rw [← HN.out]; exact .inr h2))
              go_wp2_with fail
              go_ret
              exact ⟨by rw [hbad.out]; rfl, hbq⟩
            · go_wp2_with fail
              go_roundw
              case rel =>
                refine ⟨k + 1, by omega, by go_num, ?_, hbq⟩
                show (l.take (k + 1)).all isDig = true
                rw [take_snoc HX.out, List.all_append, HI.out]
                simp
                rw [isDig_iff]
                have := HN.out
                omega
              case measure => simp [intOf]; omega
        · have hgood : Hid (goodText l = true) := HG.out.trans (by have := HI.out; rwa [take_all l (by omega)] at this)
          go_wp2_with fail
          go_ret
          exact ⟨by rw [hgood.out]; rfl, hbq⟩
end Go.Proofs.YtdmghakmhfhpiaaDoor
