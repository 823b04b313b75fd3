import Derived.Test.YtbippecchpaleaaGreatDoorGLimbs
import Derived.BigQuiet
import Derived.Test.YtbippecchpaleaaGreatDoorGTx
import Derived.Laws.IdiomStrings
/- litmusref01.Digits: what it returns. -/
namespace Go.Proofs.YtbippecchpaleaaGreatDoor
open Go.RowKit Go.Num
attribute [local go_sem] Oper.semAt_some
theorem all_bad {l : List UInt8} {k : Nat} {x : UInt8} (h : l[k]? = some x) (hx : x.toNat < 48 ∨ 57 < x.toNat) : l.all isDig = false := by
  rw [List.all_eq_false]
  refine ⟨x, List.mem_of_getElem? h, fun hd => ?_⟩
  have := (isDig_iff x).1 hd
  omega
theorem good_all {c : UInt8} {t : List UInt8} (h : c = 48 → t = []) : goodText (c :: t) = (c :: t).all isDig := by
  unfold goodText
  by_cases hc : c = 48
  · have := h hc; subst this; subst hc; rfl
  · simp [hc]

set_option maxHeartbeats 4000000 in
set_option maxRecDepth 100000 in
theorem digits_any (w : World) (l : List UInt8) (hs : l.length ≤ 900000) :
    Calls Tryz.prog 121 #[.string ⟨l.toArray⟩] w fun e w' => e = .returned (.bool (goodText l)) ∧ Below w.heap.size w w' := by
  cases l with
  | nil =>
    go_enter Tryz.func121, Tryz.ntmps121
    go_wp2_with fail
    go_ret
    exact ⟨rfl, Below.refl _ _⟩
  | cons c t =>
    have hc0 : ((({ data := (c :: t).toArray } : ByteArray)[0]'(by show 0 < (c :: t).toArray.size; simp)).toNat : Int) = (c.toNat : Int) := rfl
    have hsz : (({ data := (c :: t).toArray } : ByteArray)).size = (c :: t).length := by show (c :: t).toArray.size = _; simp
    by_cases h48 : c = 48
    · cases t with
      | nil =>
        obtain ⟨t, ht⟩ : ∃ t : List UInt8, t = [] := ⟨_, rfl⟩
        rw [← ht] at hc0 hsz hs ⊢
        have HG := Lib.hid (good_all (c := c) (t := t) fun _ => ht)
        have ht0 : t.length = 0 := by rw [ht]; rfl
        have hc48 : (c.toNat : Int) = 48 := by rw [h48]; rfl
        clear h48 ht
        obtain ⟨l, hl⟩ : ∃ l : List UInt8, l = c :: t := ⟨_, rfl⟩
        have hS : ∃ S : ByteArray, S = { data := (c :: t).toArray } ∧ S.size = l.length ∧ (∀ k (hk : k < S.size) (hk' : k < l.length), (S[k]'hk).toNat = (l[k]'hk').toNat) ∧ S.size ≤ 900000 := ⟨{ data := (c :: t).toArray }, rfl, by subst hl; exact hsz, fun k hk hk' => by subst hl; rfl, by rw [hsz]; exact hs⟩
        obtain ⟨S, hSe, hSl, hSg, hSb⟩ := hS
        have HS2 := Lib.hid hSe
        rw [← hl] at HG hSe ⊢
        have hS1 : S.size = t.length + 1 := by rw [hSl, hl]; rfl
        have HSg := Lib.hid (And.intro hSg hSl)
        have hl0 : 0 < l.length := by rw [hl]; simp
        have HL0 := Lib.hid hl0
        go_enter Tryz.func121, Tryz.ntmps121
        go_wp2_with fail
        first | rw [← hSe] | rw [← HS2.out]
        have HSe := Lib.hid hSe
        have HLE := Lib.hid hl
        clear hSe hSg hc0 hsz hl0 hl
        go_loopw [3] (fun iv wq => ∃ k : Nat, k ≤ S.size ∧ iv = .int .i64 k ∧ Hid ((l.take k).all isDig = true) ∧ Below w.heap.size w wq) (fun iv _ => S.size - (intOf iv).toNat)
        case atStart => exact ⟨0, by omega, rfl, by show (l.take 0).all isDig = true; simp, Below.refl _ _⟩
        case round =>
          obtain ⟨k, hk, rfl, HI, hbq⟩ := hrel
          by_cases hlt : k < S.size
          · have hlt' : k < l.length := by omega
            have hidx : ((S[k]'hlt).toNat : Int) = ((l[k]'hlt').toNat : Int) := by rw [HSg.out.1 k hlt hlt']
            obtain ⟨x, hx⟩ : ∃ x, x = l[k]'hlt' := ⟨_, rfl⟩
            have hx2 : l[k]? = some x := by rw [hx]; exact List.getElem?_eq_getElem hlt'
            rw [← hx] at hidx
            have HX := Lib.hid hx2
            have hx3 := UInt8.toNat_lt x
            obtain ⟨n, hn⟩ : ∃ n, n = x.toNat := ⟨_, rfl⟩
            rw [← hn] at hidx hx3
            have HN := Lib.hid hn
            clear hx hx2 hn hlt'
            rcases Nat.lt_or_ge n 48 with h1 | h1
            · have hbad : Hid (goodText l = false) := HG.out.trans (all_bad HX.out (by rw [← HN.out]; exact .inl h1))
              go_wp2_with fail
              go_ret
              exact ⟨by rw [hbad.out]; rfl, hbq⟩
            · rcases Nat.lt_or_ge 57 n with h2 | h2
              · have hbad : Hid (goodText l = false) := HG.out.trans (all_bad HX.out (by rw [← HN.out]; exact .inr h2))
                go_wp2_with fail
                go_ret
                exact ⟨by rw [hbad.out]; rfl, hbq⟩
              · go_wp2_with fail
                go_roundw
                case rel =>
                  refine ⟨k + 1, by omega, by go_num, ?_, hbq⟩
                  show (l.take (k + 1)).all isDig = true
                  rw [take_snoc HX.out, List.all_append, HI.out]
                  simp
                  rw [isDig_iff]
                  have := HN.out
                  omega
                case measure => simp [intOf]; omega
          · have hgood : Hid (goodText l = true) := HG.out.trans (by have := HI.out; rwa [take_all l (by omega)] at this)
            go_wp2_with fail
            go_ret
            exact ⟨by rw [hgood.out]; rfl, hbq⟩
      | cons d t =>
        subst h48
        have hg : goodText (48 :: d :: t) = false := by unfold goodText; simp
        have HG := Lib.hid hg
        clear hg
        go_enter Tryz.func121, Tryz.ntmps121
        go_wp2_with fail
        go_ret
        exact ⟨by rw [HG.out]; rfl, Below.refl _ _⟩
    · have hcn : ¬ (c.toNat : Int) = 48 := by
        intro e
        have h1 : c.toNat = 48 := by omega
        exact h48 (UInt8.toNat_inj.1 h1)
      have HG := Lib.hid (good_all (c := c) (t := t) fun e => absurd e h48)
      clear h48
      obtain ⟨l, hl⟩ : ∃ l : List UInt8, l = c :: t := ⟨_, rfl⟩
      have hS : ∃ S : ByteArray, S = { data := (c :: t).toArray } ∧ S.size = l.length ∧ (∀ k (hk : k < S.size) (hk' : k < l.length), (S[k]'hk).toNat = (l[k]'hk').toNat) ∧ S.size ≤ 900000 := ⟨{ data := (c :: t).toArray }, rfl, by subst hl; exact hsz, fun k hk hk' => by subst hl; rfl, by rw [hsz]; exact hs⟩
      obtain ⟨S, hSe, hSl, hSg, hSb⟩ := hS
      have HS2 := Lib.hid hSe
      rw [← hl] at HG hSe ⊢
      have hS1 : S.size = t.length + 1 := by rw [hSl, hl]; rfl
      have HSg := Lib.hid (And.intro hSg hSl)
      have hl0 : 0 < l.length := by rw [hl]; simp
      have HL0 := Lib.hid hl0
      go_enter Tryz.func121, Tryz.ntmps121
      go_wp2_with fail
      first | rw [← hSe] | rw [← HS2.out]
      have HSe := Lib.hid hSe
      have HLE := Lib.hid hl
      clear hSe hSg hc0 hsz hl0 hl
      go_loopw [3] (fun iv wq => ∃ k : Nat, k ≤ S.size ∧ iv = .int .i64 k ∧ Hid ((l.take k).all isDig = true) ∧ Below w.heap.size w wq) (fun iv _ => S.size - (intOf iv).toNat)
      case atStart => exact ⟨0, by omega, rfl, by show (l.take 0).all isDig = true; simp, Below.refl _ _⟩
      case round =>
        obtain ⟨k, hk, rfl, HI, hbq⟩ := hrel
        by_cases hlt : k < S.size
        · have hlt' : k < l.length := by omega
          have hidx : ((S[k]'hlt).toNat : Int) = ((l[k]'hlt').toNat : Int) := by rw [HSg.out.1 k hlt hlt']
          obtain ⟨x, hx⟩ : ∃ x, x = l[k]'hlt' := ⟨_, rfl⟩
          have hx2 : l[k]? = some x := by rw [hx]; exact List.getElem?_eq_getElem hlt'
          rw [← hx] at hidx
          have HX := Lib.hid hx2
          have hx3 := UInt8.toNat_lt x
          obtain ⟨n, hn⟩ : ∃ n, n = x.toNat := ⟨_, rfl⟩
          rw [← hn] at hidx hx3
          have HN := Lib.hid hn
          clear hx hx2 hn hlt'
          rcases Nat.lt_or_ge n 48 with h1 | h1
          · have hbad : Hid (goodText l = false) := HG.out.trans (all_bad HX.out (by rw [← HN.out]; exact .inl h1))
            go_wp2_with fail
            go_ret
            exact ⟨by rw [hbad.out]; rfl, hbq⟩
          · rcases Nat.lt_or_ge 57 n with h2 | h2
            · have hbad : Hid (goodText l = false) := HG.out.trans (all_bad HX.out (by rw [← HN.out]; exact .inr h2))
              go_wp2_with fail
              go_ret
              exact ⟨by rw [hbad.out]; rfl, hbq⟩
            · go_wp2_with fail
              go_roundw
              case rel =>
                refine ⟨k + 1, by omega, by go_num, ?_, hbq⟩
                show (l.take (k + 1)).all isDig = true
                rw [take_snoc HX.out, List.all_append, HI.out]
                simp
                rw [isDig_iff]
                have := HN.out
                omega
              case measure => simp [intOf]; omega
        · have hgood : Hid (goodText l = true) := HG.out.trans (by have := HI.out; rwa [take_all l (by omega)] at this)
          go_wp2_with fail
          go_ret
          exact ⟨by rw [hgood.out]; rfl, hbq⟩
end Go.Proofs.YtbippecchpaleaaGreatDoor
/- A row of bytes that came of a text: its digits are read and written in place. -/
namespace Go.Proofs.YtbippecchpaleaaGreatDoor
open Go.RowKit Go.Num
structure DRow (w : World) (g n : Nat) (D : List UInt8) : Prop where
  len : D.length = n
  row : ∃ cur fz, w.heap[g]? = some (.cells cur 5 fz) ∧ n ≤ fz.1 ∧ cur.toList.take n = D.map encY
section
variable {w w' : World} {g n : Nat} {D : List UInt8}
theorem DRow.cell (h : DRow w g n D) {j : Nat} {x : UInt8} (hx : D[j]? = some x) : w.cell? ⟨g, j, none⟩ = some (encY x) := by
  obtain ⟨cur, fz, hh, _, hc⟩ := h.row
  have hj : j < n := by have := len_of_get hx; rw [h.len] at this; exact this
  have h1 : (cur.toList.take n)[j]? = some (encY x) := by rw [hc, List.getElem?_map, hx]; rfl
  rw [List.getElem?_take, if_pos hj, Array.getElem?_toList] at h1
  simp only [World.cell?, hh]
  simpa using h1
theorem DRow.free (h : DRow w g n D) {j : Nat} (hj : j < n) : w.frozen? ⟨g, j, none⟩ = false := by
  obtain ⟨cur, fz, hh, hf, _⟩ := h.row
  obtain ⟨lo, hi⟩ := fz
  simp only [World.frozen?, hh]
  have : ¬ lo ≤ j := by simp only at hf; omega
  simp [this]
theorem DRow.kept (h : DRow w g n D) (hb : w'.heap[g]? = w.heap[g]?) : DRow w' g n D := by
  obtain ⟨cur, fz, hh, hf, hc⟩ := h.row
  exact ⟨h.len, cur, fz, hb.trans hh, hf, hc⟩
theorem DRow.lt (h : DRow w g n D) : g < w.heap.size := by
  obtain ⟨cur, fz, hh, _⟩ := h.row
  exact (Array.getElem?_eq_some_iff.1 hh).1
theorem DRow.set (h : DRow w g n D) (j : Nat) (x : UInt8) : DRow (w.setCell ⟨g, j, none⟩ (encY x)) g n (D.set j x) := by
  obtain ⟨cur, fz, hh, hf, hc⟩ := h.row
  refine ⟨by rw [List.length_set]; exact h.len, cur.setIfInBounds j (encY x), fz, ?_, hf, ?_⟩
  · simp [World.setCell, Array.getElem?_modify, hh]
  · rw [Array.toList_setIfInBounds, List.map_set, ← hc, List.take_set]
theorem DRow.apart (h : DRow w g n D) {b e s m : Nat} {v : Value} {xs : List Value} (hr : w.ownsRow b e s v m xs) (he : e ≠ 5) : v.ownBlock ≠ some g := by
  intro ev
  obtain ⟨cur, fz, hh, _⟩ := h.row
  rcases hr.2 with ⟨rfl, _⟩ | ⟨g', cap', cur', rfl, _, hg', _⟩
  · simp [Value.ownBlock] at ev
  · simp only [Value.ownBlock, Option.some.injEq] at ev
    subst ev
    rw [hh] at hg'
    simp only [Option.some.injEq, Obj.cells.injEq] at hg'
    exact he hg'.2.1.symm
theorem DRow.alloc (h : DRow w g n D) (o : Obj) : DRow (w.alloc o) g n D := h.kept (Below.heap_alloc w o g h.lt)
theorem DRow.grown {own : Option Nat} (h : DRow w g n D) (hg : w.grownBy w' own) (hne : own ≠ some g) : DRow w' g n D := h.kept (hg.block g h.lt (fun e => hne e.symm))
theorem DRow.below (h : DRow w g n D) (hb : Below w.heap.size w w') : DRow w' g n D := h.kept (hb.block g h.lt)
theorem DRow.drewN (h : DRow w g n D) (k : Nat) : DRow (w.drewN k) g n D := h.kept rfl
theorem DRow.drew (h : DRow w g n D) : DRow w.drew g n D := h.kept rfl
end
/-- What a text becomes as a row of bytes. -/
def textRow (w : World) (l : List UInt8) : World := w.drew.alloc (.cells (bytesRow ⟨l.toArray⟩ (grownCap w l.length 0 5)) 5 ((bytesRow ⟨l.toArray⟩ (grownCap w l.length 0 5)).size, (bytesRow ⟨l.toArray⟩ (grownCap w l.length 0 5)).size + 1))
theorem conv_text (w : World) (l : List UInt8) : (convert 9 52 (.string ⟨l.toArray⟩)).run Tryz.prog w = .ok (.slice (some ⟨w.heap.size, 0, none⟩) l.length (grownCap w l.length 0 5)) (textRow w l) := by
  rw [run_bytes_of_string w 9 52 5 ⟨l.toArray⟩ Tryz.underlying9 Tryz.underlying52 Tryz.underlying5]
  have e : (ByteArray.mk l.toArray).size = l.length := by show l.toArray.size = _; simp
  rw [e]
  rfl
theorem textRow_row (w : World) (l : List UInt8) : DRow (textRow w l) w.heap.size l.length l := by
  refine ⟨rfl, _, _, World.alloc_heap_new w.drew _, ?_, ?_⟩
  · simp [bytesRow]
  · simp [bytesRow]
theorem textRow_below (w : World) (l : List UInt8) : Below w.heap.size w (textRow w l) := ((Below.refl _ w).drew).alloc (Nat.le_refl _) _
theorem drop_get {α : Type} {l : List α} {k : Nat} {y : α} (hy : l[k]? = some y) : l.drop k = y :: l.drop (k + 1) := by
  have hk := len_of_get hy
  rw [List.drop_eq_getElem_cons hk]
  rw [List.getElem?_eq_getElem hk] at hy
  rw [Option.some.inj hy]
theorem take_set_same {α : Type} {D : List α} {i : Nat} {y : α} : (D.set i y).take i = D.take i := by
  rw [List.take_set]
  apply List.set_eq_of_length_le
  rw [List.length_take]; omega
end Go.Proofs.YtbippecchpaleaaGreatDoor

