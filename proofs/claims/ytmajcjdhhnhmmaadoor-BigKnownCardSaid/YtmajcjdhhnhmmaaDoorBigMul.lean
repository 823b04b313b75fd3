import Derived.Test.YtmajcjdhhnhmmaaDoorBigOf
import Derived.Test.YtmajcjdhhnhmmaaDoorReg
import Derived.Test.YtmajcjdhhnhmmaaDoorMul
import Derived.Test.YtmajcjdhhnhmmaaDoorAdd
import Derived.Deep.RegionHeld3
/- big.mul, big.add: what each returns. -/
namespace Go.Proofs.YtmajcjdhhnhmmaaDoor
open Go.RowKit Go.Num
attribute [local go_sem] Oper.semAt_some u64_mask

set_option maxHeartbeats 1000000 in
theorem mul2_any (w : World) (n k : Bool) (m o : Value) (y z : Int) (h : Whole w n m y) (g : Whole w k o z) :
    Calls Tryd.prog 62 #[.agg #[.bool n, m], .agg #[.bool k, o]] w fun e w' => ∃ n' m', e = .returned (.agg #[.bool n', m']) ∧ MadeZ 52 w w' n' m' (y * z) := by
  obtain ⟨l, a, hn, hl, hz⟩ := h
  obtain ⟨r, b, hk, hr, hy⟩ := g
  have HZ := Lib.hid (show sg (n != k) (a * b) = y * z by rw [sg_mul, hz, hy])
  have HS := Lib.hid (Nat.le_trans (sz_mul a b) (show sz a + sz b ≤ 100000 by have h1 := sz_num hn; have h2 := sz_num hk; omega))
  have HR := Lib.hid (Reg2.start w 24 (.bool n) m (.bool k) o)
  clear hz hy
  go_enter Tryd.func62, Tryd.ntmps62
  go_wp2_with fail
  go_region_held3 (fun w' => w'.cell? ⟨w.heap.size, 0, none⟩ = some (.bool n) ∧ w'.cell? ⟨w.heap.size, 1, none⟩ = some m ∧ w'.cell? ⟨w.heap.size + 1, 0, none⟩ = some (.bool k) ∧ w'.cell? ⟨w.heap.size + 1, 1, none⟩ = some o ∧
      w'.cell? ⟨w.heap.size + 1 + 1, 0, none⟩ = some (peek w' ⟨w.heap.size + 1 + 1, 0, none⟩) ∧ w'.cell? ⟨w.heap.size + 1 + 1, 1, none⟩ = some (peek w' ⟨w.heap.size + 1 + 1, 1, none⟩) ∧
      w'.frozen? ⟨w.heap.size + 1 + 1, 0, none⟩ = false ∧ w'.frozen? ⟨w.heap.size + 1 + 1, 1, none⟩ = false ∧ Reg2 w w' 24 (.bool n) m (.bool k) o)
    (first
      | with_reducible exact (HR.out.drew).facts
      | with_reducible exact (R2.put _ _).facts
      | with_reducible exact R2.facts
      | with_reducible exact R1.facts)
    (first
      | (go_at_call 86; go_split_ands; have R0 : Reg2 w _ 24 (.bool n) m (.bool k) o := (by assumption); refine (mul_any _ _ _ _ _ a b (hn.below R0.below) (hk.below R0.below)).mono ?_; rintro e wm ⟨vm, rfl, gm⟩; have R1 := R0.call gm.below)
      | (go_at_call 34; refine (of_num _ (n != k) _ _ (a * b) (y * z) (gm.num HS.out) HZ.out).mono ?_; rintro e wo ⟨no, mo, rfl, go⟩; obtain ⟨A1, c1, rfl, _, _⟩ := go.gives.arg.open_; have R2 := R1.call go.below))
  go_wp2_with fail
  refine bodyPost_ret (v := .agg #[.bool no, .slice A1 (limbs (y * z).natAbs).length c1]) (by simp [results, Tryd.results62, go_sem, R2.res.c0', R2.res.c1']) rfl ⟨_, _, rfl, ?_⟩
  exact go.laid R1.below R2.res (by omega) (by decide) _ _
end Go.Proofs.YtmajcjdhhnhmmaaDoor
