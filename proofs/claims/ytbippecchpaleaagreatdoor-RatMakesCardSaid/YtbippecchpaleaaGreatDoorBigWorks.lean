import Derived.Test.YtbippecchpaleaaGreatDoorBigIs
import Derived.RegionTactic
/- litmuslaw02.works returns true. -/
namespace Go.Proofs.YtbippecchpaleaaGreatDoor
open Go.RowKit Go.Num
attribute [local go_sem] Oper.semAt_some u64_mask
theorem lim_of {l : List Nat} (h : l.all (fun x => decide (x < 4294967296)) = true) : Lim l := fun x hx => by simpa using List.all_eq_true.1 h x hx
theorem lit_at (w : World) (cs : Array Value) (n : Nat) (l : List Nat) {m : Nat} (hc : cs.toList = l.map encU) (hn : n = l.length) (hl : l.all (fun x => decide (x < 4294967296)) = true) (h1 : l.length ≤ 100000) (hv : val l = m) :
    Num (w.alloc (.cells cs 43)) (.slice (some ⟨w.heap.size, 0, none⟩) n n) l m := ⟨arg_lit w cs _ n l hn hc, lim_of hl, h1, hv⟩
theorem short_i64 {z : Int} (h : (decide (-9223372036854775808 ≤ z) && decide (z ≤ 9223372036854775807)) = true) : sz z.natAbs ≤ 1000 := by
  simp only [Bool.and_eq_true, decide_eq_true_eq] at h
  exact Nat.le_trans (szz_i64 h.1 h.2) (by decide)
theorem zt_m2 : ztext (-2) = [45, 50] := by simp [ztext, dec, decs, vdig_pos, vdig_zero, Num.byteOf]
theorem zt_p1 : ztext (1) = [49] := by simp [ztext, dec, decs, vdig_pos, vdig_zero, Num.byteOf]
theorem zt_m18446744073709551616 : ztext (-18446744073709551616) = [45, 49, 56, 52, 52, 54, 55, 52, 52, 48, 55, 51, 55, 48, 57, 53, 53, 49, 54, 49, 54] := by simp [ztext, dec, decs, vdig_pos, vdig_zero, Num.byteOf]
theorem zt_m9223372036854775808 : ztext (-9223372036854775808) = [45, 57, 50, 50, 51, 51, 55, 50, 48, 51, 54, 56, 53, 52, 55, 55, 53, 56, 48, 56] := by simp [ztext, dec, decs, vdig_pos, vdig_zero, Num.byteOf]

end Go.Proofs.YtbippecchpaleaaGreatDoor

