import Derived.Test.YtmajcjdhhnhmmaaDoorBigKit
/- more words -/
namespace Go.Proofs.YtmajcjdhhnhmmaaDoor
open Go.RowKit Go.Num
theorem sum1_cells (w : World) (b : Nat) (na : Bool) (ma : Value) (x : Int) (hc : BoxN w b 24 #[.bool na, ma]) (ha : Whole w na ma x) :
    Calls Tryd.prog 27 #[.slice (some ⟨b, 0, none⟩) 1 1] w fun e w' => ∃ n' m', e = .returned (.agg #[.bool n', m']) ∧ MadeZ 52 w w' n' m' x := by
  have hZ : CellsZ w (some ⟨b, 0, none⟩) [x] := fun _ => ⟨b, 0, rfl, fun j z hj => by
    rcases j with _ | j
    · obtain rfl : x = z := by simpa using hj
      exact ⟨na, ma, hc.cell 0 rfl, hc.cell 1 rfl, ha⟩
    · simp at hj⟩
  refine (Add_row _ _ 1 [x] hZ (by simp) fun j hj => ?_).mono ?_
  · rcases j with _ | _ | j
    · exact sz_nil'
    · simpa using ha.size
    · simp at hj
  · rintro e w' ⟨n, m, he, g⟩
    exact ⟨n, m, he, g.to (by simp)⟩
end Go.Proofs.YtmajcjdhhnhmmaaDoor
