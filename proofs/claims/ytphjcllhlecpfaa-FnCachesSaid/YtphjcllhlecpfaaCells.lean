/- A cell of a block behind a store into the same block: told without conditions, so that two stores into one cell are seen through. -/
import Derived.Test.YtphjcllhlecpfaaWWords
namespace Go.Proofs.Ytphjcllhlecpfaa.Cells
open Go.RowKit
theorem cell_set_at (w : World) (g i j : Nat) (u : Value) : (w.setCell ⟨g, i, none⟩ u).cell? ⟨g, j, none⟩ = if i = j then (w.cell? ⟨g, i, none⟩).map (fun _ => u) else w.cell? ⟨g, j, none⟩ := by
  by_cases h : i = j
  · subst h
    rw [if_pos rfl]
    cases hc : w.cell? ⟨g, i, none⟩ with
    | some v => exact World.cell?_setCell_same w _ u hc
    | none =>
      simp only [World.cell?, World.setCell] at hc ⊢
      cases hb : w.heap[g]? with
      | none => simp [Array.getElem?_modify, hb]
      | some o =>
        cases o with
        | cells c e f =>
          rw [hb] at hc
          simp at hc
          simp [Array.getElem?_modify, hb, hc]
        | _ => simp [Array.getElem?_modify, hb]
  · rw [if_neg h]
    exact World.cell?_setCell_other w _ _ u (fun e => h (by injection e))
end Go.Proofs.Ytphjcllhlecpfaa.Cells
