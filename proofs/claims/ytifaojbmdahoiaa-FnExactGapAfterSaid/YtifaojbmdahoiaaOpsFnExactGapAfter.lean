/- The parameters of FnExactGapAfter: how each of its structs is opened. -/
import Derived.Test.YtifaojbmdahoiaaPFnExactGapAfterx3
import Derived.Test.YtifaojbmdahoiaaOpen
import Derived.KernelRfl
namespace Go.Proofs.Ytifaojbmdahoiaa.PFnExactGapAfter
open Go.ChangeShapes Go.WideShapes Go.RowKit Go.Deep Go.Proofs.Ytifaojbmdahoiaa.Opened Go.Proofs.YtifaojbmdahoiaaW.PrintWords
def good118 (x : S118) : Prop := (Lit.int .i64 x.f0).wf = true ∧ (Lit.int .i64 x.f1).wf = true
theorem op118 : Opn k118 Try.prog 118 good118 := by
  intro H enc w base spare held fuel cs x h
  obtain ⟨hl, hf⟩ := one_cells Try.underlying118 (by kernel_rfl) (by kernel_rfl) h
  have hl' : cs.length = 2 := hl
  obtain ⟨n0, y0, v0, e0, h0⟩ := hf 0 _ rfl
  obtain ⟨z0, k0, g0⟩ := (Opn.int Try.underlying3) H enc w base spare held n0 _ _ h0
  obtain ⟨n1, y1, v1, e1, h1⟩ := hf 1 _ rfl
  obtain ⟨z1, k1, g1⟩ := (Opn.int Try.underlying3) H enc w base spare held n1 _ _ h1
  have hcs := list2 hl' e0 e1
  subst hcs
  exact ⟨⟨z0, z1⟩, ⟨[v0], [v1], rfl, k0, k1⟩, g0, g1⟩
/-- The pure statement of FnExactGapAfter. -/
def laws_FnExactGapAfter.Stm : Prop := ∀ (l0 : List (S118)) (a1 : Int) (a2 : Int), (l0.length ≤ maxLen) → (∀ x ∈ l0, good118 x) → ((Lit.int .i64 a1).wf = true) → ((Lit.int .i64 a2).wf = true) → ∃ k, laws_FnExactGapAfter.f k l0 a1 a2 = some true
end Go.Proofs.Ytifaojbmdahoiaa.PFnExactGapAfter
