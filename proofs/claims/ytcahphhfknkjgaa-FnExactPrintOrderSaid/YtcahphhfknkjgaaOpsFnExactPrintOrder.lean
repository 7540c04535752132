/- The parameters of FnExactPrintOrder: how each of its structs is opened. -/
import Derived.Test.YtcahphhfknkjgaaPFnExactPrintOrderx5
import Derived.Test.YtcahphhfknkjgaaOpen
import Derived.KernelRfl
namespace Go.Proofs.Ytcahphhfknkjgaa.PFnExactPrintOrder
open Go.ChangeShapes Go.WideShapes Go.RowKit Go.Deep Go.Proofs.Ytcahphhfknkjgaa.Opened Go.Proofs.YtcahphhfknkjgaaW.PrintWords
def good31 (x : S31) : Prop := (Lit.int .i64 x.f0).wf = true ∧ (Lit.int .i64 x.f1).wf = true ∧ (Lit.int .i64 x.f2).wf = true ∧ True ∧ (Lit.int .i64 x.f4).wf = true ∧ True
theorem op31 : Opn k31 Try.prog 31 good31 := by
  intro H enc w base spare held fuel cs x h
  obtain ⟨hl, hf⟩ := one_cells Try.underlying31 (by kernel_rfl) (by kernel_rfl) h
  have hl' : cs.length = 6 := hl
  obtain ⟨n0, y0, v0, e0, h0⟩ := hf 0 _ rfl
  obtain ⟨z0, k0, g0⟩ := (Opn.int Try.underlying3) H enc w base spare held n0 _ _ h0
  obtain ⟨n1, y1, v1, e1, h1⟩ := hf 1 _ rfl
  obtain ⟨z1, k1, g1⟩ := (Opn.int Try.underlying3) H enc w base spare held n1 _ _ h1
  obtain ⟨n2, y2, v2, e2, h2⟩ := hf 2 _ rfl
  obtain ⟨z2, k2, g2⟩ := (Opn.int Try.underlying3) H enc w base spare held n2 _ _ h2
  obtain ⟨n3, y3, v3, e3, h3⟩ := hf 3 _ rfl
  obtain ⟨z3, k3, g3⟩ := (Opn.bool Try.underlying4) H enc w base spare held n3 _ _ h3
  obtain ⟨n4, y4, v4, e4, h4⟩ := hf 4 _ rfl
  obtain ⟨z4, k4, g4⟩ := (Opn.int Try.underlying3) H enc w base spare held n4 _ _ h4
  obtain ⟨n5, y5, v5, e5, h5⟩ := hf 5 _ rfl
  obtain ⟨z5, k5, g5⟩ := (Opn.bool Try.underlying4) H enc w base spare held n5 _ _ h5
  have hcs := list6 hl' e0 e1 e2 e3 e4 e5
  subst hcs
  exact ⟨⟨z0, z1, z2, z3, z4, z5⟩, ⟨[v0], [v1, v2, v3, v4, v5], rfl, k0, ⟨[v1], [v2, v3, v4, v5], rfl, k1, ⟨[v2], [v3, v4, v5], rfl, k2, ⟨[v3], [v4, v5], rfl, k3, ⟨[v4], [v5], rfl, k4, k5⟩⟩⟩⟩⟩, g0, g1, g2, g3, g4, g5⟩
/-- The pure statement of FnExactPrintOrder. -/
def laws_FnExactPrintOrder.Stm : Prop := ∀ (l0 : List (S31)), (l0.length ≤ maxLen) → (∀ x ∈ l0, good31 x) → ∃ k, laws_FnExactPrintOrder.f k l0 = some true
end Go.Proofs.Ytcahphhfknkjgaa.PFnExactPrintOrder
