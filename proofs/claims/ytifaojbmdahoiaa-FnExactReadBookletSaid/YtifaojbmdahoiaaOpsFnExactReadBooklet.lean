/- The parameters of FnExactReadBooklet: how each of its structs is opened. -/
import Derived.Test.YtifaojbmdahoiaaPFnExactReadBookletx4
import Derived.Test.YtifaojbmdahoiaaOpen
import Derived.KernelRfl
namespace Go.Proofs.Ytifaojbmdahoiaa.PFnExactReadBooklet
open Go.ChangeShapes Go.WideShapes Go.RowKit Go.Deep Go.Proofs.Ytifaojbmdahoiaa.Opened Go.Proofs.YtifaojbmdahoiaaW.PrintWords
def good104 (x : S104) : Prop := (Lit.int .i64 x.f0).wf = true ∧ (Lit.int .i64 x.f1).wf = true ∧ (Lit.int .i64 x.f2).wf = true ∧ (Lit.int .i64 x.f3).wf = true
theorem op104 : Opn k104 Try.prog 104 good104 := by
  intro H enc w base spare held fuel cs x h
  obtain ⟨hl, hf⟩ := one_cells Try.underlying104 (by kernel_rfl) (by kernel_rfl) h
  have hl' : cs.length = 4 := hl
  obtain ⟨n0, y0, v0, e0, h0⟩ := hf 0 _ rfl
  obtain ⟨z0, k0, g0⟩ := (Opn.int Try.underlying3) H enc w base spare held n0 _ _ h0
  obtain ⟨n1, y1, v1, e1, h1⟩ := hf 1 _ rfl
  obtain ⟨z1, k1, g1⟩ := (Opn.int Try.underlying3) H enc w base spare held n1 _ _ h1
  obtain ⟨n2, y2, v2, e2, h2⟩ := hf 2 _ rfl
  obtain ⟨z2, k2, g2⟩ := (Opn.int Try.underlying3) H enc w base spare held n2 _ _ h2
  obtain ⟨n3, y3, v3, e3, h3⟩ := hf 3 _ rfl
  obtain ⟨z3, k3, g3⟩ := (Opn.int Try.underlying3) H enc w base spare held n3 _ _ h3
  have hcs := list4 hl' e0 e1 e2 e3
  subst hcs
  exact ⟨⟨z0, z1, z2, z3⟩, ⟨[v0], [v1, v2, v3], rfl, k0, ⟨[v1], [v2, v3], rfl, k1, ⟨[v2], [v3], rfl, k2, k3⟩⟩⟩, g0, g1, g2, g3⟩
/-- The pure statement of FnExactReadBooklet. -/
def laws_FnExactReadBooklet.Stm : Prop := ∀ (l0 : List (S104)), (l0.length ≤ maxLen) → (∀ x ∈ l0, good104 x) → ∃ k, laws_FnExactReadBooklet.f k l0 = some true
end Go.Proofs.Ytifaojbmdahoiaa.PFnExactReadBooklet
