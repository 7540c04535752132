/- The parameters of FnExactJamTime: how each of its structs is opened. -/
import Derived.Test.YtifaojbmdahoiaaPFnExactJamTimex2
import Derived.Test.YtifaojbmdahoiaaOpen
import Derived.KernelRfl
namespace Go.Proofs.Ytifaojbmdahoiaa.PFnExactJamTime
open Go.ChangeShapes Go.WideShapes Go.RowKit Go.Deep Go.Proofs.Ytifaojbmdahoiaa.Opened Go.Proofs.YtifaojbmdahoiaaW.PrintWords
def good107 (x : S107) : Prop := (Lit.int .i64 x.f0).wf = true ∧ (Lit.int .i64 x.f1).wf = true ∧ (Lit.int .i64 x.f2).wf = true
theorem op107 : Opn k107 Try.prog 107 good107 := by
  intro H enc w base spare held fuel cs x h
  obtain ⟨hl, hf⟩ := one_cells Try.underlying107 (by kernel_rfl) (by kernel_rfl) h
  have hl' : cs.length = 3 := hl
  obtain ⟨n0, y0, v0, e0, h0⟩ := hf 0 _ rfl
  obtain ⟨z0, k0, g0⟩ := (Opn.int Try.underlying3) H enc w base spare held n0 _ _ h0
  obtain ⟨n1, y1, v1, e1, h1⟩ := hf 1 _ rfl
  obtain ⟨z1, k1, g1⟩ := (Opn.int Try.underlying3) H enc w base spare held n1 _ _ h1
  obtain ⟨n2, y2, v2, e2, h2⟩ := hf 2 _ rfl
  obtain ⟨z2, k2, g2⟩ := (Opn.int Try.underlying3) H enc w base spare held n2 _ _ h2
  have hcs := list3 hl' e0 e1 e2
  subst hcs
  exact ⟨⟨z0, z1, z2⟩, ⟨[v0], [v1, v2], rfl, k0, ⟨[v1], [v2], rfl, k1, k2⟩⟩, g0, g1, g2⟩
/-- The pure statement of FnExactJamTime. -/
def laws_FnExactJamTime.Stm : Prop := ∀ (l0 : List (S107)), (l0.length ≤ maxLen) → (∀ x ∈ l0, good107 x) → ∃ k, laws_FnExactJamTime.f k l0 = some true
end Go.Proofs.Ytifaojbmdahoiaa.PFnExactJamTime
