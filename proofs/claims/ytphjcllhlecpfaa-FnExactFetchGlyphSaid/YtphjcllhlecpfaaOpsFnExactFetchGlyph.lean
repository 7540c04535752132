/- The parameters of FnExactFetchGlyph: how each of its structs is opened. -/
import Derived.Test.YtphjcllhlecpfaaPFnExactFetchGlyphx11
import Derived.Test.YtphjcllhlecpfaaOpen
import Derived.KernelRfl
namespace Go.Proofs.Ytphjcllhlecpfaa.PFnExactFetchGlyph
open Go.ChangeShapes Go.WideShapes Go.RowKit Go.Deep Go.Proofs.Ytphjcllhlecpfaa.Opened Go.Proofs.YtphjcllhlecpfaaW.PrintWords
def good69 (x : S69) : Prop := (Lit.int .i64 x.f0).wf = true ∧ (Lit.int .i64 x.f1).wf = true ∧ ((x.f2).length ≤ maxLen ∧ ∀ q3 ∈ x.f2, (Lit.int .i64 q3).wf = true)
theorem op69 : Opn k69 Try.prog 69 good69 := by
  intro H enc w base spare held fuel cs x h
  obtain ⟨hl, hf⟩ := one_cells Try.underlying69 (by kernel_rfl) (by kernel_rfl) h
  have hl' : cs.length = 3 := hl
  obtain ⟨n0, y0, v0, e0, h0⟩ := hf 0 _ rfl
  obtain ⟨z0, k0, g0⟩ := (Opn.int Try.underlying3) H enc w base spare held n0 _ _ h0
  obtain ⟨n1, y1, v1, e1, h1⟩ := hf 1 _ rfl
  obtain ⟨z1, k1, g1⟩ := (Opn.int Try.underlying3) H enc w base spare held n1 _ _ h1
  obtain ⟨n2, y2, v2, e2, h2⟩ := hf 2 _ rfl
  obtain ⟨z2, k2, g2⟩ := (Opn.slice (0 : Int) Try.underlying29 (by kernel_rfl) (Opn.int Try.underlying3)) H enc w base spare held n2 _ _ h2
  have hcs := list3 hl' e0 e1 e2
  subst hcs
  exact ⟨⟨z0, z1, z2⟩, ⟨[v0], [v1, v2], rfl, k0, ⟨[v1], [v2], rfl, k1, k2⟩⟩, g0, g1, g2⟩
theorem op45 : Opn (Kd.pair (Kd.slice 69 k69) (Kd.pair (Kd.int .i64) (Kd.int .i64))) Try.prog 45 (fun x : List (S69) × Int × Int => ((x.1).length ≤ maxLen ∧ ∀ q69 ∈ x.1, good69 q69) ∧ (Lit.int .i64 x.2.1).wf = true ∧ (Lit.int .i64 x.2.2).wf = true) := by
  intro H enc w base spare held fuel cs x h
  obtain ⟨hl, hf⟩ := one_cells Try.underlying45 (by kernel_rfl) (by kernel_rfl) h
  have hl' : cs.length = 3 := hl
  obtain ⟨n0, y0, v0, e0, h0⟩ := hf 0 _ rfl
  obtain ⟨z0, k0, g0⟩ := (Opn.slice z69 Try.underlying43 (by kernel_rfl) (op69)) H enc w base spare held n0 _ _ h0
  obtain ⟨n1, y1, v1, e1, h1⟩ := hf 1 _ rfl
  obtain ⟨z1, k1, g1⟩ := (Opn.int Try.underlying3) H enc w base spare held n1 _ _ h1
  obtain ⟨n2, y2, v2, e2, h2⟩ := hf 2 _ rfl
  obtain ⟨z2, k2, g2⟩ := (Opn.int Try.underlying3) H enc w base spare held n2 _ _ h2
  have hcs := list3 hl' e0 e1 e2
  subst hcs
  exact ⟨(z0, z1, z2), ⟨[v0], [v1, v2], rfl, k0, ⟨[v1], [v2], rfl, k1, k2⟩⟩, g0, g1, g2⟩
/-- The pure statement of FnExactFetchGlyph. -/
def laws_FnExactFetchGlyph.Stm : Prop := ∀ (l0_0 : List (S69)) (a0_1 : Int) (a0_2 : Int) (a1 : Int) (l2 : List (S69)), (((l0_0).length ≤ maxLen ∧ ∀ q69 ∈ l0_0, good69 q69)) → ((Lit.int .i64 a0_1).wf = true) → ((Lit.int .i64 a0_2).wf = true) → ((Lit.int .i64 a1).wf = true) → (l2.length ≤ maxLen) → (∀ x ∈ l2, good69 x) → ∃ k, laws_FnExactFetchGlyph.f k l0_0 a0_1 a0_2 a1 l2 = some true
end Go.Proofs.Ytphjcllhlecpfaa.PFnExactFetchGlyph
