/- The parameters of FnExactReserve: how each of its structs is opened. -/
import Derived.Test.YtmhdmebbefbcbaaPFnExactReservex1
import Derived.Test.YtmhdmebbefbcbaaOpen
import Derived.KernelRfl
namespace Go.Proofs.Ytmhdmebbefbcbaa.PFnExactReserve
open Go.ChangeShapes Go.WideShapes Go.RowKit Go.Deep Go.Proofs.Ytmhdmebbefbcbaa.Opened Go.Proofs.YtmhdmebbefbcbaaW.PrintWords
theorem op23 : Opn (Kd.pair (Kd.int .i64) (Kd.pair (Kd.int .i64) (Kd.int .i64))) Try.prog 23 (fun x : Int × Int × Int => (Lit.int .i64 x.1).wf = true ∧ (Lit.int .i64 x.2.1).wf = true ∧ (Lit.int .i64 x.2.2).wf = true) := by
  intro H enc w base spare held fuel cs x h
  obtain ⟨hl, hf⟩ := one_cells Try.underlying23 (by kernel_rfl) (by kernel_rfl) h
  have hl' : cs.length = 3 := hl
  obtain ⟨n0, y0, v0, e0, h0⟩ := hf 0 _ rfl
  obtain ⟨z0, k0, g0⟩ := (Opn.int Try.underlying3) H enc w base spare held n0 _ _ h0
  obtain ⟨n1, y1, v1, e1, h1⟩ := hf 1 _ rfl
  obtain ⟨z1, k1, g1⟩ := (Opn.int Try.underlying3) H enc w base spare held n1 _ _ h1
  obtain ⟨n2, y2, v2, e2, h2⟩ := hf 2 _ rfl
  obtain ⟨z2, k2, g2⟩ := (Opn.int Try.underlying3) H enc w base spare held n2 _ _ h2
  have hcs := list3 hl' e0 e1 e2
  subst hcs
  exact ⟨(z0, z1, z2), ⟨[v0], [v1, v2], rfl, k0, ⟨[v1], [v2], rfl, k1, k2⟩⟩, g0, g1, g2⟩
/-- The pure statement of FnExactReserve. -/
def laws_FnExactReserve.Stm : Prop := ∀ (a0_0 : Int) (a0_1 : Int) (a0_2 : Int) (a1 : Int), ((Lit.int .i64 a0_0).wf = true) → ((Lit.int .i64 a0_1).wf = true) → ((Lit.int .i64 a0_2).wf = true) → ((Lit.int .i64 a1).wf = true) → ∃ k, laws_FnExactReserve.f k a0_0 a0_1 a0_2 a1 = some true
end Go.Proofs.Ytmhdmebbefbcbaa.PFnExactReserve
