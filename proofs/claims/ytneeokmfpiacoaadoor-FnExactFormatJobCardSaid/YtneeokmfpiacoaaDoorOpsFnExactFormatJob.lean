/- The parameters of FnExactFormatJob: how each of its structs is opened. -/
import Derived.Test.YtneeokmfpiacoaaDoorPFnExactFormatJobx5
import Derived.Test.YtneeokmfpiacoaaDoorOpen
import Derived.KernelRfl
namespace Go.Proofs.YtneeokmfpiacoaaDoor.PFnExactFormatJob
open Go.ChangeShapes Go.WideShapes Go.RowKit Go.Deep Go.Proofs.YtneeokmfpiacoaaDoor.Opened Go.Proofs.YtneeokmfpiacoaaDoorW.PrintWords
theorem op23 : Opn (Kd.pair (Kd.int .i64) (Kd.pair (Kd.int .i64) (Kd.pair (Kd.int .i64) (Kd.pair Kd.bool (Kd.pair (Kd.int .i64) Kd.bool))))) Tryd.prog 23 (fun x : Int × Int × Int × Bool × Int × Bool => (Lit.int .i64 x.1).wf = true ∧ (Lit.int .i64 x.2.1).wf = true ∧ (Lit.int .i64 x.2.2.1).wf = true ∧ True ∧ (Lit.int .i64 x.2.2.2.2.1).wf = true ∧ True) := by
  intro H enc w base spare held fuel cs x h
  obtain ⟨hl, hf⟩ := one_cells Tryd.underlying23 (by kernel_rfl) (by kernel_rfl) h
  have hl' : cs.length = 6 := hl
  obtain ⟨n0, y0, v0, e0, h0⟩ := hf 0 _ rfl
  obtain ⟨z0, k0, g0⟩ := (Opn.int Tryd.underlying3) H enc w base spare held n0 _ _ h0
  obtain ⟨n1, y1, v1, e1, h1⟩ := hf 1 _ rfl
  obtain ⟨z1, k1, g1⟩ := (Opn.int Tryd.underlying3) H enc w base spare held n1 _ _ h1
  obtain ⟨n2, y2, v2, e2, h2⟩ := hf 2 _ rfl
  obtain ⟨z2, k2, g2⟩ := (Opn.int Tryd.underlying3) H enc w base spare held n2 _ _ h2
  obtain ⟨n3, y3, v3, e3, h3⟩ := hf 3 _ rfl
  obtain ⟨z3, k3, g3⟩ := (Opn.bool Tryd.underlying4) H enc w base spare held n3 _ _ h3
  obtain ⟨n4, y4, v4, e4, h4⟩ := hf 4 _ rfl
  obtain ⟨z4, k4, g4⟩ := (Opn.int Tryd.underlying3) H enc w base spare held n4 _ _ h4
  obtain ⟨n5, y5, v5, e5, h5⟩ := hf 5 _ rfl
  obtain ⟨z5, k5, g5⟩ := (Opn.bool Tryd.underlying4) H enc w base spare held n5 _ _ h5
  have hcs := list6 hl' e0 e1 e2 e3 e4 e5
  subst hcs
  exact ⟨(z0, z1, z2, z3, z4, z5), ⟨[v0], [v1, v2, v3, v4, v5], rfl, k0, ⟨[v1], [v2, v3, v4, v5], rfl, k1, ⟨[v2], [v3, v4, v5], rfl, k2, ⟨[v3], [v4, v5], rfl, k3, ⟨[v4], [v5], rfl, k4, k5⟩⟩⟩⟩⟩, g0, g1, g2, g3, g4, g5⟩
/-- The pure statement of FnExactFormatJob. -/
def laws_FnExactFormatJob.Stm : Prop := ∀ (a0_0 : Int) (a0_1 : Int) (a0_2 : Int) (a0_3 : Bool) (a0_4 : Int) (a0_5 : Bool), ((Lit.int .i64 a0_0).wf = true) → ((Lit.int .i64 a0_1).wf = true) → ((Lit.int .i64 a0_2).wf = true) → ((Lit.int .i64 a0_4).wf = true) → ∃ k, laws_FnExactFormatJob.f k a0_0 a0_1 a0_2 a0_3 a0_4 a0_5 = some true
end Go.Proofs.YtneeokmfpiacoaaDoor.PFnExactFormatJob
