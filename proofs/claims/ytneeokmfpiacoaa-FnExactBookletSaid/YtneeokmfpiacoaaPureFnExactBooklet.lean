/- The program's Booklet answers as the reference's for all numbers of pages and holds its own answer apart: no condition. -/
import Derived.Test.YtneeokmfpiacoaaOpsFnExactBooklet
import Derived.Test.YtneeokmfpiacoaaPlain
namespace Go.Proofs.Ytneeokmfpiacoaa.PureFnExactBooklet
open Go.RowKit Go.Proofs.Ytneeokmfpiacoaa.PFnExactBooklet Go.Proofs.Ytneeokmfpiacoaa.Opened Go.Proofs.Ytneeokmfpiacoaa.Plain Go.Proofs.YtneeokmfpiacoaaW.PrintWords Go.Proofs.YtneeokmfpiacoaaW.PrintLast
def inB (a b c : Int) : Bool := if a ≥ b then decide (a ≤ c) else false
theorem in_eq (a b c : Int) : spec_l01In.f a b c = some (inB a b c) := by unfold spec_l01In.f inB; split <;> rfl
theorem within_eq (a b c : Int) : impl_within.f a b c = some (inB a b c) := in_eq a b c
theorem inB_iff (a b c : Int) : inB a b c = true ↔ b ≤ a ∧ a ≤ c := by unfold inB; split <;> simp <;> omega
theorem small : ∀ i : Fin 64, laws_FnExactBooklet.f 100 ((i.val : Int) + 1) = some true := by decide +kernel
theorem spec_none (a : Int) (h : ¬ (1 ≤ a ∧ a ≤ 64)) : spec_Booklet.f 1 a = some [] := by
  unfold spec_Booklet.f
  simp only [Option.bind_some, in_eq]
  cases hb : inB a 1 64 with
  | false => simp
  | true => rw [inB_iff] at hb; exact absurd hb h
theorem impl_none (a : Int) (h : ¬ (1 ≤ a ∧ a ≤ 64)) : impl_Booklet.f 1 a = some [] := by
  unfold impl_Booklet.f
  simp only [Option.bind_some, within_eq]
  cases hb : inB a 1 64 with
  | false => simp
  | true => rw [inB_iff] at hb; exact absurd hb h
theorem none_eq : laws_eqSheetS.f 1 [] [] = some true := by decide +kernel
theorem none_mark : laws_markSheetS.f 1 [] 1 = some (1, []) := by simp [laws_markSheetS.f, laws_markSheetS.l0]
theorem none_held : laws_heldSheetS.f 1 [] 1 = some 1 := by decide +kernel
theorem pure : laws_FnExactBooklet.Stm := by
  intro a _
  by_cases h : 1 ≤ a ∧ a ≤ 64
  · obtain ⟨h1, h2⟩ := h
    refine ⟨100, ?_⟩
    have := small ⟨(a - 1).toNat, by omega⟩
    rw [show (((a - 1).toNat : Nat) : Int) + 1 = a by omega] at this
    exact this
  · refine ⟨1, ?_⟩
    unfold laws_FnExactBooklet.f
    simp only [spec_none a h, impl_none a h, Option.bind_some, none_eq, none_mark, none_held, if_true]
    simp
end Go.Proofs.Ytneeokmfpiacoaa.PureFnExactBooklet
