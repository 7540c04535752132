/- The program's SheetsFor answers as the reference's for all numbers of pages, whatever the pages a side, on both sides or on one: no condition. -/
import Derived.Test.YtmhdmebbefbcbaaOpsFnExactSheetsFor
import Derived.Test.YtmhdmebbefbcbaaPlain
namespace Go.Proofs.Ytmhdmebbefbcbaa.PureFnExactSheetsFor
open Go.RowKit Go.Proofs.Ytmhdmebbefbcbaa.PFnExactSheetsFor Go.Proofs.Ytmhdmebbefbcbaa.Opened Go.Proofs.Ytmhdmebbefbcbaa.Plain Go.Proofs.YtmhdmebbefbcbaaW.PrintWords Go.Proofs.YtmhdmebbefbcbaaW.PrintLast
def inB (a b c : Int) : Bool := if a ≥ b then decide (a ≤ c) else false
theorem in_eq (a b c : Int) : spec_l01In.f a b c = some (inB a b c) := by unfold spec_l01In.f inB; split <;> rfl
theorem within_eq (a b c : Int) : impl_within.f a b c = some (inB a b c) := in_eq a b c
theorem inB_iff (a b c : Int) : inB a b c = true ↔ b ≤ a ∧ a ≤ c := by unfold inB; split <;> simp <;> omega
theorem small : ∀ i : Fin 64, ∀ b ∈ [(1 : Int), 2, 4, 8, 16], ∀ c : Bool, laws_FnExactSheetsFor.f 70 ((i.val : Int) + 1) b c = some true := by decide +kernel
theorem spec_none (a b : Int) (h : ¬ ((1 ≤ a ∧ a ≤ 64) ∧ (b = 1 ∨ b = 2 ∨ b = 4 ∨ b = 8 ∨ b = 16))) : spec_SidesFor.f 1 a b = some [] := by
  unfold spec_SidesFor.f
  simp only [Option.bind_some, in_eq, spec_SidesFor.j0]
  cases hb : inB a 1 64 with
  | false => simp
  | true =>
    rw [inB_iff] at hb
    rw [if_pos rfl, if_neg (by omega), if_neg (by omega), if_neg (by omega), if_neg (by omega), if_pos (by simp; omega)]
theorem impl_none (a b : Int) (h : ¬ ((1 ≤ a ∧ a ≤ 64) ∧ (b = 1 ∨ b = 2 ∨ b = 4 ∨ b = 8 ∨ b = 16))) : impl_SidesFor.f 1 a b = some [] := by
  unfold impl_SidesFor.f
  simp only [within_eq, Option.bind_some, impl_SidesFor.j0]
  cases hb : inB a 1 64 with
  | false => simp
  | true =>
    rw [inB_iff] at hb
    rw [if_pos rfl, if_neg (by omega), if_neg (by omega), if_neg (by omega), if_neg (by omega), if_pos (by simp; omega)]
theorem pure : laws_FnExactSheetsFor.Stm := by
  intro a b c _ _
  by_cases h : (1 ≤ a ∧ a ≤ 64) ∧ (b = 1 ∨ b = 2 ∨ b = 4 ∨ b = 8 ∨ b = 16)
  · obtain ⟨⟨h1, h2⟩, hb⟩ := h
    refine ⟨70, ?_⟩
    have := small ⟨(a - 1).toNat, by omega⟩ b (by simp; omega) c
    rw [show (((a - 1).toNat : Nat) : Int) + 1 = a by omega] at this
    exact this
  · refine ⟨1, ?_⟩
    unfold laws_FnExactSheetsFor.f spec_SheetsFor.f impl_SheetsFor.f
    simp only [spec_none a b h, impl_none a b h, Option.bind_some]
    cases c <;> simp
end Go.Proofs.Ytmhdmebbefbcbaa.PureFnExactSheetsFor
