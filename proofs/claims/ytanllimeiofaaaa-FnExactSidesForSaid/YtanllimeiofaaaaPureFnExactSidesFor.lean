/- The program's SidesFor answers as the reference's for all arguments and holds its own answer apart: no condition. -/
import Derived.Test.YtanllimeiofaaaaOpsFnExactSidesFor
import Derived.Test.YtanllimeiofaaaaPlain
namespace Go.Proofs.Ytanllimeiofaaaa.PureFnExactSidesFor
open Go.RowKit Go.Proofs.Ytanllimeiofaaaa.PFnExactSidesFor Go.Proofs.Ytanllimeiofaaaa.Opened Go.Proofs.Ytanllimeiofaaaa.Plain Go.Proofs.YtanllimeiofaaaaW.PrintWords Go.Proofs.YtanllimeiofaaaaW.PrintLast
def inB (a b c : Int) : Bool := if a ≥ b then decide (a ≤ c) else false
theorem in_eq (a b c : Int) : spec_l01In.f a b c = some (inB a b c) := by unfold spec_l01In.f inB; split <;> rfl
theorem within_eq (a b c : Int) : impl_within.f a b c = some (inB a b c) := in_eq a b c
theorem inB_iff (a b c : Int) : inB a b c = true ↔ b ≤ a ∧ a ≤ c := by unfold inB; split <;> simp <;> omega
theorem small : ∀ i : Fin 64, ∀ b ∈ [(1 : Int), 2, 4, 8, 16], laws_FnExactSidesFor.f 200 ((i.val : Int) + 1) b = some true := by decide +kernel
theorem spec_none (a b : Int) (h : ¬ ((1 ≤ a ∧ a ≤ 64) ∧ (b = 1 ∨ b = 2 ∨ b = 4 ∨ b = 8 ∨ b = 16))) : spec_SidesFor.f 1 a b = some [] := by
  unfold spec_SidesFor.f
  simp only [Option.bind_some, in_eq, spec_SidesFor.j0]
  cases hb : inB a 1 64 with
  | false => simp
  | true =>
    rw [inB_iff] at hb
    rw [if_pos rfl, if_neg (by omega), if_neg (by omega), if_neg (by omega), if_neg (by omega), if_pos (by simp; omega)]
theorem impl_none (a b : Int) (h : ¬ ((1 ≤ a ∧ a ≤ 64) ∧ (b = 1 ∨ b = 2 ∨ b = 4 ∨ b = 8 ∨ b = 16))) : impl_SidesFor.f 1 a b = some [] := by
  unfold impl_SidesFor.f
  simp only [within_eq, Option.bind_some, impl_SidesFor.j0]
  cases hb : inB a 1 64 with
  | false => simp
  | true =>
    rw [inB_iff] at hb
    rw [if_pos rfl, if_neg (by omega), if_neg (by omega), if_neg (by omega), if_neg (by omega), if_pos (by simp; omega)]
theorem none_rest : (laws_eqIntSS.f 1 ([] : List (List Int)) []).bind (fun b5 => if b5 = true then (laws_markIntSS.f 1 [] 1).bind fun p7 => (laws_heldIntSS.f 1 p7.2 1).bind fun q11 => if ¬ q11 < 0 then if q11 = p7.1 then (laws_eqIntSS.f 1 ([] : List (List Int)) []).bind fun b14 => if b14 = true then (laws_heldIntSS.f 1 p7.2 1).bind fun q15 => if q15 = p7.1 then some true else none else none else none else none else none) = some true := by decide +kernel
theorem pure : laws_FnExactSidesFor.Stm := by
  intro a b _ _
  by_cases h : (1 ≤ a ∧ a ≤ 64) ∧ (b = 1 ∨ b = 2 ∨ b = 4 ∨ b = 8 ∨ b = 16)
  · obtain ⟨⟨h1, h2⟩, hb⟩ := h
    refine ⟨200, ?_⟩
    have := small ⟨(a - 1).toNat, by omega⟩ b (by simp; omega)
    rw [show (((a - 1).toNat : Nat) : Int) + 1 = a by omega] at this
    exact this
  · refine ⟨1, ?_⟩
    unfold laws_FnExactSidesFor.f
    simp only [spec_none a b h, impl_none a b h, Option.bind_some]
    exact none_rest
end Go.Proofs.Ytanllimeiofaaaa.PureFnExactSidesFor
