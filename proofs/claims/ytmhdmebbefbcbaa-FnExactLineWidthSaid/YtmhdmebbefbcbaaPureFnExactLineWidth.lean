/- The program's LineWidth answers as the reference's for all widths and every line, and leaves both as they were: no condition. -/
import Derived.Test.YtmhdmebbefbcbaaOpsFnExactLineWidth
import Derived.Test.YtmhdmebbefbcbaaPlain
namespace Go.Proofs.Ytmhdmebbefbcbaa.PureFnExactLineWidth
open Go.RowKit Go.Proofs.Ytmhdmebbefbcbaa.PFnExactLineWidth Go.Proofs.Ytmhdmebbefbcbaa.Opened Go.Proofs.Ytmhdmebbefbcbaa.Plain Go.Proofs.YtmhdmebbefbcbaaW.PrintWords Go.Proofs.YtmhdmebbefbcbaaW.PrintLast Go.Proofs.YtmhdmebbefbcbaaW.PrintMore
set_option linter.unusedVariables false
set_option linter.unusedSimpArgs false
theorem toIntS_l0 (x : List Int) (hx : x.length ≤ 1048576) (d : Nat) : ∀ (k : Nat) (y : List Int) (i : Nat), i + d = x.length → y.length = x.length → d < k → y.take i = x.take i → laws_toIntS.l0 k x y i = some x := by
  induction d with
  | zero =>
    intro k y i hi hl hk h
    obtain ⟨k, rfl⟩ : ∃ m, k = m + 1 := ⟨k - 1, by omega⟩
    rw [laws_toIntS.l0, if_neg (by omega), take_all (by omega) hl h]
  | succ d ih =>
    intro k y i hi hl hk h
    obtain ⟨k, rfl⟩ : ∃ m, k = m + 1 := ⟨k - 1, by omega⟩
    rw [laws_toIntS.l0, if_pos (by omega), if_pos (by omega), if_pos (by omega), wrap_cast i (by omega), rd_nat, Int.toNat_natCast]
    exact ih k _ (i + 1) (by omega) (by simpa using hl) (by omega) (take_set x y 0 i (by omega) hl h)
theorem toIntS_eq (x : List Int) (hx : x.length ≤ 1048576) (k : Nat) (hk : x.length < k) : laws_toIntS.f k x = some x := by
  rw [laws_toIntS.f, if_pos (by omega), if_pos (by omega)]
  exact toIntS_l0 x hx x.length k _ 0 (by omega) (by simp) hk (by simp)
theorem eqIntS_l0 (x : List Int) (hx : x.length ≤ 1048576) (d : Nat) : ∀ (k : Nat) (i : Nat), i + d = x.length → d < k → laws_eqIntS.l0 k x x i = some true := by
  induction d with
  | zero =>
    intro k i hi hk
    obtain ⟨k, rfl⟩ : ∃ m, k = m + 1 := ⟨k - 1, by omega⟩
    rw [laws_eqIntS.l0, if_neg (by omega)]
  | succ d ih =>
    intro k i hi hk
    obtain ⟨k, rfl⟩ : ∃ m, k = m + 1 := ⟨k - 1, by omega⟩
    rw [laws_eqIntS.l0, if_pos (by omega), if_pos (by omega), if_pos (by omega), if_pos rfl, wrap_cast i (by omega)]
    exact ih k (i + 1) (by omega) (by omega)
theorem eqIntS_eq (x : List Int) (hx : x.length ≤ 1048576) (k : Nat) (hk : x.length < k) : laws_eqIntS.f k x x = some true := by
  rw [laws_eqIntS.f, if_pos rfl]
  exact eqIntS_l0 x hx x.length k 0 (by omega) hk
def inB (a b c : Int) : Bool := if a ≥ b then decide (a ≤ c) else false
theorem in_eq (a b c : Int) : spec_l01In.f a b c = some (inB a b c) := by unfold spec_l01In.f inB; split <;> rfl
theorem within_eq (a b c : Int) : impl_within.f a b c = some (inB a b c) := in_eq a b c
theorem inB_iff (a b c : Int) : inB a b c = true ↔ b ≤ a ∧ a ≤ c := by unfold inB; split <;> simp <;> omega
theorem implWidth_l0 (x y : List Int) (hx : x.length ≤ 1048576) (hy : y.length ≤ 1048576) (d : Nat) : ∀ (k : Nat) (i : Nat) (a : Int), i + d = y.length → d < k → impl_LineWidth.l0 k x a y y.length i = spec_LineWidth.l0 k x y a i := by
  induction d with
  | zero =>
    intro k i a hi hk
    obtain ⟨k, rfl⟩ : ∃ m, k = m + 1 := ⟨k - 1, by omega⟩
    rw [impl_LineWidth.l0, spec_LineWidth.l0, if_neg (by omega), if_neg (by omega)]
  | succ d ih =>
    intro k i a hi hk
    obtain ⟨k, rfl⟩ : ∃ m, k = m + 1 := ⟨k - 1, by omega⟩
    have c1 : (i : Int) < (y.length : Int) := by omega
    have c2 : 0 ≤ (i : Int) := by omega
    simp only [impl_LineWidth.l0, spec_LineWidth.l0, if_pos c1, if_pos c2, in_eq, within_eq, Option.bind_some, wrap_cast i (by omega)]
    rw [ih k (i + 1) _ (by omega) (by omega)]
theorem specWidth_l0 (x y : List Int) (hx : x.length ≤ 1048576) (hy : y.length ≤ 1048576) (d : Nat) : ∀ (k : Nat) (i : Nat) (a : Int), i + d = y.length → d < k → ∃ r, spec_LineWidth.l0 k x y a i = some r := by
  induction d with
  | zero =>
    intro k i a hi hk
    obtain ⟨k, rfl⟩ : ∃ m, k = m + 1 := ⟨k - 1, by omega⟩
    rw [spec_LineWidth.l0, if_neg (by omega)]
    exact ⟨_, rfl⟩
  | succ d ih =>
    intro k i a hi hk
    obtain ⟨k, rfl⟩ : ∃ m, k = m + 1 := ⟨k - 1, by omega⟩
    rw [spec_LineWidth.l0, if_pos (by omega), if_pos (by omega), in_eq]
    simp only [Option.bind_some]
    cases h : inB (rd y i) 0 (wrap64 ((x.length : Int) - 1)) with
    | false => exact ⟨0, by simp⟩
    | true =>
      rw [inB_iff, wrap_id (by omega) (by omega)] at h
      rw [if_pos rfl, if_pos (by omega), if_pos (by omega), wrap_cast i (by omega)]
      exact ih k (i + 1) _ (by omega) (by omega)
theorem specWidth_some (x y : List Int) (hx : x.length ≤ 1048576) (hy : y.length ≤ 1048576) (k : Nat) (hk : y.length < k) : ∃ r, spec_LineWidth.f k x y = some r := specWidth_l0 x y hx hy y.length k 0 _ (by omega) hk
theorem implWidth_eq (x y : List Int) (hx : x.length ≤ 1048576) (hy : y.length ≤ 1048576) (k : Nat) (hk : y.length < k) : impl_LineWidth.f k x y = spec_LineWidth.f k x y := by
  unfold impl_LineWidth.f spec_LineWidth.f
  by_cases h : (y.length : Int) = 0
  · obtain ⟨k, rfl⟩ : ∃ m, k = m + 1 := ⟨k - 1, by omega⟩
    rw [if_pos h, spec_LineWidth.l0, if_neg (by omega), h, wrap_id (by omega) (by omega)]
    rfl
  · rw [if_neg h]
    exact implWidth_l0 x y hx hy y.length k 0 _ (by omega) hk
theorem pure : laws_FnExactLineWidth.Stm := by
  intro x y _ _ _ _
  refine ⟨x.length + y.length + 3, ?_⟩
  rw [laws_FnExactLineWidth.f]
  by_cases h : x.length ≤ 1048576
  · rw [if_neg (by omega)]
    by_cases h2 : y.length ≤ 1048576
    · rw [if_neg (by omega), toIntS_eq x h _ (by omega), toIntS_eq y h2 _ (by omega)]
      simp only [Option.bind_some]
      rw [implWidth_eq x y h h2 _ (by omega)]
      obtain ⟨r, hr⟩ := specWidth_some x y h h2 (x.length + y.length + 3) (by omega)
      rw [hr]
      simp only [Option.bind_some, if_true]
      rw [eqIntS_eq x h _ (by omega), eqIntS_eq y h2 _ (by omega)]
      simp
    · rw [if_pos (by omega)]
  · rw [if_pos (by omega)]
end Go.Proofs.Ytmhdmebbefbcbaa.PureFnExactLineWidth
