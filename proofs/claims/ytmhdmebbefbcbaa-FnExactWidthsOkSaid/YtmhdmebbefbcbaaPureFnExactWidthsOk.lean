/- The program's WidthsOk answers as the reference's for every list of widths and every width, and leaves the list as it was: no condition. -/
import Derived.Test.YtmhdmebbefbcbaaOpsFnExactWidthsOk
import Derived.Test.YtmhdmebbefbcbaaPlain
namespace Go.Proofs.Ytmhdmebbefbcbaa.PureFnExactWidthsOk
open Go.RowKit Go.Proofs.Ytmhdmebbefbcbaa.PFnExactWidthsOk Go.Proofs.Ytmhdmebbefbcbaa.Plain Go.Proofs.YtmhdmebbefbcbaaW.PrintWords Go.Proofs.YtmhdmebbefbcbaaW.PrintLast
theorem toIntS_l0 (x : List Int) (hx : x.length ≤ 1048576) (d : Nat) : ∀ (k : Nat) (y : List Int) (i : Nat), i + d = x.length → y.length = x.length → d < k → y.take i = x.take i → laws_toIntS.l0 k x y i = some x := by
  induction d with
  | zero =>
    intro k y i hi hl hk h
    obtain ⟨k, rfl⟩ : ∃ m, k = m + 1 := ⟨k - 1, by omega⟩
    rw [laws_toIntS.l0, if_neg (by omega), take_all (by omega) hl h]
  | succ d ih =>
    intro k y i hi hl hk h
    obtain ⟨k, rfl⟩ : ∃ m, k = m + 1 := ⟨k - 1, by omega⟩
    rw [laws_toIntS.l0, if_pos (by omega), if_pos (by omega), if_pos (by omega), wrap_cast i (by omega), rd_nat, Int.toNat_natCast]
    exact ih k _ (i + 1) (by omega) (by simpa using hl) (by omega) (take_set x y 0 i (by omega) hl h)
theorem toIntS_eq (x : List Int) (hx : x.length ≤ 1048576) (k : Nat) (hk : x.length < k) : laws_toIntS.f k x = some x := by
  rw [laws_toIntS.f, if_pos (by omega), if_pos (by omega)]
  exact toIntS_l0 x hx x.length k _ 0 (by omega) (by simp) hk (by simp)
theorem eqIntS_l0 (x : List Int) (hx : x.length ≤ 1048576) (d : Nat) : ∀ (k : Nat) (i : Nat), i + d = x.length → d < k → laws_eqIntS.l0 k x x i = some true := by
  induction d with
  | zero =>
    intro k i hi hk
    obtain ⟨k, rfl⟩ : ∃ m, k = m + 1 := ⟨k - 1, by omega⟩
    rw [laws_eqIntS.l0, if_neg (by omega)]
  | succ d ih =>
    intro k i hi hk
    obtain ⟨k, rfl⟩ : ∃ m, k = m + 1 := ⟨k - 1, by omega⟩
    rw [laws_eqIntS.l0, if_pos (by omega), if_pos (by omega), if_pos (by omega), if_pos rfl, wrap_cast i (by omega)]
    exact ih k (i + 1) (by omega) (by omega)
theorem eqIntS_eq (x : List Int) (hx : x.length ≤ 1048576) (k : Nat) (hk : x.length < k) : laws_eqIntS.f k x x = some true := by
  rw [laws_eqIntS.f, if_pos rfl]
  exact eqIntS_l0 x hx x.length k 0 (by omega) hk
def fits (w : Int) (y : Int) : Bool := if y ≥ 1 then decide (y ≤ w) else false
theorem in_eq (y w : Int) : spec_l01In.f y 1 w = some (fits w y) := by unfold spec_l01In.f fits; split <;> rfl
theorem within_eq (y w : Int) : impl_within.f y 1 w = some (fits w y) := by unfold impl_within.f fits; split <;> rfl
theorem spec_l0 (x : List Int) (w : Int) (hx : x.length ≤ 1048576) (d : Nat) : ∀ (k : Nat) (i : Nat), i + d = x.length → d < k →
    spec_WidthsOk.l0 k x w i = some ((x.drop i).all (fits w) && (decide (x.length ≤ 30) && fits 32 w)) := by
  induction d with
  | zero =>
    intro k i hi hk
    obtain ⟨k, rfl⟩ : ∃ m, k = m + 1 := ⟨k - 1, by omega⟩
    rw [spec_WidthsOk.l0, if_neg (by omega), List.drop_of_length_le (by omega), in_eq]
    by_cases h : x.length ≤ 30
    · rw [if_pos (by omega)]; simp [h]
    · rw [if_neg (by omega)]; simp [h]
  | succ d ih =>
    intro k i hi hk
    obtain ⟨k, rfl⟩ : ∃ m, k = m + 1 := ⟨k - 1, by omega⟩
    rw [spec_WidthsOk.l0, if_pos (by omega), if_pos (by omega), in_eq, drop_rd x i (by omega)]
    simp only [Option.bind_some, List.all_cons]
    cases hf : fits w (rd x i) with
    | false => simp
    | true => rw [if_pos rfl, wrap_cast i (by omega), ih k (i + 1) (by omega) (by omega)]; simp
theorem impl_l0 (x : List Int) (w : Int) (hx : x.length ≤ 1048576) (d : Nat) : ∀ (k : Nat) (i : Nat), i + d = x.length → d < k →
    impl_WidthsOk.l0 k w x x.length i = some ((x.drop i).all (fits w)) := by
  induction d with
  | zero =>
    intro k i hi hk
    obtain ⟨k, rfl⟩ : ∃ m, k = m + 1 := ⟨k - 1, by omega⟩
    rw [impl_WidthsOk.l0, if_neg (by omega), List.drop_of_length_le (by omega)]; rfl
  | succ d ih =>
    intro k i hi hk
    obtain ⟨k, rfl⟩ : ∃ m, k = m + 1 := ⟨k - 1, by omega⟩
    rw [impl_WidthsOk.l0, if_pos (by omega), if_pos (by omega), if_pos (by omega), within_eq, drop_rd x i (by omega)]
    simp only [Option.bind_some, List.all_cons]
    cases hf : fits w (rd x i) with
    | false => simp
    | true => rw [if_pos rfl, wrap_cast i (by omega), ih k (i + 1) (by omega) (by omega)]; simp
theorem spec_eq (x : List Int) (w : Int) (hx : x.length ≤ 1048576) (k : Nat) (hk : x.length < k) : spec_WidthsOk.f k x w = some (x.all (fits w) && (decide (x.length ≤ 30) && fits 32 w)) := by
  rw [spec_WidthsOk.f]
  have := spec_l0 x w hx x.length k 0 (by omega) hk
  simpa using this
theorem impl_eq (x : List Int) (w : Int) (hx : x.length ≤ 1048576) (k : Nat) (hk : x.length + 1 < k) : impl_WidthsOk.f k x w = some (x.all (fits w) && (decide (x.length ≤ 30) && fits 32 w)) := by
  obtain ⟨k, rfl⟩ : ∃ m, k = m + 1 := ⟨k - 1, by omega⟩
  have h0 := impl_l0 x w hx x.length k 0 (by omega) (by omega)
  have h1 := impl_l0 x w hx x.length (k + 1) 0 (by omega) (by omega)
  simp only [List.drop_zero, Int.ofNat_zero] at h0 h1
  have hj : ∀ c : Bool, impl_WidthsOk.j0 (k + 1) x w c = some (!c && x.all (fits w)) := by
    intro c
    cases c
    · simp only [impl_WidthsOk.j0]
      first
      | simpa using h0
      | simpa using h1
    · simp [impl_WidthsOk.j0]
  rw [impl_WidthsOk.f]
  by_cases h : x.length ≤ 30
  · rw [if_neg (by omega), within_eq]
    simp only [Option.bind_some, hj]
    cases fits 32 w <;> simp [h]
  · rw [if_pos (by omega), hj]; simp [h]
theorem pure : laws_FnExactWidthsOk.Stm := by
  intro x w _ _ _
  refine ⟨x.length + 2, ?_⟩
  rw [laws_FnExactWidthsOk.f]
  by_cases h : x.length ≤ 1048576
  · rw [if_neg (by omega), toIntS_eq x h _ (by omega)]
    simp only [Option.bind_some]
    rw [spec_eq x w h _ (by omega), impl_eq x w h _ (by omega), eqIntS_eq x h _ (by omega)]
    simp
  · rw [if_pos (by omega)]
end Go.Proofs.Ytmhdmebbefbcbaa.PureFnExactWidthsOk
