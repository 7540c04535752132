/- The program's LeastLines answers as the reference's for all widths and leaves them as they were: no condition. -/
import Derived.Test.YtanllimeiofaaaaOpsFnExactLeastLines
import Derived.Test.YtanllimeiofaaaaPlain
namespace Go.Proofs.Ytanllimeiofaaaa.PureFnExactLeastLines
open Go.RowKit Go.Proofs.Ytanllimeiofaaaa.PFnExactLeastLines Go.Proofs.Ytanllimeiofaaaa.Opened Go.Proofs.Ytanllimeiofaaaa.Plain Go.Proofs.YtanllimeiofaaaaW.PrintWords Go.Proofs.YtanllimeiofaaaaW.PrintLast Go.Proofs.YtanllimeiofaaaaW.PrintMore
set_option linter.unusedVariables false
set_option linter.unusedSimpArgs false
theorem toIntS_l0 (x : List Int) (hx : x.length ≤ 1048576) (d : Nat) : ∀ (k : Nat) (y : List Int) (i : Nat), i + d = x.length → y.length = x.length → d < k → y.take i = x.take i → laws_toIntS.l0 k x y i = some x := by
  induction d with
  | zero =>
    intro k y i hi hl hk h
    obtain ⟨k, rfl⟩ : ∃ m, k = m + 1 := ⟨k - 1, by omega⟩
    rw [laws_toIntS.l0, if_neg (by omega), take_all (by omega) hl h]
  | succ d ih =>
    intro k y i hi hl hk h
    obtain ⟨k, rfl⟩ : ∃ m, k = m + 1 := ⟨k - 1, by omega⟩
    rw [laws_toIntS.l0, if_pos (by omega), if_pos (by omega), if_pos (by omega), wrap_cast i (by omega), rd_nat, Int.toNat_natCast]
    exact ih k _ (i + 1) (by omega) (by simpa using hl) (by omega) (take_set x y 0 i (by omega) hl h)
theorem toIntS_eq (x : List Int) (hx : x.length ≤ 1048576) (k : Nat) (hk : x.length < k) : laws_toIntS.f k x = some x := by
  rw [laws_toIntS.f, if_pos (by omega), if_pos (by omega)]
  exact toIntS_l0 x hx x.length k _ 0 (by omega) (by simp) hk (by simp)
theorem eqIntS_l0 (x : List Int) (hx : x.length ≤ 1048576) (d : Nat) : ∀ (k : Nat) (i : Nat), i + d = x.length → d < k → laws_eqIntS.l0 k x x i = some true := by
  induction d with
  | zero =>
    intro k i hi hk
    obtain ⟨k, rfl⟩ : ∃ m, k = m + 1 := ⟨k - 1, by omega⟩
    rw [laws_eqIntS.l0, if_neg (by omega)]
  | succ d ih =>
    intro k i hi hk
    obtain ⟨k, rfl⟩ : ∃ m, k = m + 1 := ⟨k - 1, by omega⟩
    rw [laws_eqIntS.l0, if_pos (by omega), if_pos (by omega), if_pos (by omega), if_pos rfl, wrap_cast i (by omega)]
    exact ih k (i + 1) (by omega) (by omega)
theorem eqIntS_eq (x : List Int) (hx : x.length ≤ 1048576) (k : Nat) (hk : x.length < k) : laws_eqIntS.f k x x = some true := by
  rw [laws_eqIntS.f, if_pos rfl]
  exact eqIntS_l0 x hx x.length k 0 (by omega) hk
def inB (a b c : Int) : Bool := if a ≥ b then decide (a ≤ c) else false
theorem in_eq (a b c : Int) : spec_l01In.f a b c = some (inB a b c) := by unfold spec_l01In.f inB; split <;> rfl
theorem within_eq (a b c : Int) : impl_within.f a b c = some (inB a b c) := in_eq a b c
theorem inB_iff (a b c : Int) : inB a b c = true ↔ b ≤ a ∧ a ≤ c := by unfold inB; split <;> simp <;> omega
def fits (w : Int) (y : Int) : Bool := inB y 1 w
def widthsB (x : List Int) (w : Int) : Bool := x.all (fits w) && (decide (x.length ≤ 30) && inB w 1 32)
theorem widthsB_iff (x : List Int) (w : Int) : widthsB x w = true ↔ (∀ y ∈ x, 1 ≤ y ∧ y ≤ w) ∧ x.length ≤ 30 ∧ 1 ≤ w ∧ w ≤ 32 := by
  simp [widthsB, fits, inB_iff]
theorem specWidths_l0 (x : List Int) (w : Int) (hx : x.length ≤ 1048576) (d : Nat) : ∀ (k : Nat) (i : Nat), i + d = x.length → d < k → spec_WidthsOk.l0 k x w i = some ((x.drop i).all (fits w) && (decide (x.length ≤ 30) && inB w 1 32)) := by
  induction d with
  | zero =>
    intro k i hi hk
    obtain ⟨k, rfl⟩ : ∃ m, k = m + 1 := ⟨k - 1, by omega⟩
    rw [spec_WidthsOk.l0, if_neg (by omega), List.drop_of_length_le (by omega), in_eq]
    by_cases h : x.length ≤ 30
    · rw [if_pos (by omega)]; simp [h]
    · rw [if_neg (by omega)]; simp [h]
  | succ d ih =>
    intro k i hi hk
    obtain ⟨k, rfl⟩ : ∃ m, k = m + 1 := ⟨k - 1, by omega⟩
    rw [spec_WidthsOk.l0, if_pos (by omega), if_pos (by omega), in_eq, drop_rd x i (by omega)]
    simp only [Option.bind_some, List.all_cons, fits]
    cases hf : inB (rd x i) 1 w with
    | false => simp
    | true => rw [if_pos rfl, wrap_cast i (by omega), ih k (i + 1) (by omega) (by omega)]; simp [fits]
theorem specWidths_eq (x : List Int) (w : Int) (hx : x.length ≤ 1048576) (k : Nat) (hk : x.length < k) : spec_WidthsOk.f k x w = some (widthsB x w) := by
  have := specWidths_l0 x w hx x.length k 0 (by omega) hk
  simpa [spec_WidthsOk.f, widthsB] using this
theorem implWidths_l0 (x : List Int) (w : Int) (hx : x.length ≤ 1048576) (d : Nat) : ∀ (k : Nat) (i : Nat), i + d = x.length → d < k → impl_WidthsOk.l0 k w x x.length i = some ((x.drop i).all (fits w)) := by
  induction d with
  | zero =>
    intro k i hi hk
    obtain ⟨k, rfl⟩ : ∃ m, k = m + 1 := ⟨k - 1, by omega⟩
    rw [impl_WidthsOk.l0, if_neg (by omega), List.drop_of_length_le (by omega)]; rfl
  | succ d ih =>
    intro k i hi hk
    obtain ⟨k, rfl⟩ : ∃ m, k = m + 1 := ⟨k - 1, by omega⟩
    rw [impl_WidthsOk.l0, if_pos (by omega), if_pos (by omega), if_pos (by omega), within_eq, drop_rd x i (by omega)]
    simp only [Option.bind_some, List.all_cons, fits]
    cases hf : inB (rd x i) 1 w with
    | false => simp
    | true => rw [if_pos rfl, wrap_cast i (by omega), ih k (i + 1) (by omega) (by omega)]; simp [fits]
theorem implWidths_eq (x : List Int) (w : Int) (hx : x.length ≤ 1048576) (k : Nat) (hk : x.length + 1 < k) : impl_WidthsOk.f k x w = some (widthsB x w) := by
  obtain ⟨k, rfl⟩ : ∃ m, k = m + 1 := ⟨k - 1, by omega⟩
  have h0 := implWidths_l0 x w hx x.length k 0 (by omega) (by omega)
  simp only [List.drop_zero, Int.ofNat_zero] at h0
  have hj : ∀ c : Bool, impl_WidthsOk.j0 (k + 1) x w c = some (!c && x.all (fits w)) := by
    intro c
    cases c
    · simp only [impl_WidthsOk.j0]; simpa using h0
    · simp [impl_WidthsOk.j0]
  rw [impl_WidthsOk.f]
  by_cases h : x.length ≤ 30
  · rw [if_neg (by omega), within_eq]
    simp only [Option.bind_some, hj, widthsB]
    cases inB w 1 32 <;> simp [h]
  · rw [if_pos (by omega), hj]; simp [h, widthsB]
def setLast (o : List (List Int)) (i : Int) : List (List Int) := o.set (o.length - 1) (o.getD (o.length - 1) [] ++ [i])
/-- The lines, word after word. -/
def brk (x : List Int) (n : Int) : Nat → Nat → Int → List (List Int) → List (List Int)
  | 0, _, _, o => o
  | d + 1, i, u, o => if i = 0 ∨ u + 1 + rd x i > n then brk x n d (i + 1) (rd x i) (o ++ [[(i : Int)]]) else brk x n d (i + 1) (u + 1 + rd x i) (setLast o i)
def brkI (i : Nat) (o : List (List Int)) : Prop := o.length ≤ i ∧ (0 < i → 0 < o.length) ∧ ∀ r ∈ o, r.length ≤ i
theorem brkI_new {i : Nat} {o : List (List Int)} (h : brkI i o) : brkI (i + 1) (o ++ [[(i : Int)]]) := by
  refine ⟨by simp; exact h.1, by simp, fun r hr => ?_⟩
  rcases List.mem_append.1 hr with hr | hr
  · have := h.2.2 r hr; omega
  · rw [List.mem_singleton.1 hr]; simp
theorem last_mem {o : List (List Int)} (h : 0 < o.length) : o.getD (o.length - 1) [] ∈ o := getD_mem o [] (o.length - 1) (by omega)
theorem brkI_set {i : Nat} {o : List (List Int)} (h : brkI i o) (hi : 0 < i) : brkI (i + 1) (setLast o i) := by
  refine ⟨by simp [setLast]; have := h.1; omega, by simp [setLast]; have := h.2.1 hi; omega, fun r hr => ?_⟩
  rcases List.mem_or_eq_of_mem_set hr with hr | rfl
  · have := h.2.2 r hr; omega
  · have := h.2.2 _ (last_mem (h.2.1 hi)); rw [List.length_append]; simp only [List.length_cons, List.length_nil]; omega
theorem specBreak_l0 (x : List Int) (n : Int) (hb : widthsB x n = true) (d : Nat) : ∀ (k : Nat) (i : Nat) (u : Int) (o : List (List Int)), i + d = x.length → d < k → brkI i o → (i = 0 → u = n) → 0 ≤ u ∧ u ≤ n →
    spec_BreakLines.l0 k x n o u i = some (brk x n d i u o) := by
  obtain ⟨hw, hl, hn⟩ := (widthsB_iff x n).1 hb
  induction d with
  | zero =>
    intro k i u o hi hk ho hu hr
    obtain ⟨k, rfl⟩ : ∃ m, k = m + 1 := ⟨k - 1, by omega⟩
    rw [spec_BreakLines.l0, if_neg (by omega)]; rfl
  | succ d ih =>
    intro k i u o hi hk ho hu hr
    obtain ⟨k, rfl⟩ : ∃ m, k = m + 1 := ⟨k - 1, by omega⟩
    have hm := hw _ (rd_mem x i (by omega))
    have ho1 := ho.1
    rw [spec_BreakLines.l0, if_pos (by omega), if_pos (by omega), wrap_id (x := u + 1) (by omega) (by omega), wrap_id (x := u + 1 + rd x i) (by omega) (by omega), wrap_cast i (by omega)]
    unfold brk
    by_cases h : u + 1 + rd x i > n
    · rw [if_pos h, if_pos (by omega), if_pos (.inr h)]
      exact ih k (i + 1) _ _ (by omega) (by omega) (brkI_new ho) (by omega) (by omega)
    · have hi0 : i ≠ 0 := fun e => h (by have := hu e; omega)
      have hl0 := ho.2.1 (by omega)
      have e : wrap64 ((o.length : Int) - 1) = ((o.length - 1 : Nat) : Int) := by rw [wrap_id (by omega) (by omega)]; omega
      have er : rd_L1 o ((o.length - 1 : Nat) : Int) = o.getD (o.length - 1) [] := by simp [rd_L1]
      have hlr := ho.2.2 _ (last_mem hl0)
      rw [if_neg h, e, if_pos (by omega), if_pos (by omega), er, if_pos (by omega), Int.toNat_natCast, if_neg (by omega)]
      exact ih k (i + 1) _ _ (by omega) (by omega) (brkI_set ho (by omega)) (by omega) (by omega)
theorem specBreak_eq (x : List Int) (n : Int) (hx : x.length ≤ 1048576) (k : Nat) (hk : x.length < k) : spec_BreakLines.f k x n = some (if widthsB x n = true then brk x n x.length 0 0 [] else []) := by
  unfold spec_BreakLines.f
  rw [specWidths_eq x n hx k hk]
  simp only [Option.bind_some]
  cases hb : widthsB x n with
  | false => simp
  | true =>
    have hn := ((widthsB_iff x n).1 hb).2.2
    have := specBreak_l0 x n hb x.length k 0 n [] (by omega) hk ⟨by simp, by omega, by simp⟩ (fun _ => rfl) (by omega)
    simp only [if_true]
    rw [show ((0 : Nat) : Int) = 0 from rfl] at this
    rw [this]
    cases x with
    | nil => rfl
    | cons a r => simp [brk]
theorem implBreak_l0 (x : List Int) (n : Int) (hb : widthsB x n = true) (d : Nat) : ∀ (k : Nat) (i : Nat) (u : Int) (o : List (List Int)), i + d = x.length → d < k → brkI i o → 0 ≤ u ∧ u ≤ n →
    impl_BreakLines.l0 k n o u x x.length i = some (brk x n d i u o) := by
  obtain ⟨hw, hl, hn⟩ := (widthsB_iff x n).1 hb
  induction d with
  | zero =>
    intro k i u o hi hk ho hr
    obtain ⟨k, rfl⟩ : ∃ m, k = m + 1 := ⟨k - 1, by omega⟩
    rw [impl_BreakLines.l0, if_neg (by omega)]; rfl
  | succ d ih =>
    intro k i u o hi hk ho hr
    obtain ⟨k, rfl⟩ : ∃ m, k = m + 1 := ⟨k - 1, by omega⟩
    have hm := hw _ (rd_mem x i (by omega))
    have ho1 := ho.1
    rw [impl_BreakLines.l0, if_pos (by omega), if_pos (by omega), if_pos (by omega), wrap_id (x := u + 1) (by omega) (by omega), wrap_id (x := u + 1 + rd x i) (by omega) (by omega), wrap_cast i (by omega)]
    unfold brk
    by_cases h0 : i = 0
    · rw [if_neg (by omega), if_pos (by omega), if_pos (.inl h0)]
      exact ih k (i + 1) _ _ (by omega) (by omega) (brkI_new ho) (by omega)
    · rw [if_pos (by omega)]
      by_cases h : u + 1 + rd x i > n
      · rw [if_neg (by omega), if_pos (by omega), if_pos (.inr h)]
        exact ih k (i + 1) _ _ (by omega) (by omega) (brkI_new ho) (by omega)
      · have hl0 := ho.2.1 (by omega)
        have e : wrap64 ((o.length : Int) - 1) = ((o.length - 1 : Nat) : Int) := by rw [wrap_id (by omega) (by omega)]; omega
        have er : rd_L1 o ((o.length - 1 : Nat) : Int) = o.getD (o.length - 1) [] := by simp [rd_L1]
        have hlr := ho.2.2 _ (last_mem hl0)
        have eu : wrap64 (u + wrap64 (1 + rd x i)) = u + 1 + rd x i := by rw [wrap_id (x := 1 + rd x i) (by omega) (by omega), wrap_id (by omega) (by omega)]; omega
        rw [if_pos (by omega), e, if_pos (by omega), if_pos (by omega), er, if_pos (by omega), Int.toNat_natCast, if_neg (by omega), eu]
        exact ih k (i + 1) _ _ (by omega) (by omega) (brkI_set ho (by omega)) (by omega)
theorem implBreak_eq (x : List Int) (n : Int) (hx : x.length ≤ 1048576) (k : Nat) (hk : x.length + 1 < k) : impl_BreakLines.f k x n = some (if widthsB x n = true then brk x n x.length 0 0 [] else []) := by
  unfold impl_BreakLines.f
  rw [implWidths_eq x n hx k hk]
  simp only [Option.bind_some]
  cases hb : widthsB x n with
  | false => simp
  | true =>
    have hn := ((widthsB_iff x n).1 hb).2.2
    have := implBreak_l0 x n hb x.length k 0 0 [] (by omega) (by omega) ⟨by simp, by omega, by simp⟩ (by omega)
    simp only [if_true]
    exact this
theorem pure : laws_FnExactLeastLines.Stm := by
  intro x n _ _ _
  refine ⟨x.length + 3, ?_⟩
  rw [laws_FnExactLeastLines.f]
  by_cases h : x.length ≤ 1048576
  · rw [if_neg (by omega), toIntS_eq x h _ (by omega)]
    simp only [Option.bind_some, spec_LeastLines.f, impl_LeastLines.f]
    rw [specBreak_eq x n h _ (by omega), implBreak_eq x n h _ (by omega)]
    simp only [Option.bind_some, if_true]
    rw [eqIntS_eq x h _ (by omega)]
    simp
  · rw [if_pos (by omega)]
end Go.Proofs.Ytanllimeiofaaaa.PureFnExactLeastLines
