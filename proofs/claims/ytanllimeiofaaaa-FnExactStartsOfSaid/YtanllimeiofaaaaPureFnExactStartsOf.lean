/- The program's StartsOf answers as the reference's for all widths, every line, width and alignment, leaves its arguments as they were, and hands back memory of its own: no condition. -/
import Derived.Test.YtanllimeiofaaaaOpsFnExactStartsOf
import Derived.Test.YtanllimeiofaaaaPlain
namespace Go.Proofs.Ytanllimeiofaaaa.PureFnExactStartsOf
open Go.RowKit Go.Proofs.Ytanllimeiofaaaa.PFnExactStartsOf Go.Proofs.Ytanllimeiofaaaa.Opened Go.Proofs.Ytanllimeiofaaaa.Plain Go.Proofs.YtanllimeiofaaaaW.PrintWords Go.Proofs.YtanllimeiofaaaaW.PrintLast Go.Proofs.YtanllimeiofaaaaW.PrintMore
set_option linter.unusedVariables false
set_option linter.unusedSimpArgs false
theorem toIntS_l0 (x : List Int) (hx : x.length ≤ 1048576) (d : Nat) : ∀ (k : Nat) (y : List Int) (i : Nat), i + d = x.length → y.length = x.length → d < k → y.take i = x.take i → laws_toIntS.l0 k x y i = some x := by
  induction d with
  | zero =>
    intro k y i hi hl hk h
    obtain ⟨k, rfl⟩ : ∃ m, k = m + 1 := ⟨k - 1, by omega⟩
    rw [laws_toIntS.l0, if_neg (by omega), take_all (by omega) hl h]
  | succ d ih =>
    intro k y i hi hl hk h
    obtain ⟨k, rfl⟩ : ∃ m, k = m + 1 := ⟨k - 1, by omega⟩
    rw [laws_toIntS.l0, if_pos (by omega), if_pos (by omega), if_pos (by omega), wrap_cast i (by omega), rd_nat, Int.toNat_natCast]
    exact ih k _ (i + 1) (by omega) (by simpa using hl) (by omega) (take_set x y 0 i (by omega) hl h)
theorem toIntS_eq (x : List Int) (hx : x.length ≤ 1048576) (k : Nat) (hk : x.length < k) : laws_toIntS.f k x = some x := by
  rw [laws_toIntS.f, if_pos (by omega), if_pos (by omega)]
  exact toIntS_l0 x hx x.length k _ 0 (by omega) (by simp) hk (by simp)
theorem eqIntS_l0 (x : List Int) (hx : x.length ≤ 1048576) (d : Nat) : ∀ (k : Nat) (i : Nat), i + d = x.length → d < k → laws_eqIntS.l0 k x x i = some true := by
  induction d with
  | zero =>
    intro k i hi hk
    obtain ⟨k, rfl⟩ : ∃ m, k = m + 1 := ⟨k - 1, by omega⟩
    rw [laws_eqIntS.l0, if_neg (by omega)]
  | succ d ih =>
    intro k i hi hk
    obtain ⟨k, rfl⟩ : ∃ m, k = m + 1 := ⟨k - 1, by omega⟩
    rw [laws_eqIntS.l0, if_pos (by omega), if_pos (by omega), if_pos (by omega), if_pos rfl, wrap_cast i (by omega)]
    exact ih k (i + 1) (by omega) (by omega)
theorem eqIntS_eq (x : List Int) (hx : x.length ≤ 1048576) (k : Nat) (hk : x.length < k) : laws_eqIntS.f k x x = some true := by
  rw [laws_eqIntS.f, if_pos rfl]
  exact eqIntS_l0 x hx x.length k 0 (by omega) hk
def markL : Nat → Int → List Int
  | 0, _ => []
  | n + 1, m => m :: markL n (m + 1)
theorem markL_length (n : Nat) : ∀ m, (markL n m).length = n := by
  induction n with
  | zero => intro m; rfl
  | succ n ih => intro m; simp [markL, ih]
theorem set_at {α : Type} (p r : List α) (a b : α) : (p ++ a :: r).set p.length b = p ++ b :: r := by
  rw [List.set_append_right _ _ (Nat.le_refl _)]; simp
theorem markIntS_l0 (r : List Int) : ∀ (k : Nat) (p : List Int) (m : Int), r.length < k → p.length + r.length ≤ 2097152 → 0 ≤ m → m + r.length ≤ 100000000 → laws_markIntS.l0 k (p ++ r) m p.length = some (m + r.length, p ++ markL r.length m) := by
  induction r with
  | nil =>
    intro k p m hk hp h0 h1
    obtain ⟨k, rfl⟩ : ∃ q, k = q + 1 := ⟨k - 1, by omega⟩
    rw [laws_markIntS.l0, if_neg (by simp)]
    simp [markL]
  | cons a r ih =>
    intro k p m hk hp h0 h1
    simp only [List.length_cons] at hk hp h1
    obtain ⟨k, rfl⟩ : ∃ q, k = q + 1 := ⟨k - 1, by omega⟩
    have := ih k (p ++ [m]) (m + 1) (by omega) (by simp; omega) (by omega) (by omega)
    rw [laws_markIntS.l0, if_pos (by simp; omega), if_pos (by omega), Int.toNat_natCast, set_at, wrap_id (x := m + 1) (by omega) (by omega), wrap_cast p.length (by omega)]
    simp only [List.append_assoc, List.cons_append, List.nil_append, List.length_append, List.length_cons, List.length_nil, Nat.zero_add] at this
    rw [this]
    simp only [List.length_cons, markL]
    congr 2; omega
theorem markIntS_eq (x : List Int) (m : Int) (k : Nat) (hk : x.length < k) (hx : x.length ≤ 2097152) (h0 : 0 ≤ m) (h1 : m + x.length ≤ 100000000) : laws_markIntS.f k x m = some (m + x.length, markL x.length m) := by
  have := markIntS_l0 x k [] m hk (by simpa using hx) h0 h1
  simpa [laws_markIntS.f] using this
theorem heldIntS_l0 (n : Nat) : ∀ (k : Nat) (p : List Int) (m : Int), n < k → p.length + n ≤ 2097152 → 0 ≤ m → m + n ≤ 100000000 → laws_heldIntS.l0 k (p ++ markL n m) m p.length = some (m + n) := by
  induction n with
  | zero =>
    intro k p m hk hp h0 h1
    obtain ⟨k, rfl⟩ : ∃ q, k = q + 1 := ⟨k - 1, by omega⟩
    rw [laws_heldIntS.l0, if_neg (by simp [markL])]
    simp
  | succ n ih =>
    intro k p m hk hp h0 h1
    obtain ⟨k, rfl⟩ : ∃ q, k = q + 1 := ⟨k - 1, by omega⟩
    have := ih k (p ++ [m]) (m + 1) (by omega) (by simp; omega) (by omega) (by omega)
    have e : rd (p ++ markL (n + 1) m) (p.length : Int) = m := by rw [rd_nat]; simp [markL]
    rw [laws_heldIntS.l0, if_pos (by simp [markL_length]; omega), if_pos (by omega), e, if_pos rfl, wrap_id (x := m + 1) (by omega) (by omega), wrap_cast p.length (by omega)]
    simp only [List.append_assoc, List.cons_append, List.nil_append, List.length_append, List.length_cons, List.length_nil, Nat.zero_add] at this
    simp only [markL]
    rw [this]
    congr 1; omega
theorem heldIntS_eq (n : Nat) (m : Int) (k : Nat) (hk : n < k) (hn : n ≤ 2097152) (h0 : 0 ≤ m) (h1 : m + n ≤ 100000000) : laws_heldIntS.f k (markL n m) m = some (m + n) := by
  have := heldIntS_l0 n k [] m hk (by simpa using hn) h0 h1
  simpa [laws_heldIntS.f] using this
def inB (a b c : Int) : Bool := if a ≥ b then decide (a ≤ c) else false
theorem in_eq (a b c : Int) : spec_l01In.f a b c = some (inB a b c) := by unfold spec_l01In.f inB; split <;> rfl
theorem within_eq (a b c : Int) : impl_within.f a b c = some (inB a b c) := in_eq a b c
theorem inB_iff (a b c : Int) : inB a b c = true ↔ b ≤ a ∧ a ≤ c := by unfold inB; split <;> simp <;> omega
theorem implWidth_l0 (x y : List Int) (hx : x.length ≤ 1048576) (hy : y.length ≤ 1048576) (d : Nat) : ∀ (k : Nat) (i : Nat) (a : Int), i + d = y.length → d < k → impl_LineWidth.l0 k x a y y.length i = spec_LineWidth.l0 k x y a i := by
  induction d with
  | zero =>
    intro k i a hi hk
    obtain ⟨k, rfl⟩ : ∃ m, k = m + 1 := ⟨k - 1, by omega⟩
    rw [impl_LineWidth.l0, spec_LineWidth.l0, if_neg (by omega), if_neg (by omega)]
  | succ d ih =>
    intro k i a hi hk
    obtain ⟨k, rfl⟩ : ∃ m, k = m + 1 := ⟨k - 1, by omega⟩
    have c1 : (i : Int) < (y.length : Int) := by omega
    have c2 : 0 ≤ (i : Int) := by omega
    simp only [impl_LineWidth.l0, spec_LineWidth.l0, if_pos c1, if_pos c2, in_eq, within_eq, Option.bind_some, wrap_cast i (by omega)]
    rw [ih k (i + 1) _ (by omega) (by omega)]
theorem specWidth_l0 (x y : List Int) (hx : x.length ≤ 1048576) (hy : y.length ≤ 1048576) (d : Nat) : ∀ (k : Nat) (i : Nat) (a : Int), i + d = y.length → d < k → ∃ r, spec_LineWidth.l0 k x y a i = some r := by
  induction d with
  | zero =>
    intro k i a hi hk
    obtain ⟨k, rfl⟩ : ∃ m, k = m + 1 := ⟨k - 1, by omega⟩
    rw [spec_LineWidth.l0, if_neg (by omega)]
    exact ⟨_, rfl⟩
  | succ d ih =>
    intro k i a hi hk
    obtain ⟨k, rfl⟩ : ∃ m, k = m + 1 := ⟨k - 1, by omega⟩
    rw [spec_LineWidth.l0, if_pos (by omega), if_pos (by omega), in_eq]
    simp only [Option.bind_some]
    cases h : inB (rd y i) 0 (wrap64 ((x.length : Int) - 1)) with
    | false => exact ⟨0, by simp⟩
    | true =>
      rw [inB_iff, wrap_id (by omega) (by omega)] at h
      rw [if_pos rfl, if_pos (by omega), if_pos (by omega), wrap_cast i (by omega)]
      exact ih k (i + 1) _ (by omega) (by omega)
theorem specWidth_some (x y : List Int) (hx : x.length ≤ 1048576) (hy : y.length ≤ 1048576) (k : Nat) (hk : y.length < k) : ∃ r, spec_LineWidth.f k x y = some r := specWidth_l0 x y hx hy y.length k 0 _ (by omega) hk
theorem implWidth_eq (x y : List Int) (hx : x.length ≤ 1048576) (hy : y.length ≤ 1048576) (k : Nat) (hk : y.length < k) : impl_LineWidth.f k x y = spec_LineWidth.f k x y := by
  unfold impl_LineWidth.f spec_LineWidth.f
  by_cases h : (y.length : Int) = 0
  · obtain ⟨k, rfl⟩ : ∃ m, k = m + 1 := ⟨k - 1, by omega⟩
    rw [if_pos h, spec_LineWidth.l0, if_neg (by omega), h, wrap_id (by omega) (by omega)]
    rfl
  · rw [if_neg h]
    exact implWidth_l0 x y hx hy y.length k 0 _ (by omega) hk
theorem spec_mono (x y o : List Int) (s i : Int) (k : Nat) (q : List Int) (h : spec_StartsOf.l0 k x y o s i = some q) : spec_StartsOf.l0 (k + 1) x y o s i = some q := (spec_StartsOf.mono_l k).2 _ _ _ _ _ _ h
theorem implStarts_l0 (x y : List Int) (hx : x.length ≤ 1048576) (hy : y.length ≤ 1048576) (hin : ∀ i : Nat, i < y.length → 0 ≤ rd y i ∧ rd y i < x.length) (d : Nat) : ∀ (k : Nat) (i : Nat) (a : Int) (o : List Int), i + d = y.length → d < k → o.length = i →
    ∃ q, spec_StartsOf.l0 k x y o a i = some q ∧ impl_StartsOf.l0 k x a o y y.length i = some q ∧ q.length = y.length := by
  induction d with
  | zero =>
    intro k i a o hi hk ho
    obtain ⟨k, rfl⟩ : ∃ m, k = m + 1 := ⟨k - 1, by omega⟩
    rw [impl_StartsOf.l0, spec_StartsOf.l0, if_neg (by omega), if_neg (by omega)]
    exact ⟨o, rfl, rfl, by omega⟩
  | succ d ih =>
    intro k i a o hi hk ho
    obtain ⟨k, rfl⟩ : ∃ m, k = m + 1 := ⟨k - 1, by omega⟩
    have c1 : (i : Int) < (y.length : Int) := by omega
    have c2 : 0 ≤ (i : Int) := by omega
    have c3 := hin i (by omega)
    have c4 : o.length < 17592186044416 := by omega
    have e : wrap64 (a + wrap64 (rd x (rd y i) + 1)) = wrap64 (wrap64 (a + rd x (rd y i)) + 1) := by unfold wrap64; omega
    simp only [impl_StartsOf.l0, spec_StartsOf.l0, if_pos c1, if_pos c2, if_pos c3.1, if_pos c3.2, if_pos c4, wrap_cast i (by omega), e]
    exact ih k (i + 1) _ _ (by omega) (by omega) (by simp; omega)
theorem widthIn_l0 (x y : List Int) (hx : x.length ≤ 1048576) (hy : y.length ≤ 1048576) (d : Nat) : ∀ (k : Nat) (i : Nat) (a r : Int), i + d = y.length → d < k → spec_LineWidth.l0 k x y a i = some r → r ≠ 0 → ∀ j : Nat, i ≤ j → j < y.length → 0 ≤ rd y j ∧ rd y j < x.length := by
  induction d with
  | zero => intro k i a r hi hk h hr j h1 h2; omega
  | succ d ih =>
    intro k i a r hi hk h hr j h1 h2
    obtain ⟨k, rfl⟩ : ∃ m, k = m + 1 := ⟨k - 1, by omega⟩
    rw [spec_LineWidth.l0, if_pos (by omega), if_pos (by omega), in_eq] at h
    simp only [Option.bind_some] at h
    cases hb : inB (rd y i) 0 (wrap64 ((x.length : Int) - 1)) with
    | false => rw [hb] at h; simp at h; omega
    | true =>
      rw [hb] at h
      rw [inB_iff, wrap_id (by omega) (by omega)] at hb
      rw [if_pos rfl, if_pos (by omega), if_pos (by omega), wrap_cast i (by omega)] at h
      by_cases hij : j = i
      · subst hij; omega
      · exact ih k (i + 1) _ r (by omega) (by omega) h hr j (by omega) h2
theorem starts_eq (x y : List Int) (hx : x.length ≤ 1048576) (hy : y.length ≤ 1048576) (w a : Int) (k : Nat) (hk : y.length + 4 < k) : ∃ q, spec_StartsOf.f k x y w a = some q ∧ impl_StartsOf.f k x y w a = some q ∧ q.length ≤ y.length := by
  obtain ⟨r, hr⟩ := specWidth_some x y hx hy k (by omega)
  have hr' := hr
  rw [spec_LineWidth.f] at hr'
  unfold spec_StartsOf.f impl_StartsOf.f
  rw [implWidth_eq x y hx hy k (by omega), hr]
  obtain ⟨k, rfl⟩ : ∃ m, k = m + 1 := ⟨k - 1, by omega⟩
  simp only [Option.bind_some, spec_StartsOf.j0, impl_StartsOf.j0, in_eq, within_eq]
  by_cases h0 : r = 0
  · exact ⟨[], by simp [h0], by simp [h0], by simp⟩
  · by_cases h1 : r > w
    · exact ⟨[], by simp [h0, h1], by simp [h0, h1], by simp⟩
    · simp only [if_neg h0, if_neg h1]
      cases ha : inB a 0 2 with
      | false => exact ⟨[], by simp, by simp, by simp⟩
      | true =>
        rw [inB_iff] at ha
        have hin : ∀ i : Nat, i < y.length → 0 ≤ rd y i ∧ rd y i < x.length := fun i hi => widthIn_l0 x y hx hy y.length (k + 1) 0 _ r (by omega) (by omega) hr' h0 i (by omega) hi
        obtain ⟨k, rfl⟩ : ∃ m, k = m + 1 := ⟨k - 1, by omega⟩
        have hj : ∀ s, impl_StartsOf.j1 (k + 1) x y s = impl_StartsOf.l0 k x s [] y y.length 0 := fun s => by simp [impl_StartsOf.j1]
        have key : ∀ s, ∃ q, spec_StartsOf.l0 (k + 1) x y [] s 0 = some q ∧ impl_StartsOf.l0 k x s [] y y.length 0 = some q ∧ q.length = y.length := fun s => by
          obtain ⟨q, e1, e2, e3⟩ := implStarts_l0 x y hx hy hin y.length k 0 s [] (by omega) (by omega) rfl
          exact ⟨q, spec_mono x y [] s 0 k q e1, e2, e3⟩
        have h012 : a = 0 ∨ a = 1 ∨ a = 2 := by omega
        rcases h012 with rfl | rfl | rfl
        · obtain ⟨q, e1, e2, e3⟩ := key 0
          exact ⟨q, by simpa [rd] using e1, by simpa [hj] using e2, by omega⟩
        · obtain ⟨q, e1, e2, e3⟩ := key (wrap64 (w - r))
          exact ⟨q, by simpa [rd] using e1, by simpa [hj] using e2, by omega⟩
        · obtain ⟨q, e1, e2, e3⟩ := key (wrap64 (Int.tdiv (wrap64 (w - r)) 2))
          exact ⟨q, by simpa [rd] using e1, by simpa [hj] using e2, by omega⟩
theorem pure : laws_FnExactStartsOf.Stm := by
  intro x y w a _ _ _ _ _ _
  refine ⟨x.length + y.length + 10, ?_⟩
  rw [laws_FnExactStartsOf.f]
  by_cases h : x.length ≤ 1048576
  · rw [if_neg (by omega)]
    by_cases h2 : y.length ≤ 1048576
    · rw [if_neg (by omega), toIntS_eq x h _ (by omega), toIntS_eq y h2 _ (by omega)]
      obtain ⟨q, e1, e2, e3⟩ := starts_eq x y h h2 w a (x.length + y.length + 10) (by omega)
      obtain ⟨q', e1', e2', _⟩ := starts_eq x y h h2 w a (x.length + y.length + 9) (by omega)
      have hq : q' = q := Option.some.inj ((impl_StartsOf.mono x y w a (x.length + y.length + 9) q' e2').symm.trans e2)
      subst hq
      simp only [Option.bind_some, e1, e2, if_true, eqIntS_eq q' (by omega) _ (by omega : q'.length < x.length + y.length + 10), eqIntS_eq x h _ (by omega : x.length < x.length + y.length + 10), eqIntS_eq y h2 _ (by omega : y.length < x.length + y.length + 10)]
      rw [markIntS_eq x 1 _ (by omega) (by omega) (by omega) (by omega)]
      simp only [Option.bind_some]
      rw [markIntS_eq y _ _ (by omega) (by omega) (by omega) (by omega)]
      simp only [Option.bind_some]
      rw [if_neg (by omega), show x.length + y.length + 10 = (x.length + y.length + 9) + 1 by omega, laws_FnExactStartsOf.j0]
      simp only [Bool.not_true, Bool.false_eq_true, if_false]
      rw [markIntS_eq q' 1 _ (by omega) (by omega) (by omega) (by omega)]
      simp only [Option.bind_some]
      rw [heldIntS_eq q'.length 1 _ (by omega) (by omega) (by omega) (by omega)]
      simp only [Option.bind_some]
      rw [if_neg (by omega)]
      simp only [if_true]
      rw [toIntS_eq x h _ (by omega), toIntS_eq y h2 _ (by omega)]
      simp only [Option.bind_some, e2']
      rw [eqIntS_eq q' (by omega) _ (by omega)]
      simp only [Option.bind_some, if_true]
      rw [if_neg (by omega)]
    · rw [if_pos (by omega)]
  · rw [if_pos (by omega)]
end Go.Proofs.Ytanllimeiofaaaa.PureFnExactStartsOf
