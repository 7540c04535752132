/- The program's HoldsGlyph answers as the reference's for every cache and id, and leaves the cache as it was: no condition. -/
import Derived.Test.YtifaojbmdahoiaaOpsFnExactHoldsGlyph
import Derived.Test.YtifaojbmdahoiaaPlain
namespace Go.Proofs.Ytifaojbmdahoiaa.PureFnExactHoldsGlyph
open Go.RowKit Go.Proofs.Ytifaojbmdahoiaa.PFnExactHoldsGlyph Go.Proofs.Ytifaojbmdahoiaa.Opened Go.Proofs.Ytifaojbmdahoiaa.Plain Go.Proofs.YtifaojbmdahoiaaW.PrintWords Go.Proofs.YtifaojbmdahoiaaW.PrintLast Go.Proofs.YtifaojbmdahoiaaW.PrintMore
set_option linter.unusedVariables false
set_option linter.unusedSimpArgs false
theorem toIntS_l0 (x : List Int) (hx : x.length ≤ 1048576) (d : Nat) : ∀ (k : Nat) (y : List Int) (i : Nat), i + d = x.length → y.length = x.length → d < k → y.take i = x.take i → laws_toIntS.l0 k x y i = some x := by
  induction d with
  | zero =>
    intro k y i hi hl hk h
    obtain ⟨k, rfl⟩ : ∃ m, k = m + 1 := ⟨k - 1, by omega⟩
    rw [laws_toIntS.l0, if_neg (by omega), take_all (by omega) hl h]
  | succ d ih =>
    intro k y i hi hl hk h
    obtain ⟨k, rfl⟩ : ∃ m, k = m + 1 := ⟨k - 1, by omega⟩
    rw [laws_toIntS.l0, if_pos (by omega), if_pos (by omega), if_pos (by omega), wrap_cast i (by omega), rd_nat, Int.toNat_natCast]
    exact ih k _ (i + 1) (by omega) (by simpa using hl) (by omega) (take_set x y 0 i (by omega) hl h)
theorem toIntS_eq (x : List Int) (hx : x.length ≤ 1048576) (k : Nat) (hk : x.length < k) : laws_toIntS.f k x = some x := by
  rw [laws_toIntS.f, if_pos (by omega), if_pos (by omega)]
  exact toIntS_l0 x hx x.length k _ 0 (by omega) (by simp) hk (by simp)
theorem eqIntS_l0 (x : List Int) (hx : x.length ≤ 1048576) (d : Nat) : ∀ (k : Nat) (i : Nat), i + d = x.length → d < k → laws_eqIntS.l0 k x x i = some true := by
  induction d with
  | zero =>
    intro k i hi hk
    obtain ⟨k, rfl⟩ : ∃ m, k = m + 1 := ⟨k - 1, by omega⟩
    rw [laws_eqIntS.l0, if_neg (by omega)]
  | succ d ih =>
    intro k i hi hk
    obtain ⟨k, rfl⟩ : ∃ m, k = m + 1 := ⟨k - 1, by omega⟩
    rw [laws_eqIntS.l0, if_pos (by omega), if_pos (by omega), if_pos (by omega), if_pos rfl, wrap_cast i (by omega)]
    exact ih k (i + 1) (by omega) (by omega)
theorem eqIntS_eq (x : List Int) (hx : x.length ≤ 1048576) (k : Nat) (hk : x.length < k) : laws_eqIntS.f k x x = some true := by
  rw [laws_eqIntS.f, if_pos rfl]
  exact eqIntS_l0 x hx x.length k 0 (by omega) hk
def tot : List S142 → Int
  | [] => 0
  | g :: r => g.f2.length + tot r
theorem tot_nonneg (x : List S142) : 0 ≤ tot x := by
  induction x with
  | nil => simp [tot]
  | cons g r ih => simp only [tot]; omega
theorem tot_mem (x : List S142) (g : S142) (h : g ∈ x) : (g.f2.length : Int) ≤ tot x := by
  induction x with
  | nil => simp at h
  | cons g' r ih =>
    simp only [tot]
    have := tot_nonneg r
    rcases List.mem_cons.1 h with rfl | h
    · omega
    · have := ih h; omega
theorem szIntS_eq (r : List Int) (a : Int) (h0 : 0 ≤ a) (h1 : a ≤ 1048576) (hr : r.length ≤ maxLen) : laws_szIntS.f r a = some (if a - r.length < 0 then -1 else a - r.length) := by
  unfold maxLen at hr
  rw [laws_szIntS.f, wrap_id (by omega) (by omega)]
  split <;> rfl
theorem szGlyphS_l0 (x : List S142) (hx : x.length ≤ 1048576) (hr : ∀ g ∈ x, g.f2.length ≤ maxLen) (d : Nat) : ∀ (k : Nat) (i : Nat) (a : Int), i + d = x.length → d < k → 0 ≤ a → a ≤ 1048576 → laws_szGlyphS.l0 k x a i = some (if a - tot (x.drop i) < 0 then -1 else a - tot (x.drop i)) := by
  induction d with
  | zero =>
    intro k i a hi hk h0 h1
    obtain ⟨k, rfl⟩ : ∃ m, k = m + 1 := ⟨k - 1, by omega⟩
    rw [laws_szGlyphS.l0, if_neg (by omega), List.drop_of_length_le (by omega), tot, if_neg (by omega)]; simp
  | succ d ih =>
    intro k i a hi hk h0 h1
    obtain ⟨k, rfl⟩ : ∃ m, k = m + 1 := ⟨k - 1, by omega⟩
    have e : rd_T142 x i = x.getD i z142 := by simp [rd_T142]
    have hm := hr _ (getD_mem x z142 i (by omega))
    have ht := tot_nonneg (x.drop (i + 1))
    have htot : tot (x.drop i) = (x.getD i z142).f2.length + tot (x.drop (i + 1)) := by rw [getD_drop x z142 i (by omega)]; rfl
    rw [laws_szGlyphS.l0, if_pos (by omega), if_pos (by omega), e, laws_szGlyph.f, szIntS_eq _ a h0 h1 hm]
    simp only [Option.bind_some]
    by_cases c : a - ((x.getD i z142).f2.length : Int) < 0
    · rw [if_pos c, if_pos (show (-1 : Int) < 0 by omega)]
      simp only [Option.bind_some]
      rw [if_pos (show (-1 : Int) < 0 by omega), if_pos (by omega)]
    · rw [if_neg c, if_neg c]
      simp only [Option.bind_some]
      rw [if_neg c, wrap_cast i (by omega), ih k (i + 1) _ (by omega) (by omega) (by omega) (by omega)]
      by_cases c2 : a - (x.getD i z142).f2.length - tot (x.drop (i + 1)) < 0
      · rw [if_pos c2, if_pos (by omega)]
      · rw [if_neg c2, if_neg (by omega)]; congr 1; omega
def szB (x : List S142) : Bool := decide ((x.length : Int) + tot x ≤ 1048576)
theorem szCache_eq (x : List S142) (b c : Int) (hx : x.length ≤ maxLen) (hr : ∀ g ∈ x, g.f2.length ≤ maxLen) (k : Nat) (hk : x.length < k) : laws_szCache.f k x b c 1048576 = some (if szB x = true then 1048576 - x.length - tot x else -1) := by
  unfold maxLen at hx
  have ht := tot_nonneg x
  unfold laws_szCache.f laws_szGlyphS.f szB
  rw [wrap_id (by omega) (by omega)]
  by_cases h : x.length ≤ 1048576
  · rw [if_neg (by omega), show (0 : Int) = ((0 : Nat) : Int) from rfl, szGlyphS_l0 x h hr x.length k 0 _ (by omega) hk (by omega) (by omega)]
    simp only [Option.bind_some, List.drop_zero, decide_eq_true_eq]
    by_cases c : (x.length : Int) + tot x ≤ 1048576
    · rw [if_pos c, if_neg (by omega), if_neg (by omega)]
    · rw [if_neg c, if_pos (by omega)]
  · rw [if_pos (by omega)]
    simp only [Option.bind_some, decide_eq_true_eq]
    rw [if_pos (by omega), if_neg (by omega)]
def toGlyph (x : S142) : S122 := ⟨x.f0, x.f1, x.f2⟩
theorem toGlyphS_l0 (x : List S142) (hx : x.length ≤ 1048576) (hr : ∀ g ∈ x, g.f2.length ≤ 1048576) (d : Nat) : ∀ (k : Nat) (y : List S122) (i : Nat), i + d = x.length → y.length = x.length → d + 1048577 < k → y.take i = (x.take i).map toGlyph → laws_toGlyphS.l0 k x y i = some (x.map toGlyph) := by
  induction d with
  | zero =>
    intro k y i hi hl hk h
    obtain ⟨k, rfl⟩ : ∃ m, k = m + 1 := ⟨k - 1, by omega⟩
    rw [laws_toGlyphS.l0, if_neg (by omega), take_all_map (by omega) hl h]
  | succ d ih =>
    intro k y i hi hl hk h
    obtain ⟨k, rfl⟩ : ∃ m, k = m + 1 := ⟨k - 1, by omega⟩
    have e : rd_T142 x i = x.getD i z142 := by simp [rd_T142]
    have hm := hr _ (getD_mem x z142 i (by omega))
    rw [laws_toGlyphS.l0, if_pos (by omega), if_pos (by omega), e, laws_toGlyph.f, toIntS_eq _ hm k (by omega)]
    simp only [Option.bind_some]
    rw [if_pos (by omega), wrap_cast i (by omega), Int.toNat_natCast]
    exact ih k _ (i + 1) (by omega) (by simpa using hl) (by omega) (take_set_map toGlyph x y z142 _ i (by omega) hl h rfl)
theorem toGlyphS_eq (x : List S142) (hx : x.length ≤ 1048576) (hr : ∀ g ∈ x, g.f2.length ≤ 1048576) (k : Nat) (hk : x.length + 1048577 < k) : laws_toGlyphS.f k x = some (x.map toGlyph) := by
  rw [laws_toGlyphS.f, if_pos (by omega), if_pos (by omega)]
  exact toGlyphS_l0 x hx hr x.length k _ 0 (by omega) (by simp) hk (by simp)
theorem eqGlyph_eq (x : S122) (hr : x.f2.length ≤ 1048576) (k : Nat) (hk : x.f2.length < k) : laws_eqGlyph.f k x.f0 x.f1 x.f2 x.f0 x.f1 x.f2 = some true := by
  simp [laws_eqGlyph.f, eqIntS_eq x.f2 hr k hk]
theorem eqGlyphS_l0 (x : List S122) (hx : x.length ≤ 1048576) (hr : ∀ g ∈ x, g.f2.length ≤ 1048576) (d : Nat) : ∀ (k : Nat) (i : Nat), i + d = x.length → d + 1048577 < k → laws_eqGlyphS.l0 k x x i = some true := by
  induction d with
  | zero =>
    intro k i hi hk
    obtain ⟨k, rfl⟩ : ∃ m, k = m + 1 := ⟨k - 1, by omega⟩
    rw [laws_eqGlyphS.l0, if_neg (by omega)]
  | succ d ih =>
    intro k i hi hk
    obtain ⟨k, rfl⟩ : ∃ m, k = m + 1 := ⟨k - 1, by omega⟩
    have e : rd_T122 x i = x.getD i z122 := by simp [rd_T122]
    have hm := hr _ (getD_mem x z122 i (by omega))
    rw [laws_eqGlyphS.l0, if_pos (by omega), if_pos (by omega), if_pos (by omega), e, eqGlyph_eq _ hm k (by omega)]
    simp only [Option.bind_some, if_true]
    rw [wrap_cast i (by omega)]
    exact ih k (i + 1) (by omega) (by omega)
theorem eqGlyphS_eq (x : List S122) (hx : x.length ≤ 1048576) (hr : ∀ g ∈ x, g.f2.length ≤ 1048576) (k : Nat) (hk : x.length + 1048577 < k) : laws_eqGlyphS.f k x x = some true := by
  rw [laws_eqGlyphS.f, if_pos rfl]
  exact eqGlyphS_l0 x hx hr x.length k 0 (by omega) hk
theorem map_rows (x : List S142) (hr : ∀ g ∈ x, g.f2.length ≤ 1048576) : ∀ g ∈ x.map toGlyph, g.f2.length ≤ 1048576 := by
  intro g hg
  obtain ⟨g', hg', rfl⟩ := List.mem_map.1 hg
  exact hr g' hg'
theorem szB_rows (x : List S142) (h : szB x = true) : x.length ≤ 1048576 ∧ ∀ g ∈ x, g.f2.length ≤ 1048576 := by
  unfold szB at h
  have h := of_decide_eq_true h
  have ht := tot_nonneg x
  exact ⟨by omega, fun g hg => by have := tot_mem x g hg; omega⟩
theorem holds_l0 (x : List S122) (hx : x.length ≤ 1048576) (id b c : Int) (d : Nat) : ∀ (k : Nat) (i : Nat), i + d = x.length → d < k → ∃ r, impl_glyphAt.l0 k id false x x.length i = some r ∧ spec_HoldsGlyph.l0 k id i x b c = some (decide (r ≥ 0)) := by
  induction d with
  | zero =>
    intro k i hi hk
    obtain ⟨k, rfl⟩ : ∃ m, k = m + 1 := ⟨k - 1, by omega⟩
    rw [impl_glyphAt.l0, spec_HoldsGlyph.l0, if_neg (by omega), if_neg (by omega)]
    exact ⟨-1, rfl, rfl⟩
  | succ d ih =>
    intro k i hi hk
    obtain ⟨k, rfl⟩ : ∃ m, k = m + 1 := ⟨k - 1, by omega⟩
    have c1 : (i : Int) < (x.length : Int) := by omega
    have c2 : 0 ≤ (i : Int) := by omega
    simp only [impl_glyphAt.l0, spec_HoldsGlyph.l0, if_pos c1, if_pos c2, wrap_cast i (by omega), Bool.false_eq_true, if_false]
    by_cases h : (rd_T122 x i).f0 = id
    · simp only [if_pos h]
      exact ⟨i, rfl, by simp⟩
    · simp only [if_neg h]
      exact ih k (i + 1) (by omega) (by omega)
theorem holds_eq (x : List S122) (hx : x.length ≤ 1048576) (id b c : Int) (k : Nat) (hk : x.length < k) : ∃ r, impl_HoldsGlyph.f k x b c id = some r ∧ spec_HoldsGlyph.f k x b c id = some r := by
  obtain ⟨r, e1, e2⟩ := holds_l0 x hx id b c x.length k 0 (by omega) hk
  unfold impl_HoldsGlyph.f spec_HoldsGlyph.f impl_glyphAt.f
  rw [show (0 : Int) = ((0 : Nat) : Int) from rfl, e1, e2]
  exact ⟨_, rfl, rfl⟩
theorem pure : laws_FnExactHoldsGlyph.Stm := by
  intro x b c id hx _ _ _
  have hr : ∀ g ∈ x, g.f2.length ≤ maxLen := fun g hg => (hx.2 g hg).2.2.1
  refine ⟨x.length + 1048579, ?_⟩
  rw [laws_FnExactHoldsGlyph.f, szCache_eq x b c hx.1 hr _ (by omega)]
  simp only [Option.bind_some]
  by_cases h : szB x = true
  · obtain ⟨h1, h2⟩ := szB_rows x h
    have ht := of_decide_eq_true (show decide ((x.length : Int) + tot x ≤ 1048576) = true from h)
    have hm : (x.map toGlyph).length = x.length := by simp
    obtain ⟨r, e1, e2⟩ := holds_eq (x.map toGlyph) (by omega) id b c (x.length + 1048579) (by omega)
    rw [if_pos h, if_neg (by omega), laws_toCache.f, toGlyphS_eq x h1 h2 _ (by omega)]
    simp only [Option.bind_some]
    rw [e1, e2, laws_eqCache.f]
    simp only [Option.bind_some]
    rw [eqGlyphS_eq (x.map toGlyph) (by omega) (map_rows x h2) _ (by omega)]
    simp
  · rw [if_neg h, if_pos (by omega)]
end Go.Proofs.Ytifaojbmdahoiaa.PureFnExactHoldsGlyph
