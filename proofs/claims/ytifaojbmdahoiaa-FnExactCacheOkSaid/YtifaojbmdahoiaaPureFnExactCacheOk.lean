/- The program's CacheOk answers as the reference's for every cache and leaves it as it was: no condition. -/
import Derived.Test.YtifaojbmdahoiaaOpsFnExactCacheOk
import Derived.Test.YtifaojbmdahoiaaPlain
namespace Go.Proofs.Ytifaojbmdahoiaa.PureFnExactCacheOk
open Go.RowKit Go.Proofs.Ytifaojbmdahoiaa.PFnExactCacheOk Go.Proofs.Ytifaojbmdahoiaa.Opened Go.Proofs.Ytifaojbmdahoiaa.Plain Go.Proofs.YtifaojbmdahoiaaW.PrintWords Go.Proofs.YtifaojbmdahoiaaW.PrintLast Go.Proofs.YtifaojbmdahoiaaW.PrintMore
set_option linter.unusedVariables false
set_option linter.unusedSimpArgs false
theorem toIntS_l0 (x : List Int) (hx : x.length ≤ 1048576) (d : Nat) : ∀ (k : Nat) (y : List Int) (i : Nat), i + d = x.length → y.length = x.length → d < k → y.take i = x.take i → laws_toIntS.l0 k x y i = some x := by
  induction d with
  | zero =>
    intro k y i hi hl hk h
    obtain ⟨k, rfl⟩ : ∃ m, k = m + 1 := ⟨k - 1, by omega⟩
    rw [laws_toIntS.l0, if_neg (by omega), take_all (by omega) hl h]
  | succ d ih =>
    intro k y i hi hl hk h
    obtain ⟨k, rfl⟩ : ∃ m, k = m + 1 := ⟨k - 1, by omega⟩
    rw [laws_toIntS.l0, if_pos (by omega), if_pos (by omega), if_pos (by omega), wrap_cast i (by omega), rd_nat, Int.toNat_natCast]
    exact ih k _ (i + 1) (by omega) (by simpa using hl) (by omega) (take_set x y 0 i (by omega) hl h)
theorem toIntS_eq (x : List Int) (hx : x.length ≤ 1048576) (k : Nat) (hk : x.length < k) : laws_toIntS.f k x = some x := by
  rw [laws_toIntS.f, if_pos (by omega), if_pos (by omega)]
  exact toIntS_l0 x hx x.length k _ 0 (by omega) (by simp) hk (by simp)
theorem eqIntS_l0 (x : List Int) (hx : x.length ≤ 1048576) (d : Nat) : ∀ (k : Nat) (i : Nat), i + d = x.length → d < k → laws_eqIntS.l0 k x x i = some true := by
  induction d with
  | zero =>
    intro k i hi hk
    obtain ⟨k, rfl⟩ : ∃ m, k = m + 1 := ⟨k - 1, by omega⟩
    rw [laws_eqIntS.l0, if_neg (by omega)]
  | succ d ih =>
    intro k i hi hk
    obtain ⟨k, rfl⟩ : ∃ m, k = m + 1 := ⟨k - 1, by omega⟩
    rw [laws_eqIntS.l0, if_pos (by omega), if_pos (by omega), if_pos (by omega), if_pos rfl, wrap_cast i (by omega)]
    exact ih k (i + 1) (by omega) (by omega)
theorem eqIntS_eq (x : List Int) (hx : x.length ≤ 1048576) (k : Nat) (hk : x.length < k) : laws_eqIntS.f k x x = some true := by
  rw [laws_eqIntS.f, if_pos rfl]
  exact eqIntS_l0 x hx x.length k 0 (by omega) hk
def tot : List S142 → Int
  | [] => 0
  | g :: r => g.f2.length + tot r
theorem tot_nonneg (x : List S142) : 0 ≤ tot x := by
  induction x with
  | nil => simp [tot]
  | cons g r ih => simp only [tot]; omega
theorem tot_mem (x : List S142) (g : S142) (h : g ∈ x) : (g.f2.length : Int) ≤ tot x := by
  induction x with
  | nil => simp at h
  | cons g' r ih =>
    simp only [tot]
    have := tot_nonneg r
    rcases List.mem_cons.1 h with rfl | h
    · omega
    · have := ih h; omega
theorem szIntS_eq (r : List Int) (a : Int) (h0 : 0 ≤ a) (h1 : a ≤ 1048576) (hr : r.length ≤ maxLen) : laws_szIntS.f r a = some (if a - r.length < 0 then -1 else a - r.length) := by
  unfold maxLen at hr
  rw [laws_szIntS.f, wrap_id (by omega) (by omega)]
  split <;> rfl
theorem szGlyphS_l0 (x : List S142) (hx : x.length ≤ 1048576) (hr : ∀ g ∈ x, g.f2.length ≤ maxLen) (d : Nat) : ∀ (k : Nat) (i : Nat) (a : Int), i + d = x.length → d < k → 0 ≤ a → a ≤ 1048576 → laws_szGlyphS.l0 k x a i = some (if a - tot (x.drop i) < 0 then -1 else a - tot (x.drop i)) := by
  induction d with
  | zero =>
    intro k i a hi hk h0 h1
    obtain ⟨k, rfl⟩ : ∃ m, k = m + 1 := ⟨k - 1, by omega⟩
    rw [laws_szGlyphS.l0, if_neg (by omega), List.drop_of_length_le (by omega), tot, if_neg (by omega)]; simp
  | succ d ih =>
    intro k i a hi hk h0 h1
    obtain ⟨k, rfl⟩ : ∃ m, k = m + 1 := ⟨k - 1, by omega⟩
    have e : rd_T142 x i = x.getD i z142 := by simp [rd_T142]
    have hm := hr _ (getD_mem x z142 i (by omega))
    have ht := tot_nonneg (x.drop (i + 1))
    have htot : tot (x.drop i) = (x.getD i z142).f2.length + tot (x.drop (i + 1)) := by rw [getD_drop x z142 i (by omega)]; rfl
    rw [laws_szGlyphS.l0, if_pos (by omega), if_pos (by omega), e, laws_szGlyph.f, szIntS_eq _ a h0 h1 hm]
    simp only [Option.bind_some]
    by_cases c : a - ((x.getD i z142).f2.length : Int) < 0
    · rw [if_pos c, if_pos (show (-1 : Int) < 0 by omega)]
      simp only [Option.bind_some]
      rw [if_pos (show (-1 : Int) < 0 by omega), if_pos (by omega)]
    · rw [if_neg c, if_neg c]
      simp only [Option.bind_some]
      rw [if_neg c, wrap_cast i (by omega), ih k (i + 1) _ (by omega) (by omega) (by omega) (by omega)]
      by_cases c2 : a - (x.getD i z142).f2.length - tot (x.drop (i + 1)) < 0
      · rw [if_pos c2, if_pos (by omega)]
      · rw [if_neg c2, if_neg (by omega)]; congr 1; omega
def szB (x : List S142) : Bool := decide ((x.length : Int) + tot x ≤ 1048576)
theorem szCache_eq (x : List S142) (b c : Int) (hx : x.length ≤ maxLen) (hr : ∀ g ∈ x, g.f2.length ≤ maxLen) (k : Nat) (hk : x.length < k) : laws_szCache.f k x b c 1048576 = some (if szB x = true then 1048576 - x.length - tot x else -1) := by
  unfold maxLen at hx
  have ht := tot_nonneg x
  unfold laws_szCache.f laws_szGlyphS.f szB
  rw [wrap_id (by omega) (by omega)]
  by_cases h : x.length ≤ 1048576
  · rw [if_neg (by omega), show (0 : Int) = ((0 : Nat) : Int) from rfl, szGlyphS_l0 x h hr x.length k 0 _ (by omega) hk (by omega) (by omega)]
    simp only [Option.bind_some, List.drop_zero, decide_eq_true_eq]
    by_cases c : (x.length : Int) + tot x ≤ 1048576
    · rw [if_pos c, if_neg (by omega), if_neg (by omega)]
    · rw [if_neg c, if_pos (by omega)]
  · rw [if_pos (by omega)]
    simp only [Option.bind_some, decide_eq_true_eq]
    rw [if_pos (by omega), if_neg (by omega)]
def toGlyph (x : S142) : S122 := ⟨x.f0, x.f1, x.f2⟩
theorem toGlyphS_l0 (x : List S142) (hx : x.length ≤ 1048576) (hr : ∀ g ∈ x, g.f2.length ≤ 1048576) (d : Nat) : ∀ (k : Nat) (y : List S122) (i : Nat), i + d = x.length → y.length = x.length → d + 1048577 < k → y.take i = (x.take i).map toGlyph → laws_toGlyphS.l0 k x y i = some (x.map toGlyph) := by
  induction d with
  | zero =>
    intro k y i hi hl hk h
    obtain ⟨k, rfl⟩ : ∃ m, k = m + 1 := ⟨k - 1, by omega⟩
    rw [laws_toGlyphS.l0, if_neg (by omega), take_all_map (by omega) hl h]
  | succ d ih =>
    intro k y i hi hl hk h
    obtain ⟨k, rfl⟩ : ∃ m, k = m + 1 := ⟨k - 1, by omega⟩
    have e : rd_T142 x i = x.getD i z142 := by simp [rd_T142]
    have hm := hr _ (getD_mem x z142 i (by omega))
    rw [laws_toGlyphS.l0, if_pos (by omega), if_pos (by omega), e, laws_toGlyph.f, toIntS_eq _ hm k (by omega)]
    simp only [Option.bind_some]
    rw [if_pos (by omega), wrap_cast i (by omega), Int.toNat_natCast]
    exact ih k _ (i + 1) (by omega) (by simpa using hl) (by omega) (take_set_map toGlyph x y z142 _ i (by omega) hl h rfl)
theorem toGlyphS_eq (x : List S142) (hx : x.length ≤ 1048576) (hr : ∀ g ∈ x, g.f2.length ≤ 1048576) (k : Nat) (hk : x.length + 1048577 < k) : laws_toGlyphS.f k x = some (x.map toGlyph) := by
  rw [laws_toGlyphS.f, if_pos (by omega), if_pos (by omega)]
  exact toGlyphS_l0 x hx hr x.length k _ 0 (by omega) (by simp) hk (by simp)
theorem eqGlyph_eq (x : S122) (hr : x.f2.length ≤ 1048576) (k : Nat) (hk : x.f2.length < k) : laws_eqGlyph.f k x.f0 x.f1 x.f2 x.f0 x.f1 x.f2 = some true := by
  simp [laws_eqGlyph.f, eqIntS_eq x.f2 hr k hk]
theorem eqGlyphS_l0 (x : List S122) (hx : x.length ≤ 1048576) (hr : ∀ g ∈ x, g.f2.length ≤ 1048576) (d : Nat) : ∀ (k : Nat) (i : Nat), i + d = x.length → d + 1048577 < k → laws_eqGlyphS.l0 k x x i = some true := by
  induction d with
  | zero =>
    intro k i hi hk
    obtain ⟨k, rfl⟩ : ∃ m, k = m + 1 := ⟨k - 1, by omega⟩
    rw [laws_eqGlyphS.l0, if_neg (by omega)]
  | succ d ih =>
    intro k i hi hk
    obtain ⟨k, rfl⟩ : ∃ m, k = m + 1 := ⟨k - 1, by omega⟩
    have e : rd_T122 x i = x.getD i z122 := by simp [rd_T122]
    have hm := hr _ (getD_mem x z122 i (by omega))
    rw [laws_eqGlyphS.l0, if_pos (by omega), if_pos (by omega), if_pos (by omega), e, eqGlyph_eq _ hm k (by omega)]
    simp only [Option.bind_some, if_true]
    rw [wrap_cast i (by omega)]
    exact ih k (i + 1) (by omega) (by omega)
theorem eqGlyphS_eq (x : List S122) (hx : x.length ≤ 1048576) (hr : ∀ g ∈ x, g.f2.length ≤ 1048576) (k : Nat) (hk : x.length + 1048577 < k) : laws_eqGlyphS.f k x x = some true := by
  rw [laws_eqGlyphS.f, if_pos rfl]
  exact eqGlyphS_l0 x hx hr x.length k 0 (by omega) hk
theorem map_rows (x : List S142) (hr : ∀ g ∈ x, g.f2.length ≤ 1048576) : ∀ g ∈ x.map toGlyph, g.f2.length ≤ 1048576 := by
  intro g hg
  obtain ⟨g', hg', rfl⟩ := List.mem_map.1 hg
  exact hr g' hg'
theorem szB_rows (x : List S142) (h : szB x = true) : x.length ≤ 1048576 ∧ ∀ g ∈ x, g.f2.length ≤ 1048576 := by
  unfold szB at h
  have h := of_decide_eq_true h
  have ht := tot_nonneg x
  exact ⟨by omega, fun g hg => by have := tot_mem x g hg; omega⟩
def inB (a b c : Int) : Bool := if a ≥ b then decide (a ≤ c) else false
theorem in_eq (a b c : Int) : spec_l01In.f a b c = some (inB a b c) := by unfold spec_l01In.f inB; split <;> rfl
theorem within_eq (a b c : Int) : impl_within.f a b c = some (inB a b c) := in_eq a b c
theorem inB_iff (a b c : Int) : inB a b c = true ↔ b ≤ a ∧ a ≤ c := by unfold inB; split <;> simp <;> omega
def rowB (w r : Int) : Bool := inB r 0 (wrap64 (shl .i64 1 w - 1))
def gB (g : S122) : Bool := inB g.f0 0 999 && (inB g.f1 1 8 && (inB g.f2.length 1 8 && g.f2.all (rowB g.f1)))
theorem specGlyph_l0 (a w : Int) (x : List Int) (hx : x.length ≤ 1048576) (hw : 0 ≤ w) (d : Nat) : ∀ (k : Nat) (i : Nat), i + d = x.length → d < k → spec_GlyphOk.l0 k i a w x = some ((x.drop i).all (rowB w)) := by
  induction d with
  | zero =>
    intro k i hi hk
    obtain ⟨k, rfl⟩ : ∃ m, k = m + 1 := ⟨k - 1, by omega⟩
    rw [spec_GlyphOk.l0, if_neg (by omega), List.drop_of_length_le (by omega)]; rfl
  | succ d ih =>
    intro k i hi hk
    obtain ⟨k, rfl⟩ : ∃ m, k = m + 1 := ⟨k - 1, by omega⟩
    rw [spec_GlyphOk.l0, if_pos (by omega), if_pos (by omega), if_pos hw, in_eq, drop_rd x i (by omega)]
    simp only [Option.bind_some, List.all_cons, rowB]
    cases hf : inB (rd x i) 0 (wrap64 (shl .i64 1 w - 1)) with
    | false => simp
    | true => rw [if_pos rfl, wrap_cast i (by omega), ih k (i + 1) (by omega) (by omega)]; simp [rowB]
theorem implGlyph_l0 (a w : Int) (x : List Int) (hx : x.length ≤ 1048576) (hw : 0 ≤ w) (d : Nat) : ∀ (k : Nat) (i : Nat), i + d = x.length → d < k → impl_GlyphOk.l0 k x x.length i a w x = some ((x.drop i).all (rowB w)) := by
  induction d with
  | zero =>
    intro k i hi hk
    obtain ⟨k, rfl⟩ : ∃ m, k = m + 1 := ⟨k - 1, by omega⟩
    rw [impl_GlyphOk.l0, if_neg (by omega), List.drop_of_length_le (by omega)]; rfl
  | succ d ih =>
    intro k i hi hk
    obtain ⟨k, rfl⟩ : ∃ m, k = m + 1 := ⟨k - 1, by omega⟩
    rw [impl_GlyphOk.l0, if_pos (by omega), if_pos (by omega), if_pos (by omega), if_pos hw, within_eq, drop_rd x i (by omega)]
    simp only [Option.bind_some, List.all_cons, rowB]
    cases hf : inB (rd x i) 0 (wrap64 (shl .i64 1 w - 1)) with
    | false => simp
    | true => rw [if_pos rfl, wrap_cast i (by omega), ih k (i + 1) (by omega) (by omega)]; simp [rowB]
theorem specGlyph_eq (g : S122) (k : Nat) (hk : 10 < k) : spec_GlyphOk.f k g.f0 g.f1 g.f2 = some (gB g) := by
  obtain ⟨k, rfl⟩ : ∃ m, k = m + 1 := ⟨k - 1, by omega⟩
  unfold spec_GlyphOk.f gB
  simp only [in_eq, Option.bind_some, spec_GlyphOk.j0]
  cases inB g.f0 0 999 with
  | false => simp
  | true =>
    cases h1 : inB g.f1 1 8 with
    | false => simp
    | true =>
      cases h2 : inB (g.f2.length : Int) 1 8 with
      | false => simp
      | true =>
        rw [inB_iff] at h1 h2
        have := specGlyph_l0 g.f0 g.f1 g.f2 (by omega) (by omega) g.f2.length k 0 (by omega) (by omega)
        simpa using this
theorem implGlyph_eq (g : S122) (k : Nat) (hk : 10 < k) : impl_GlyphOk.f k g.f0 g.f1 g.f2 = some (gB g) := by
  obtain ⟨k, rfl⟩ : ∃ m, k = m + 1 := ⟨k - 1, by omega⟩
  unfold impl_GlyphOk.f gB
  simp only [within_eq, Option.bind_some, impl_GlyphOk.j0]
  cases inB g.f0 0 999 with
  | false => simp
  | true =>
    cases h1 : inB g.f1 1 8 with
    | false => simp
    | true =>
      cases h2 : inB (g.f2.length : Int) 1 8 with
      | false => simp
      | true =>
        rw [inB_iff] at h1 h2
        have := implGlyph_l0 g.f0 g.f1 g.f2 (by omega) (by omega) g.f2.length k 0 (by omega) (by omega)
        simpa using this
def rowsN : List S122 → Int
  | [] => 0
  | g :: r => g.f2.length + rowsN r
theorem rowsN_nonneg (x : List S122) : 0 ≤ rowsN x := by
  induction x with
  | nil => simp [rowsN]
  | cons g r ih => simp only [rowsN]; omega
theorem rowsN_drop (x : List S122) (i : Nat) (h : i < x.length) : rowsN (x.drop i) = (x.getD i z122).f2.length + rowsN (x.drop (i + 1)) := by rw [getD_drop x z122 i h]; rfl
def sameId (x : List S122) (i : Nat) (g : S122) : Bool := decide (g.f0 = (x.getD i z122).f0)
/-- From place i on: every glyph valid, and none with an id that stands before it. -/
def cacheL (x : List S122) : Nat → Nat → Bool
  | 0, _ => true
  | d + 1, i => gB (x.getD i z122) && (!(x.take i).any (sameId x i) && cacheL x d (i + 1))
def cacheT (x : List S122) (b c : Int) : Bool := decide (rowsN x ≤ 20) && (inB b 0 100000 && inB c 0 100000)
def cacheB (x : List S122) (b c : Int) : Bool := cacheL x x.length 0 && cacheT x b c
theorem specSize_l0 (x : List S122) (b c : Int) (hx : x.length ≤ 1048576) (d : Nat) : ∀ (k : Nat) (i : Nat) (a : Int), i + d = x.length → d < k → 0 ≤ a → a + rowsN (x.drop i) ≤ 1048576 → spec_CacheSize.l0 k a i x b c = some (a + rowsN (x.drop i)) := by
  induction d with
  | zero =>
    intro k i a hi hk h0 h1
    obtain ⟨k, rfl⟩ : ∃ m, k = m + 1 := ⟨k - 1, by omega⟩
    rw [spec_CacheSize.l0, if_neg (by omega), List.drop_of_length_le (by omega)]; simp [rowsN]
  | succ d ih =>
    intro k i a hi hk h0 h1
    obtain ⟨k, rfl⟩ : ∃ m, k = m + 1 := ⟨k - 1, by omega⟩
    have e : rd_T122 x i = x.getD i z122 := by simp [rd_T122]
    have hd := rowsN_drop x i (by omega)
    have hn := rowsN_nonneg (x.drop (i + 1))
    rw [spec_CacheSize.l0, if_pos (by omega), if_pos (by omega), e, wrap_id (by omega) (by omega), wrap_cast i (by omega), ih k (i + 1) _ (by omega) (by omega) (by omega) (by omega)]
    congr 1; omega
theorem implSize_l0 (x : List S122) (hx : x.length ≤ 1048576) (d : Nat) : ∀ (k : Nat) (i : Nat) (a : Int), i + d = x.length → d < k → 0 ≤ a → a + rowsN (x.drop i) ≤ 1048576 → impl_CacheSize.l0 k a x x.length i = some (a + rowsN (x.drop i)) := by
  induction d with
  | zero =>
    intro k i a hi hk h0 h1
    obtain ⟨k, rfl⟩ : ∃ m, k = m + 1 := ⟨k - 1, by omega⟩
    rw [impl_CacheSize.l0, if_neg (by omega), List.drop_of_length_le (by omega)]; simp [rowsN]
  | succ d ih =>
    intro k i a hi hk h0 h1
    obtain ⟨k, rfl⟩ : ∃ m, k = m + 1 := ⟨k - 1, by omega⟩
    have e : rd_T122 x i = x.getD i z122 := by simp [rd_T122]
    have hd := rowsN_drop x i (by omega)
    have hn := rowsN_nonneg (x.drop (i + 1))
    rw [impl_CacheSize.l0, if_pos (by omega), if_pos (by omega), if_pos (by omega), e, wrap_id (by omega) (by omega), wrap_cast i (by omega), ih k (i + 1) _ (by omega) (by omega) (by omega) (by omega)]
    congr 1; omega
theorem specSize_eq (x : List S122) (b c : Int) (hx : x.length ≤ 1048576) (hr : rowsN x ≤ 1048576) (k : Nat) (hk : x.length < k) : spec_CacheSize.f k x b c = some (rowsN x) := by
  have := specSize_l0 x b c hx x.length k 0 0 (by omega) hk (by omega) (by simpa using hr)
  simpa [spec_CacheSize.f] using this
theorem implSize_eq (x : List S122) (b c : Int) (hx : x.length ≤ 1048576) (hr : rowsN x ≤ 1048576) (k : Nat) (hk : x.length < k) : impl_CacheSize.f k x b c = some (rowsN x) := by
  have := implSize_l0 x hx x.length k 0 0 (by omega) hk (by omega) (by simpa using hr)
  simpa [impl_CacheSize.f] using this
theorem implHolds_l0 (x : List S122) (hx : x.length ≤ 1048576) (id : Int) (d : Nat) : ∀ (k : Nat) (i : Nat), i + d = x.length → d < k → ∃ r, impl_glyphAt.l0 k id false x x.length i = some r ∧ decide (r ≥ 0) = (x.drop i).any (fun g => decide (g.f0 = id)) := by
  induction d with
  | zero =>
    intro k i hi hk
    obtain ⟨k, rfl⟩ : ∃ m, k = m + 1 := ⟨k - 1, by omega⟩
    rw [impl_glyphAt.l0, if_neg (by omega), List.drop_of_length_le (by omega)]
    exact ⟨-1, rfl, rfl⟩
  | succ d ih =>
    intro k i hi hk
    obtain ⟨k, rfl⟩ : ∃ m, k = m + 1 := ⟨k - 1, by omega⟩
    have e : rd_T122 x i = x.getD i z122 := by simp [rd_T122]
    rw [impl_glyphAt.l0, if_pos (by omega), if_pos (by omega), if_pos (by omega), e, getD_drop x z122 i (by omega)]
    simp only [List.any_cons, Bool.false_eq_true, if_false]
    by_cases h : (x.getD i z122).f0 = id
    · rw [if_pos h]; refine ⟨i, rfl, ?_⟩; rw [decide_eq_true h, Bool.true_or]; exact decide_eq_true (by omega)
    · rw [if_neg h, wrap_cast i (by omega)]
      obtain ⟨r, e1, e2⟩ := ih k (i + 1) (by omega) (by omega)
      refine ⟨r, e1, ?_⟩; rw [decide_eq_false h, Bool.false_or]; exact e2
theorem implHolds_eq (x : List S122) (b c id : Int) (hx : x.length ≤ 1048576) (k : Nat) (hk : x.length < k) : impl_HoldsGlyph.f k x b c id = some (x.any (fun g => decide (g.f0 = id))) := by
  obtain ⟨r, e1, e2⟩ := implHolds_l0 x hx id x.length k 0 (by omega) hk
  have e1' : impl_glyphAt.l0 k id false x x.length 0 = some r := e1
  rw [impl_HoldsGlyph.f, impl_glyphAt.f, e1']
  simp only [Option.bind_some]
  rw [e2]; rfl
theorem specCache_l0 (x : List S122) (b c : Int) (hx : x.length ≤ 1048576) (hr : rowsN x ≤ 1048576) (d : Nat) : ∀ (k : Nat) (i : Nat), i + d = x.length → (d + 1) * (x.length + 15) < k → spec_CacheOk.l0 k i x b c = some (cacheL x d i && cacheT x b c) := by
  induction d with
  | zero =>
    intro k i hi hk
    obtain ⟨k, rfl⟩ : ∃ m, k = m + 1 := ⟨k - 1, by omega⟩
    rw [spec_CacheOk.l0, if_neg (by omega), specSize_eq x b c hx hr k (by omega)]
    simp only [Option.bind_some, in_eq, cacheL, cacheT, Bool.true_and]
    by_cases h : rowsN x ≤ 20
    · rw [if_pos h]; cases inB b 0 100000 <;> simp [h]
    · rw [if_neg h]; simp [h]
  | succ d ih =>
    intro k i hi hk
    obtain ⟨k, rfl⟩ : ∃ m, k = m + 1 := ⟨k - 1, by omega⟩
    have e : rd_T122 x i = x.getD i z122 := by simp [rd_T122]
    have hk' : (d + 1) * (x.length + 15) + (x.length + 15) < k + 1 := by rw [← Nat.succ_mul]; exact hk
    have ih' := fun k i h1 h2 => ih k i h1 h2
    clear ih
    generalize (d + 1) * (x.length + 15) = F at hk' ih'
    clear hk
    have inner : ∀ (q k' j : Nat), j + q = i → q + F + 1 < k' → spec_CacheOk.l1 k' i j x b c = some (!((x.take i).drop j).any (sameId x i) && (cacheL x d (i + 1) && cacheT x b c)) := by
      intro q
      induction q with
      | zero =>
        intro k' j hj hk2
        obtain ⟨k', rfl⟩ : ∃ m, k' = m + 1 := ⟨k' - 1, by omega⟩
        rw [spec_CacheOk.l1, if_neg (by omega), wrap_cast i (by omega), ih' k' (i + 1) (by omega) (by omega), List.drop_of_length_le (by simp; omega)]
        simp
      | succ q ihq =>
        intro k' j hj hk2
        obtain ⟨k', rfl⟩ : ∃ m, k' = m + 1 := ⟨k' - 1, by omega⟩
        have ej : rd_T122 x j = x.getD j z122 := by simp [rd_T122]
        have et : (x.take i).getD j z122 = x.getD j z122 := by rw [List.getD_eq_getElem?_getD, List.getD_eq_getElem?_getD, List.getElem?_take, if_pos (by omega)]
        rw [spec_CacheOk.l1, if_pos (by omega), if_pos (by omega), if_pos (by omega), if_pos (by omega), if_pos (by omega), e, ej, getD_drop (x.take i) z122 j (by simp; omega), et]
        rw [List.any_cons]
        by_cases h : (x.getD j z122).f0 = (x.getD i z122).f0
        · rw [if_pos h, show sameId x i (x.getD j z122) = true from decide_eq_true h]; rfl
        · rw [if_neg h, wrap_cast j (by omega), ihq k' (j + 1) (by omega) (by omega), show sameId x i (x.getD j z122) = false from decide_eq_false h, Bool.false_or]
    rw [spec_CacheOk.l0, if_pos (by omega), if_pos (by omega), e, specGlyph_eq _ k (by omega)]
    simp only [Option.bind_some, cacheL]
    cases gB (x.getD i z122) with
    | false => simp
    | true =>
      have := inner i k 0 (by omega) (by omega)
      simp only [if_true, Bool.true_and]
      rw [show ((0 : Nat) : Int) = 0 from rfl] at this
      rw [this, List.drop_zero, Bool.and_assoc]
theorem specCache_eq (x : List S122) (b c : Int) (hx : x.length ≤ 1048576) (hr : rowsN x ≤ 1048576) (k : Nat) (hk : (x.length + 1) * (x.length + 15) < k) : spec_CacheOk.f k x b c = some (cacheB x b c) := specCache_l0 x b c hx hr x.length k 0 (by omega) hk
theorem implCache_l0 (x : List S122) (b c : Int) (hx : x.length ≤ 1048576) (hr : rowsN x ≤ 1048576) (d : Nat) : ∀ (k : Nat) (i : Nat), i + d = x.length → d + x.length + 15 < k → impl_CacheOk.l0 k x x.length i x b c = some (cacheL x d i && cacheT x b c) := by
  induction d with
  | zero =>
    intro k i hi hk
    obtain ⟨k, rfl⟩ : ∃ m, k = m + 1 := ⟨k - 1, by omega⟩
    rw [impl_CacheOk.l0, if_neg (by omega), implSize_eq x b c hx hr k (by omega)]
    simp only [Option.bind_some, within_eq, cacheL, cacheT, Bool.true_and]
    by_cases h : rowsN x ≤ 20
    · rw [if_pos h]; cases inB b 0 100000 <;> simp [h]
    · rw [if_neg h]; simp [h]
  | succ d ih =>
    intro k i hi hk
    obtain ⟨k, rfl⟩ : ∃ m, k = m + 1 := ⟨k - 1, by omega⟩
    have e : rd_T122 x i = x.getD i z122 := by simp [rd_T122]
    rw [impl_CacheOk.l0, if_pos (by omega), if_pos (by omega), if_pos (by omega), e, implGlyph_eq _ k (by omega)]
    simp only [Option.bind_some, cacheL]
    cases gB (x.getD i z122) with
    | false => simp
    | true =>
      rw [if_pos rfl, if_pos (by omega), Int.toNat_natCast, implHolds_eq _ 0 0 _ (by simp; omega) k (by simp; omega)]
      simp only [Option.bind_some, Bool.true_and]
      have es : (fun g : S122 => decide (g.f0 = (x.getD i z122).f0)) = sameId x i := rfl
      rw [es]
      cases (x.take i).any (sameId x i) with
      | true => simp
      | false =>
        rw [if_neg (by simp), wrap_cast i (by omega), ih k (i + 1) (by omega) (by omega)]
        simp
theorem implCache_eq (x : List S122) (b c : Int) (hx : x.length ≤ 1048576) (hr : rowsN x ≤ 1048576) (k : Nat) (hk : 2 * x.length + 15 < k) : impl_CacheOk.f k x b c = some (cacheB x b c) := implCache_l0 x b c hx hr x.length k 0 (by omega) (by omega)
theorem rowsN_map (x : List S142) : rowsN (x.map toGlyph) = tot x := by
  induction x with
  | nil => rfl
  | cons g r ih => simp only [List.map_cons, rowsN, tot, ih]; rfl
theorem pure : laws_FnExactCacheOk.Stm := by
  intro x b c hx _ _
  have hr : ∀ g ∈ x, g.f2.length ≤ maxLen := fun g hg => (hx.2 g hg).2.2.1
  have hK : x.length + 15 ≤ (x.length + 1) * (x.length + 15) := Nat.le_mul_of_pos_left _ (by omega)
  refine ⟨(x.length + 1) * (x.length + 15) + x.length + 1048579, ?_⟩
  rw [laws_FnExactCacheOk.f, szCache_eq x b c hx.1 hr _ (by omega)]
  simp only [Option.bind_some]
  by_cases h : szB x = true
  · obtain ⟨h1, h2⟩ := szB_rows x h
    have ht := of_decide_eq_true (show decide ((x.length : Int) + tot x ≤ 1048576) = true from h)
    have hm : (x.map toGlyph).length = x.length := by simp
    have hn := rowsN_map x
    rw [if_pos h, if_neg (by omega), laws_toCache.f, toGlyphS_eq x h1 h2 _ (by omega)]
    simp only [Option.bind_some]
    rw [specCache_eq (x.map toGlyph) b c (by omega) (by omega) _ (by rw [hm]; omega), implCache_eq (x.map toGlyph) b c (by omega) (by omega) _ (by omega), laws_eqCache.f]
    simp only [Option.bind_some]
    rw [eqGlyphS_eq (x.map toGlyph) (by omega) (map_rows x h2) _ (by omega)]
    simp
  · rw [if_neg h, if_pos (by omega)]
end Go.Proofs.Ytifaojbmdahoiaa.PureFnExactCacheOk
