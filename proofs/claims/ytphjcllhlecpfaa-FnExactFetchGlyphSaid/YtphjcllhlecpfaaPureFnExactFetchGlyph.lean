/- The program's FetchGlyph answers as the reference's for every cache, id and font, leaves cache and font as they were, and shares nothing with them: no condition. -/
import Derived.Test.YtphjcllhlecpfaaOpsFnExactFetchGlyph
import Derived.Test.YtphjcllhlecpfaaPlain
namespace Go.Proofs.Ytphjcllhlecpfaa.PureFnExactFetchGlyph
open Go.RowKit Go.Proofs.Ytphjcllhlecpfaa.PFnExactFetchGlyph Go.Proofs.Ytphjcllhlecpfaa.Opened Go.Proofs.Ytphjcllhlecpfaa.Plain Go.Proofs.YtphjcllhlecpfaaW.PrintWords Go.Proofs.YtphjcllhlecpfaaW.PrintLast Go.Proofs.YtphjcllhlecpfaaW.PrintMore
set_option linter.unusedVariables false
set_option linter.unusedSimpArgs false
theorem toIntS_l0 (x : List Int) (hx : x.length ≤ 1048576) (d : Nat) : ∀ (k : Nat) (y : List Int) (i : Nat), i + d = x.length → y.length = x.length → d < k → y.take i = x.take i → laws_toIntS.l0 k x y i = some x := by
  induction d with
  | zero =>
    intro k y i hi hl hk h
    obtain ⟨k, rfl⟩ : ∃ m, k = m + 1 := ⟨k - 1, by omega⟩
    rw [laws_toIntS.l0, if_neg (by omega), take_all (by omega) hl h]
  | succ d ih =>
    intro k y i hi hl hk h
    obtain ⟨k, rfl⟩ : ∃ m, k = m + 1 := ⟨k - 1, by omega⟩
    rw [laws_toIntS.l0, if_pos (by omega), if_pos (by omega), if_pos (by omega), wrap_cast i (by omega), rd_nat, Int.toNat_natCast]
    exact ih k _ (i + 1) (by omega) (by simpa using hl) (by omega) (take_set x y 0 i (by omega) hl h)
theorem toIntS_eq (x : List Int) (hx : x.length ≤ 1048576) (k : Nat) (hk : x.length < k) : laws_toIntS.f k x = some x := by
  rw [laws_toIntS.f, if_pos (by omega), if_pos (by omega)]
  exact toIntS_l0 x hx x.length k _ 0 (by omega) (by simp) hk (by simp)
theorem eqIntS_l0 (x : List Int) (hx : x.length ≤ 1048576) (d : Nat) : ∀ (k : Nat) (i : Nat), i + d = x.length → d < k → laws_eqIntS.l0 k x x i = some true := by
  induction d with
  | zero =>
    intro k i hi hk
    obtain ⟨k, rfl⟩ : ∃ m, k = m + 1 := ⟨k - 1, by omega⟩
    rw [laws_eqIntS.l0, if_neg (by omega)]
  | succ d ih =>
    intro k i hi hk
    obtain ⟨k, rfl⟩ : ∃ m, k = m + 1 := ⟨k - 1, by omega⟩
    rw [laws_eqIntS.l0, if_pos (by omega), if_pos (by omega), if_pos (by omega), if_pos rfl, wrap_cast i (by omega)]
    exact ih k (i + 1) (by omega) (by omega)
theorem eqIntS_eq (x : List Int) (hx : x.length ≤ 1048576) (k : Nat) (hk : x.length < k) : laws_eqIntS.f k x x = some true := by
  rw [laws_eqIntS.f, if_pos rfl]
  exact eqIntS_l0 x hx x.length k 0 (by omega) hk
def tot : List S69 → Int
  | [] => 0
  | g :: r => g.f2.length + tot r
theorem tot_nonneg (x : List S69) : 0 ≤ tot x := by
  induction x with
  | nil => simp [tot]
  | cons g r ih => simp only [tot]; omega
theorem tot_mem (x : List S69) (g : S69) (h : g ∈ x) : (g.f2.length : Int) ≤ tot x := by
  induction x with
  | nil => simp at h
  | cons g' r ih =>
    simp only [tot]
    have := tot_nonneg r
    rcases List.mem_cons.1 h with rfl | h
    · omega
    · have := ih h; omega
theorem szIntS_eq (r : List Int) (a : Int) (h0 : 0 ≤ a) (h1 : a ≤ 1048576) (hr : r.length ≤ maxLen) : laws_szIntS.f r a = some (if a - r.length < 0 then -1 else a - r.length) := by
  unfold maxLen at hr
  rw [laws_szIntS.f, wrap_id (by omega) (by omega)]
  split <;> rfl
theorem szGlyphS_l0 (x : List S69) (hx : x.length ≤ 1048576) (hr : ∀ g ∈ x, g.f2.length ≤ maxLen) (d : Nat) : ∀ (k : Nat) (i : Nat) (a : Int), i + d = x.length → d < k → 0 ≤ a → a ≤ 1048576 → laws_szGlyphS.l0 k x a i = some (if a - tot (x.drop i) < 0 then -1 else a - tot (x.drop i)) := by
  induction d with
  | zero =>
    intro k i a hi hk h0 h1
    obtain ⟨k, rfl⟩ : ∃ m, k = m + 1 := ⟨k - 1, by omega⟩
    rw [laws_szGlyphS.l0, if_neg (by omega), List.drop_of_length_le (by omega), tot, if_neg (by omega)]; simp
  | succ d ih =>
    intro k i a hi hk h0 h1
    obtain ⟨k, rfl⟩ : ∃ m, k = m + 1 := ⟨k - 1, by omega⟩
    have e : rd_T69 x i = x.getD i z69 := by simp [rd_T69]
    have hm := hr _ (getD_mem x z69 i (by omega))
    have ht := tot_nonneg (x.drop (i + 1))
    have htot : tot (x.drop i) = (x.getD i z69).f2.length + tot (x.drop (i + 1)) := by rw [getD_drop x z69 i (by omega)]; rfl
    rw [laws_szGlyphS.l0, if_pos (by omega), if_pos (by omega), e, laws_szGlyph.f, szIntS_eq _ a h0 h1 hm]
    simp only [Option.bind_some]
    by_cases c : a - ((x.getD i z69).f2.length : Int) < 0
    · rw [if_pos c, if_pos (show (-1 : Int) < 0 by omega)]
      simp only [Option.bind_some]
      rw [if_pos (show (-1 : Int) < 0 by omega), if_pos (by omega)]
    · rw [if_neg c, if_neg c]
      simp only [Option.bind_some]
      rw [if_neg c, wrap_cast i (by omega), ih k (i + 1) _ (by omega) (by omega) (by omega) (by omega)]
      by_cases c2 : a - (x.getD i z69).f2.length - tot (x.drop (i + 1)) < 0
      · rw [if_pos c2, if_pos (by omega)]
      · rw [if_neg c2, if_neg (by omega)]; congr 1; omega
def szB (x : List S69) : Bool := decide ((x.length : Int) + tot x ≤ 1048576)
theorem szCache_eq (x : List S69) (b c : Int) (hx : x.length ≤ maxLen) (hr : ∀ g ∈ x, g.f2.length ≤ maxLen) (k : Nat) (hk : x.length < k) : laws_szCache.f k x b c 1048576 = some (if szB x = true then 1048576 - x.length - tot x else -1) := by
  unfold maxLen at hx
  have ht := tot_nonneg x
  unfold laws_szCache.f laws_szGlyphS.f szB
  rw [wrap_id (by omega) (by omega)]
  by_cases h : x.length ≤ 1048576
  · rw [if_neg (by omega), show (0 : Int) = ((0 : Nat) : Int) from rfl, szGlyphS_l0 x h hr x.length k 0 _ (by omega) hk (by omega) (by omega)]
    simp only [Option.bind_some, List.drop_zero, decide_eq_true_eq]
    by_cases c : (x.length : Int) + tot x ≤ 1048576
    · rw [if_pos c, if_neg (by omega), if_neg (by omega)]
    · rw [if_neg c, if_pos (by omega)]
  · rw [if_pos (by omega)]
    simp only [Option.bind_some, decide_eq_true_eq]
    rw [if_pos (by omega), if_neg (by omega)]
def toGlyph (x : S69) : S32 := ⟨x.f0, x.f1, x.f2⟩
theorem toGlyphS_l0 (x : List S69) (hx : x.length ≤ 1048576) (hr : ∀ g ∈ x, g.f2.length ≤ 1048576) (d : Nat) : ∀ (k : Nat) (y : List S32) (i : Nat), i + d = x.length → y.length = x.length → d + 1048577 < k → y.take i = (x.take i).map toGlyph → laws_toGlyphS.l0 k x y i = some (x.map toGlyph) := by
  induction d with
  | zero =>
    intro k y i hi hl hk h
    obtain ⟨k, rfl⟩ : ∃ m, k = m + 1 := ⟨k - 1, by omega⟩
    rw [laws_toGlyphS.l0, if_neg (by omega), take_all_map (by omega) hl h]
  | succ d ih =>
    intro k y i hi hl hk h
    obtain ⟨k, rfl⟩ : ∃ m, k = m + 1 := ⟨k - 1, by omega⟩
    have e : rd_T69 x i = x.getD i z69 := by simp [rd_T69]
    have hm := hr _ (getD_mem x z69 i (by omega))
    rw [laws_toGlyphS.l0, if_pos (by omega), if_pos (by omega), e, laws_toGlyph.f, toIntS_eq _ hm k (by omega)]
    simp only [Option.bind_some]
    rw [if_pos (by omega), wrap_cast i (by omega), Int.toNat_natCast]
    exact ih k _ (i + 1) (by omega) (by simpa using hl) (by omega) (take_set_map toGlyph x y z69 _ i (by omega) hl h rfl)
theorem toGlyphS_eq (x : List S69) (hx : x.length ≤ 1048576) (hr : ∀ g ∈ x, g.f2.length ≤ 1048576) (k : Nat) (hk : x.length + 1048577 < k) : laws_toGlyphS.f k x = some (x.map toGlyph) := by
  rw [laws_toGlyphS.f, if_pos (by omega), if_pos (by omega)]
  exact toGlyphS_l0 x hx hr x.length k _ 0 (by omega) (by simp) hk (by simp)
theorem eqGlyph_eq (x : S32) (hr : x.f2.length ≤ 1048576) (k : Nat) (hk : x.f2.length < k) : laws_eqGlyph.f k x.f0 x.f1 x.f2 x.f0 x.f1 x.f2 = some true := by
  simp [laws_eqGlyph.f, eqIntS_eq x.f2 hr k hk]
theorem eqGlyphS_l0 (x : List S32) (hx : x.length ≤ 1048576) (hr : ∀ g ∈ x, g.f2.length ≤ 1048576) (d : Nat) : ∀ (k : Nat) (i : Nat), i + d = x.length → d + 1048577 < k → laws_eqGlyphS.l0 k x x i = some true := by
  induction d with
  | zero =>
    intro k i hi hk
    obtain ⟨k, rfl⟩ : ∃ m, k = m + 1 := ⟨k - 1, by omega⟩
    rw [laws_eqGlyphS.l0, if_neg (by omega)]
  | succ d ih =>
    intro k i hi hk
    obtain ⟨k, rfl⟩ : ∃ m, k = m + 1 := ⟨k - 1, by omega⟩
    have e : rd_T32 x i = x.getD i z32 := by simp [rd_T32]
    have hm := hr _ (getD_mem x z32 i (by omega))
    rw [laws_eqGlyphS.l0, if_pos (by omega), if_pos (by omega), if_pos (by omega), e, eqGlyph_eq _ hm k (by omega)]
    simp only [Option.bind_some, if_true]
    rw [wrap_cast i (by omega)]
    exact ih k (i + 1) (by omega) (by omega)
theorem eqGlyphS_eq (x : List S32) (hx : x.length ≤ 1048576) (hr : ∀ g ∈ x, g.f2.length ≤ 1048576) (k : Nat) (hk : x.length + 1048577 < k) : laws_eqGlyphS.f k x x = some true := by
  rw [laws_eqGlyphS.f, if_pos rfl]
  exact eqGlyphS_l0 x hx hr x.length k 0 (by omega) hk
theorem map_rows (x : List S69) (hr : ∀ g ∈ x, g.f2.length ≤ 1048576) : ∀ g ∈ x.map toGlyph, g.f2.length ≤ 1048576 := by
  intro g hg
  obtain ⟨g', hg', rfl⟩ := List.mem_map.1 hg
  exact hr g' hg'
theorem szB_rows (x : List S69) (h : szB x = true) : x.length ≤ 1048576 ∧ ∀ g ∈ x, g.f2.length ≤ 1048576 := by
  unfold szB at h
  have h := of_decide_eq_true h
  have ht := tot_nonneg x
  exact ⟨by omega, fun g hg => by have := tot_mem x g hg; omega⟩
def inB (a b c : Int) : Bool := if a ≥ b then decide (a ≤ c) else false
theorem in_eq (a b c : Int) : spec_l01In.f a b c = some (inB a b c) := by unfold spec_l01In.f inB; split <;> rfl
theorem within_eq (a b c : Int) : impl_within.f a b c = some (inB a b c) := in_eq a b c
theorem inB_iff (a b c : Int) : inB a b c = true ↔ b ≤ a ∧ a ≤ c := by unfold inB; split <;> simp <;> omega
def rowB (w r : Int) : Bool := inB r 0 (wrap64 (shl .i64 1 w - 1))
def gB (g : S32) : Bool := inB g.f0 0 999 && (inB g.f1 1 8 && (inB g.f2.length 1 8 && g.f2.all (rowB g.f1)))
theorem specGlyph_l0 (a w : Int) (x : List Int) (hx : x.length ≤ 1048576) (hw : 0 ≤ w) (d : Nat) : ∀ (k : Nat) (i : Nat), i + d = x.length → d < k → spec_GlyphOk.l0 k i a w x = some ((x.drop i).all (rowB w)) := by
  induction d with
  | zero =>
    intro k i hi hk
    obtain ⟨k, rfl⟩ : ∃ m, k = m + 1 := ⟨k - 1, by omega⟩
    rw [spec_GlyphOk.l0, if_neg (by omega), List.drop_of_length_le (by omega)]; rfl
  | succ d ih =>
    intro k i hi hk
    obtain ⟨k, rfl⟩ : ∃ m, k = m + 1 := ⟨k - 1, by omega⟩
    rw [spec_GlyphOk.l0, if_pos (by omega), if_pos (by omega), if_pos hw, in_eq, drop_rd x i (by omega)]
    simp only [Option.bind_some, List.all_cons, rowB]
    cases hf : inB (rd x i) 0 (wrap64 (shl .i64 1 w - 1)) with
    | false => simp
    | true => rw [if_pos rfl, wrap_cast i (by omega), ih k (i + 1) (by omega) (by omega)]; simp [rowB]
theorem implGlyph_l0 (a w : Int) (x : List Int) (hx : x.length ≤ 1048576) (hw : 0 ≤ w) (d : Nat) : ∀ (k : Nat) (i : Nat), i + d = x.length → d < k → impl_GlyphOk.l0 k x x.length i a w x = some ((x.drop i).all (rowB w)) := by
  induction d with
  | zero =>
    intro k i hi hk
    obtain ⟨k, rfl⟩ : ∃ m, k = m + 1 := ⟨k - 1, by omega⟩
    rw [impl_GlyphOk.l0, if_neg (by omega), List.drop_of_length_le (by omega)]; rfl
  | succ d ih =>
    intro k i hi hk
    obtain ⟨k, rfl⟩ : ∃ m, k = m + 1 := ⟨k - 1, by omega⟩
    rw [impl_GlyphOk.l0, if_pos (by omega), if_pos (by omega), if_pos (by omega), if_pos hw, within_eq, drop_rd x i (by omega)]
    simp only [Option.bind_some, List.all_cons, rowB]
    cases hf : inB (rd x i) 0 (wrap64 (shl .i64 1 w - 1)) with
    | false => simp
    | true => rw [if_pos rfl, wrap_cast i (by omega), ih k (i + 1) (by omega) (by omega)]; simp [rowB]
theorem specGlyph_eq (g : S32) (k : Nat) (hk : 10 < k) : spec_GlyphOk.f k g.f0 g.f1 g.f2 = some (gB g) := by
  obtain ⟨k, rfl⟩ : ∃ m, k = m + 1 := ⟨k - 1, by omega⟩
  unfold spec_GlyphOk.f gB
  simp only [in_eq, Option.bind_some, spec_GlyphOk.j0]
  cases inB g.f0 0 999 with
  | false => simp
  | true =>
    cases h1 : inB g.f1 1 8 with
    | false => simp
    | true =>
      cases h2 : inB (g.f2.length : Int) 1 8 with
      | false => simp
      | true =>
        rw [inB_iff] at h1 h2
        have := specGlyph_l0 g.f0 g.f1 g.f2 (by omega) (by omega) g.f2.length k 0 (by omega) (by omega)
        simpa using this
theorem implGlyph_eq (g : S32) (k : Nat) (hk : 10 < k) : impl_GlyphOk.f k g.f0 g.f1 g.f2 = some (gB g) := by
  obtain ⟨k, rfl⟩ : ∃ m, k = m + 1 := ⟨k - 1, by omega⟩
  unfold impl_GlyphOk.f gB
  simp only [within_eq, Option.bind_some, impl_GlyphOk.j0]
  cases inB g.f0 0 999 with
  | false => simp
  | true =>
    cases h1 : inB g.f1 1 8 with
    | false => simp
    | true =>
      cases h2 : inB (g.f2.length : Int) 1 8 with
      | false => simp
      | true =>
        rw [inB_iff] at h1 h2
        have := implGlyph_l0 g.f0 g.f1 g.f2 (by omega) (by omega) g.f2.length k 0 (by omega) (by omega)
        simpa using this
def rowsN : List S32 → Int
  | [] => 0
  | g :: r => g.f2.length + rowsN r
theorem rowsN_nonneg (x : List S32) : 0 ≤ rowsN x := by
  induction x with
  | nil => simp [rowsN]
  | cons g r ih => simp only [rowsN]; omega
theorem rowsN_drop (x : List S32) (i : Nat) (h : i < x.length) : rowsN (x.drop i) = (x.getD i z32).f2.length + rowsN (x.drop (i + 1)) := by rw [getD_drop x z32 i h]; rfl
def sameId (x : List S32) (i : Nat) (g : S32) : Bool := decide (g.f0 = (x.getD i z32).f0)
/-- From place i on: every glyph valid, and none with an id that stands before it. -/
def cacheL (x : List S32) : Nat → Nat → Bool
  | 0, _ => true
  | d + 1, i => gB (x.getD i z32) && (!(x.take i).any (sameId x i) && cacheL x d (i + 1))
def cacheT (x : List S32) (b c : Int) : Bool := decide (rowsN x ≤ 20) && (inB b 0 100000 && inB c 0 100000)
def cacheB (x : List S32) (b c : Int) : Bool := cacheL x x.length 0 && cacheT x b c
theorem specSize_l0 (x : List S32) (b c : Int) (hx : x.length ≤ 1048576) (d : Nat) : ∀ (k : Nat) (i : Nat) (a : Int), i + d = x.length → d < k → 0 ≤ a → a + rowsN (x.drop i) ≤ 1048576 → spec_CacheSize.l0 k a i x b c = some (a + rowsN (x.drop i)) := by
  induction d with
  | zero =>
    intro k i a hi hk h0 h1
    obtain ⟨k, rfl⟩ : ∃ m, k = m + 1 := ⟨k - 1, by omega⟩
    rw [spec_CacheSize.l0, if_neg (by omega), List.drop_of_length_le (by omega)]; simp [rowsN]
  | succ d ih =>
    intro k i a hi hk h0 h1
    obtain ⟨k, rfl⟩ : ∃ m, k = m + 1 := ⟨k - 1, by omega⟩
    have e : rd_T32 x i = x.getD i z32 := by simp [rd_T32]
    have hd := rowsN_drop x i (by omega)
    have hn := rowsN_nonneg (x.drop (i + 1))
    rw [spec_CacheSize.l0, if_pos (by omega), if_pos (by omega), e, wrap_id (by omega) (by omega), wrap_cast i (by omega), ih k (i + 1) _ (by omega) (by omega) (by omega) (by omega)]
    congr 1; omega
theorem implSize_l0 (x : List S32) (hx : x.length ≤ 1048576) (d : Nat) : ∀ (k : Nat) (i : Nat) (a : Int), i + d = x.length → d < k → 0 ≤ a → a + rowsN (x.drop i) ≤ 1048576 → impl_CacheSize.l0 k a x x.length i = some (a + rowsN (x.drop i)) := by
  induction d with
  | zero =>
    intro k i a hi hk h0 h1
    obtain ⟨k, rfl⟩ : ∃ m, k = m + 1 := ⟨k - 1, by omega⟩
    rw [impl_CacheSize.l0, if_neg (by omega), List.drop_of_length_le (by omega)]; simp [rowsN]
  | succ d ih =>
    intro k i a hi hk h0 h1
    obtain ⟨k, rfl⟩ : ∃ m, k = m + 1 := ⟨k - 1, by omega⟩
    have e : rd_T32 x i = x.getD i z32 := by simp [rd_T32]
    have hd := rowsN_drop x i (by omega)
    have hn := rowsN_nonneg (x.drop (i + 1))
    rw [impl_CacheSize.l0, if_pos (by omega), if_pos (by omega), if_pos (by omega), e, wrap_id (by omega) (by omega), wrap_cast i (by omega), ih k (i + 1) _ (by omega) (by omega) (by omega) (by omega)]
    congr 1; omega
theorem specSize_eq (x : List S32) (b c : Int) (hx : x.length ≤ 1048576) (hr : rowsN x ≤ 1048576) (k : Nat) (hk : x.length < k) : spec_CacheSize.f k x b c = some (rowsN x) := by
  have := specSize_l0 x b c hx x.length k 0 0 (by omega) hk (by omega) (by simpa using hr)
  simpa [spec_CacheSize.f] using this
theorem implSize_eq (x : List S32) (b c : Int) (hx : x.length ≤ 1048576) (hr : rowsN x ≤ 1048576) (k : Nat) (hk : x.length < k) : impl_CacheSize.f k x b c = some (rowsN x) := by
  have := implSize_l0 x hx x.length k 0 0 (by omega) hk (by omega) (by simpa using hr)
  simpa [impl_CacheSize.f] using this
theorem implHolds_l0 (x : List S32) (hx : x.length ≤ 1048576) (id : Int) (d : Nat) : ∀ (k : Nat) (i : Nat), i + d = x.length → d < k → ∃ r, impl_glyphAt.l0 k id false x x.length i = some r ∧ decide (r ≥ 0) = (x.drop i).any (fun g => decide (g.f0 = id)) := by
  induction d with
  | zero =>
    intro k i hi hk
    obtain ⟨k, rfl⟩ : ∃ m, k = m + 1 := ⟨k - 1, by omega⟩
    rw [impl_glyphAt.l0, if_neg (by omega), List.drop_of_length_le (by omega)]
    exact ⟨-1, rfl, rfl⟩
  | succ d ih =>
    intro k i hi hk
    obtain ⟨k, rfl⟩ : ∃ m, k = m + 1 := ⟨k - 1, by omega⟩
    have e : rd_T32 x i = x.getD i z32 := by simp [rd_T32]
    rw [impl_glyphAt.l0, if_pos (by omega), if_pos (by omega), if_pos (by omega), e, getD_drop x z32 i (by omega)]
    simp only [List.any_cons, Bool.false_eq_true, if_false]
    by_cases h : (x.getD i z32).f0 = id
    · rw [if_pos h]; refine ⟨i, rfl, ?_⟩; rw [decide_eq_true h, Bool.true_or]; exact decide_eq_true (by omega)
    · rw [if_neg h, wrap_cast i (by omega)]
      obtain ⟨r, e1, e2⟩ := ih k (i + 1) (by omega) (by omega)
      refine ⟨r, e1, ?_⟩; rw [decide_eq_false h, Bool.false_or]; exact e2
theorem implHolds_eq (x : List S32) (b c id : Int) (hx : x.length ≤ 1048576) (k : Nat) (hk : x.length < k) : impl_HoldsGlyph.f k x b c id = some (x.any (fun g => decide (g.f0 = id))) := by
  obtain ⟨r, e1, e2⟩ := implHolds_l0 x hx id x.length k 0 (by omega) hk
  have e1' : impl_glyphAt.l0 k id false x x.length 0 = some r := e1
  rw [impl_HoldsGlyph.f, impl_glyphAt.f, e1']
  simp only [Option.bind_some]
  rw [e2]; rfl
theorem specCache_l0 (x : List S32) (b c : Int) (hx : x.length ≤ 1048576) (hr : rowsN x ≤ 1048576) (d : Nat) : ∀ (k : Nat) (i : Nat), i + d = x.length → (d + 1) * (x.length + 15) < k → spec_CacheOk.l0 k i x b c = some (cacheL x d i && cacheT x b c) := by
  induction d with
  | zero =>
    intro k i hi hk
    obtain ⟨k, rfl⟩ : ∃ m, k = m + 1 := ⟨k - 1, by omega⟩
    rw [spec_CacheOk.l0, if_neg (by omega), specSize_eq x b c hx hr k (by omega)]
    simp only [Option.bind_some, in_eq, cacheL, cacheT, Bool.true_and]
    by_cases h : rowsN x ≤ 20
    · rw [if_pos h]; cases inB b 0 100000 <;> simp [h]
    · rw [if_neg h]; simp [h]
  | succ d ih =>
    intro k i hi hk
    obtain ⟨k, rfl⟩ : ∃ m, k = m + 1 := ⟨k - 1, by omega⟩
    have e : rd_T32 x i = x.getD i z32 := by simp [rd_T32]
    have hk' : (d + 1) * (x.length + 15) + (x.length + 15) < k + 1 := by rw [← Nat.succ_mul]; exact hk
    have ih' := fun k i h1 h2 => ih k i h1 h2
    clear ih
    generalize (d + 1) * (x.length + 15) = F at hk' ih'
    clear hk
    have inner : ∀ (q k' j : Nat), j + q = i → q + F + 1 < k' → spec_CacheOk.l1 k' i j x b c = some (!((x.take i).drop j).any (sameId x i) && (cacheL x d (i + 1) && cacheT x b c)) := by
      intro q
      induction q with
      | zero =>
        intro k' j hj hk2
        obtain ⟨k', rfl⟩ : ∃ m, k' = m + 1 := ⟨k' - 1, by omega⟩
        rw [spec_CacheOk.l1, if_neg (by omega), wrap_cast i (by omega), ih' k' (i + 1) (by omega) (by omega), List.drop_of_length_le (by simp; omega)]
        simp
      | succ q ihq =>
        intro k' j hj hk2
        obtain ⟨k', rfl⟩ : ∃ m, k' = m + 1 := ⟨k' - 1, by omega⟩
        have ej : rd_T32 x j = x.getD j z32 := by simp [rd_T32]
        have et : (x.take i).getD j z32 = x.getD j z32 := by rw [List.getD_eq_getElem?_getD, List.getD_eq_getElem?_getD, List.getElem?_take, if_pos (by omega)]
        rw [spec_CacheOk.l1, if_pos (by omega), if_pos (by omega), if_pos (by omega), if_pos (by omega), if_pos (by omega), e, ej, getD_drop (x.take i) z32 j (by simp; omega), et]
        rw [List.any_cons]
        by_cases h : (x.getD j z32).f0 = (x.getD i z32).f0
        · rw [if_pos h, show sameId x i (x.getD j z32) = true from decide_eq_true h]; rfl
        · rw [if_neg h, wrap_cast j (by omega), ihq k' (j + 1) (by omega) (by omega), show sameId x i (x.getD j z32) = false from decide_eq_false h, Bool.false_or]
    rw [spec_CacheOk.l0, if_pos (by omega), if_pos (by omega), e, specGlyph_eq _ k (by omega)]
    simp only [Option.bind_some, cacheL]
    cases gB (x.getD i z32) with
    | false => simp
    | true =>
      have := inner i k 0 (by omega) (by omega)
      simp only [if_true, Bool.true_and]
      rw [show ((0 : Nat) : Int) = 0 from rfl] at this
      rw [this, List.drop_zero, Bool.and_assoc]
theorem specCache_eq (x : List S32) (b c : Int) (hx : x.length ≤ 1048576) (hr : rowsN x ≤ 1048576) (k : Nat) (hk : (x.length + 1) * (x.length + 15) < k) : spec_CacheOk.f k x b c = some (cacheB x b c) := specCache_l0 x b c hx hr x.length k 0 (by omega) hk
theorem implCache_l0 (x : List S32) (b c : Int) (hx : x.length ≤ 1048576) (hr : rowsN x ≤ 1048576) (d : Nat) : ∀ (k : Nat) (i : Nat), i + d = x.length → d + x.length + 15 < k → impl_CacheOk.l0 k x x.length i x b c = some (cacheL x d i && cacheT x b c) := by
  induction d with
  | zero =>
    intro k i hi hk
    obtain ⟨k, rfl⟩ : ∃ m, k = m + 1 := ⟨k - 1, by omega⟩
    rw [impl_CacheOk.l0, if_neg (by omega), implSize_eq x b c hx hr k (by omega)]
    simp only [Option.bind_some, within_eq, cacheL, cacheT, Bool.true_and]
    by_cases h : rowsN x ≤ 20
    · rw [if_pos h]; cases inB b 0 100000 <;> simp [h]
    · rw [if_neg h]; simp [h]
  | succ d ih =>
    intro k i hi hk
    obtain ⟨k, rfl⟩ : ∃ m, k = m + 1 := ⟨k - 1, by omega⟩
    have e : rd_T32 x i = x.getD i z32 := by simp [rd_T32]
    rw [impl_CacheOk.l0, if_pos (by omega), if_pos (by omega), if_pos (by omega), e, implGlyph_eq _ k (by omega)]
    simp only [Option.bind_some, cacheL]
    cases gB (x.getD i z32) with
    | false => simp
    | true =>
      rw [if_pos rfl, if_pos (by omega), Int.toNat_natCast, implHolds_eq _ 0 0 _ (by simp; omega) k (by simp; omega)]
      simp only [Option.bind_some, Bool.true_and]
      have es : (fun g : S32 => decide (g.f0 = (x.getD i z32).f0)) = sameId x i := rfl
      rw [es]
      cases (x.take i).any (sameId x i) with
      | true => simp
      | false =>
        rw [if_neg (by simp), wrap_cast i (by omega), ih k (i + 1) (by omega) (by omega)]
        simp
theorem implCache_eq (x : List S32) (b c : Int) (hx : x.length ≤ 1048576) (hr : rowsN x ≤ 1048576) (k : Nat) (hk : 2 * x.length + 15 < k) : impl_CacheOk.f k x b c = some (cacheB x b c) := implCache_l0 x b c hx hr x.length k 0 (by omega) (by omega)
/-- The place of the first glyph that passes a test, counted from i; -1 if there is none. -/
def findG (p : S32 → Bool) : List S32 → Int → Int
  | [], _ => -1
  | g :: r, i => if p g = true then i else findG p r (i + 1)
def isId (id : Int) (g : S32) : Bool := decide (g.f0 = id)
def isOk (id : Int) (g : S32) : Bool := decide (g.f0 = id) && gB g
theorem eta_T (g : S32) : (⟨g.f0, g.f1, g.f2⟩ : S32) = g := rfl
theorem implAt_l0 (x : List S32) (hx : x.length ≤ 1048576) (id : Int) (v : Bool) (d : Nat) : ∀ (k : Nat) (i : Nat), i + d = x.length → d + 12 < k → impl_glyphAt.l0 k id v x x.length i = some (findG (if v = true then isOk id else isId id) (x.drop i) i) := by
  induction d with
  | zero =>
    intro k i hi hk
    obtain ⟨k, rfl⟩ : ∃ m, k = m + 1 := ⟨k - 1, by omega⟩
    rw [impl_glyphAt.l0, if_neg (by omega), List.drop_of_length_le (by omega)]; rfl
  | succ d ih =>
    intro k i hi hk
    obtain ⟨k, rfl⟩ : ∃ m, k = m + 1 := ⟨k - 1, by omega⟩
    have e : rd_T32 x i = x.getD i z32 := by simp [rd_T32]
    have ih' := ih k (i + 1) (by omega) (by omega)
    have ec : ((i + 1 : Nat) : Int) = (i : Int) + 1 := by omega
    rw [ec] at ih'
    rw [impl_glyphAt.l0, if_pos (by omega), if_pos (by omega), if_pos (by omega), e, getD_drop x z32 i (by omega), findG]
    by_cases h : (x.getD i z32).f0 = id
    · rw [if_pos h]
      cases v with
      | true =>
        rw [if_pos rfl, implGlyph_eq _ k (by omega)]
        simp only [Option.bind_some, if_true]
        have hq : isOk id (x.getD i z32) = gB (x.getD i z32) := by unfold isOk; rw [decide_eq_true h, Bool.true_and]
        rw [hq]
        cases gB (x.getD i z32) with
        | true => simp
        | false => rw [if_neg (by simp), if_neg (by simp), wrap_cast i (by omega), ec]; exact ih'
      | false =>
        have hq : isId id (x.getD i z32) = true := decide_eq_true h
        simp only [Bool.false_eq_true, if_false]
        rw [if_pos hq]
    · rw [if_neg h, wrap_cast i (by omega), ec, ih']
      have h1 : isOk id (x.getD i z32) = false := by unfold isOk; rw [decide_eq_false h, Bool.false_and]
      have h2 : isId id (x.getD i z32) = false := decide_eq_false h
      cases v
      · simp only [Bool.false_eq_true, if_false]; rw [if_neg (by rw [h2]; decide)]
      · simp only [if_true]; rw [if_neg (by rw [h1]; decide)]
theorem implAt_eq (x : List S32) (hx : x.length ≤ 1048576) (id : Int) (v : Bool) (k : Nat) (hk : x.length + 12 < k) : impl_glyphAt.f k x id v = some (findG (if v = true then isOk id else isId id) x 0) := by
  have := implAt_l0 x hx id v x.length k 0 (by omega) hk
  simpa [impl_glyphAt.f] using this
theorem specFind_l0 (x : List S32) (hx : x.length ≤ 1048576) (id : Int) (d : Nat) : ∀ (k : Nat) (i : Nat), i + d = x.length → d + 12 < k → spec_l25Find.l0 k x id i = some (findG (isOk id) (x.drop i) i) := by
  induction d with
  | zero =>
    intro k i hi hk
    obtain ⟨k, rfl⟩ : ∃ m, k = m + 1 := ⟨k - 1, by omega⟩
    rw [spec_l25Find.l0, if_neg (by omega), List.drop_of_length_le (by omega)]; rfl
  | succ d ih =>
    intro k i hi hk
    obtain ⟨k, rfl⟩ : ∃ m, k = m + 1 := ⟨k - 1, by omega⟩
    have e : rd_T32 x i = x.getD i z32 := by simp [rd_T32]
    have ih' := ih k (i + 1) (by omega) (by omega)
    have ec : ((i + 1 : Nat) : Int) = (i : Int) + 1 := by omega
    rw [ec] at ih'
    rw [spec_l25Find.l0, if_pos (by omega), if_pos (by omega), e, getD_drop x z32 i (by omega), findG]
    by_cases h : (x.getD i z32).f0 = id
    · rw [if_pos h, specGlyph_eq _ k (by omega)]
      simp only [Option.bind_some]
      have hq : isOk id (x.getD i z32) = gB (x.getD i z32) := by unfold isOk; rw [decide_eq_true h, Bool.true_and]
      rw [hq]
      cases gB (x.getD i z32) with
      | true => simp
      | false => rw [if_neg (by simp), if_neg (by simp), wrap_cast i (by omega), ec]; exact ih'
    · rw [if_neg h, wrap_cast i (by omega), ec, ih']
      have h1 : isOk id (x.getD i z32) = false := by unfold isOk; rw [decide_eq_false h, Bool.false_and]
      rw [if_neg (by rw [h1]; decide)]
theorem specFind_eq (x : List S32) (hx : x.length ≤ 1048576) (id : Int) (k : Nat) (hk : x.length + 12 < k) : spec_l25Find.f k x id = some (findG (isOk id) x 0) := by
  have := specFind_l0 x hx id x.length k 0 (by omega) hk
  simpa [spec_l25Find.f] using this
theorem implCopyGlyph_eq (g : S32) (h : g.f2.length ≤ 1048576) : impl_copyGlyph.f g.f0 g.f1 g.f2 = some (g.f0, g.f1, g.f2) := by
  simp [impl_copyGlyph.f, slices_Clone_int_int.f, show g.f2.length < 17592186044416 by omega]
theorem specCopyGlyph_eq (g : S32) (h : g.f2.length ≤ 1048576) : spec_l25Glyph.f g.f0 g.f1 g.f2 = some (g.f0, g.f1, g.f2) := by
  simp [spec_l25Glyph.f, spec_l05Copy.f, show g.f2.length < 17592186044416 by omega]
theorem implCopy_l0 (x : List S32) (b c : Int) (hx : x.length ≤ 1048576) (hr : ∀ g ∈ x, g.f2.length ≤ 1048576) (d : Nat) : ∀ (k : Nat) (i : Nat), i + d = x.length → d < k → impl_copyCache.l0 k x x.length i (x.take i) b c = some (x, b, c) := by
  induction d with
  | zero =>
    intro k i hi hk
    obtain ⟨k, rfl⟩ : ∃ m, k = m + 1 := ⟨k - 1, by omega⟩
    rw [impl_copyCache.l0, if_neg (by omega), List.take_of_length_le (by omega)]
  | succ d ih =>
    intro k i hi hk
    obtain ⟨k, rfl⟩ : ∃ m, k = m + 1 := ⟨k - 1, by omega⟩
    have e : rd_T32 x i = x.getD i z32 := by simp [rd_T32]
    have hg : x.getD i z32 ∈ x := by rw [List.getD_eq_getElem?_getD, List.getElem?_eq_getElem (by omega)]; exact List.getElem_mem _
    have ih' := ih k (i + 1) (by omega) (by omega)
    rw [impl_copyCache.l0, if_pos (by omega), if_pos (by omega), if_pos (by omega), e, implCopyGlyph_eq _ (hr _ hg)]
    simp only [Option.bind_some, eta_T]
    rw [if_pos (by rw [List.length_take]; omega), wrap_cast i (by omega)]
    have et : x.take i ++ [x.getD i z32] = x.take (i + 1) := by
      rw [List.take_add_one, List.getD_eq_getElem?_getD, List.getElem?_eq_getElem (by omega)]; rfl
    rw [et]; exact ih'
theorem implCopy_eq (x : List S32) (b c : Int) (hx : x.length ≤ 1048576) (hr : ∀ g ∈ x, g.f2.length ≤ 1048576) (k : Nat) (hk : x.length < k) : impl_copyCache.f k x b c = some (x, b, c) := by
  have := implCopy_l0 x b c hx hr x.length k 0 (by omega) hk
  simpa [impl_copyCache.f] using this
theorem specCopy_l0 (x : List S32) (b c : Int) (hx : x.length ≤ 1048576) (hr : ∀ g ∈ x, g.f2.length ≤ 1048576) (d : Nat) : ∀ (k : Nat) (i : Nat), i + d = x.length → d < k → spec_l25Copy.l0 k i x b c (x.take i) b c = some (x, b, c) := by
  induction d with
  | zero =>
    intro k i hi hk
    obtain ⟨k, rfl⟩ : ∃ m, k = m + 1 := ⟨k - 1, by omega⟩
    rw [spec_l25Copy.l0, if_neg (by omega), List.take_of_length_le (by omega)]
  | succ d ih =>
    intro k i hi hk
    obtain ⟨k, rfl⟩ : ∃ m, k = m + 1 := ⟨k - 1, by omega⟩
    have e : rd_T32 x i = x.getD i z32 := by simp [rd_T32]
    have hg : x.getD i z32 ∈ x := by rw [List.getD_eq_getElem?_getD, List.getElem?_eq_getElem (by omega)]; exact List.getElem_mem _
    have ih' := ih k (i + 1) (by omega) (by omega)
    rw [spec_l25Copy.l0, if_pos (by omega), if_pos (by omega), e, specCopyGlyph_eq _ (hr _ hg)]
    simp only [Option.bind_some, eta_T]
    rw [if_pos (by rw [List.length_take]; omega), wrap_cast i (by omega)]
    have et : x.take i ++ [x.getD i z32] = x.take (i + 1) := by
      rw [List.take_add_one, List.getD_eq_getElem?_getD, List.getElem?_eq_getElem (by omega)]; rfl
    rw [et]; exact ih'
theorem specCopy_eq (x : List S32) (b c : Int) (hx : x.length ≤ 1048576) (hr : ∀ g ∈ x, g.f2.length ≤ 1048576) (k : Nat) (hk : x.length < k) : spec_l25Copy.f k x b c = some (x, b, c) := by
  have := specCopy_l0 x b c hx hr x.length k 0 (by omega) hk
  simpa [spec_l25Copy.f] using this
def markL : Nat → Int → List Int
  | 0, _ => []
  | n + 1, m => m :: markL n (m + 1)
theorem markL_length (n : Nat) : ∀ m, (markL n m).length = n := by
  induction n with
  | zero => intro m; rfl
  | succ n ih => intro m; simp [markL, ih]
theorem set_at {α : Type} (p r : List α) (a b : α) : (p ++ a :: r).set p.length b = p ++ b :: r := by
  rw [List.set_append_right _ _ (Nat.le_refl _)]; simp
theorem markIntS_l0 (r : List Int) : ∀ (k : Nat) (p : List Int) (m : Int), r.length < k → p.length + r.length ≤ 8388608 → 0 ≤ m → m + r.length ≤ 100000000 → laws_markIntS.l0 k (p ++ r) m p.length = some (m + r.length, p ++ markL r.length m) := by
  induction r with
  | nil =>
    intro k p m hk hp h0 h1
    obtain ⟨k, rfl⟩ : ∃ q, k = q + 1 := ⟨k - 1, by omega⟩
    rw [laws_markIntS.l0, if_neg (by simp)]
    simp [markL]
  | cons a r ih =>
    intro k p m hk hp h0 h1
    simp only [List.length_cons] at hk hp h1
    obtain ⟨k, rfl⟩ : ∃ q, k = q + 1 := ⟨k - 1, by omega⟩
    have := ih k (p ++ [m]) (m + 1) (by omega) (by simp; omega) (by omega) (by omega)
    rw [laws_markIntS.l0, if_pos (by simp; omega), if_pos (by omega), Int.toNat_natCast, set_at, wrap_id (x := m + 1) (by omega) (by omega), wrap_cast p.length (by omega)]
    simp only [List.append_assoc, List.cons_append, List.nil_append, List.length_append, List.length_cons, List.length_nil, Nat.zero_add] at this
    rw [this]
    simp only [List.length_cons, markL]
    congr 2; omega
theorem markIntS_eq (x : List Int) (m : Int) (k : Nat) (hk : x.length < k) (hx : x.length ≤ 8388608) (h0 : 0 ≤ m) (h1 : m + x.length ≤ 100000000) : laws_markIntS.f k x m = some (m + x.length, markL x.length m) := by
  have := markIntS_l0 x k [] m hk (by simpa using hx) h0 h1
  simpa [laws_markIntS.f] using this
theorem heldIntS_l0 (n : Nat) : ∀ (k : Nat) (p : List Int) (m : Int), n < k → p.length + n ≤ 8388608 → 0 ≤ m → m + n ≤ 100000000 → laws_heldIntS.l0 k (p ++ markL n m) m p.length = some (m + n) := by
  induction n with
  | zero =>
    intro k p m hk hp h0 h1
    obtain ⟨k, rfl⟩ : ∃ q, k = q + 1 := ⟨k - 1, by omega⟩
    rw [laws_heldIntS.l0, if_neg (by simp [markL])]
    simp
  | succ n ih =>
    intro k p m hk hp h0 h1
    obtain ⟨k, rfl⟩ : ∃ q, k = q + 1 := ⟨k - 1, by omega⟩
    have := ih k (p ++ [m]) (m + 1) (by omega) (by simp; omega) (by omega) (by omega)
    have e : rd (p ++ markL (n + 1) m) (p.length : Int) = m := by rw [rd_nat]; simp [markL]
    rw [laws_heldIntS.l0, if_pos (by simp [markL_length]; omega), if_pos (by omega), e, if_pos rfl, wrap_id (x := m + 1) (by omega) (by omega), wrap_cast p.length (by omega)]
    simp only [List.append_assoc, List.cons_append, List.nil_append, List.length_append, List.length_cons, List.length_nil, Nat.zero_add] at this
    simp only [markL]
    rw [this]
    congr 1; omega
theorem heldIntS_eq (n : Nat) (m : Int) (k : Nat) (hk : n < k) (hn : n ≤ 8388608) (h0 : 0 ≤ m) (h1 : m + n ≤ 100000000) : laws_heldIntS.f k (markL n m) m = some (m + n) := by
  have := heldIntS_l0 n k [] m hk (by simpa using hn) h0 h1
  simpa [laws_heldIntS.f] using this
/-- Glyphs as a mark leaves them. -/
def markGl : List S32 → Int → List S32
  | [], _ => []
  | g :: r, m => ⟨m, m + 1, markL g.f2.length (m + 2)⟩ :: markGl r (m + 2 + g.f2.length)
theorem rowsN_sub {y x : List S32} (h : y.Sublist x) : rowsN y ≤ rowsN x := by
  induction h with
  | slnil => exact Int.le_refl _
  | cons a _ ih => simp only [rowsN]; omega
  | cons_cons a _ ih => simp only [rowsN]; omega
theorem markGlyphS_l0 (r : List S32) : ∀ (k : Nat) (p : List S32) (m : Int), (∀ q ∈ r, q.f2.length ≤ 1048576) → r.length + 1048577 < k → 0 ≤ m → m + 2 * r.length + rowsN r ≤ 100000000 → laws_markGlyphS.l0 k (p ++ r) m (p.length + r.length) p.length = some (m + 2 * r.length + rowsN r, p ++ markGl r m) := by
  induction r with
  | nil =>
    intro k p m hr hk h0 h1
    obtain ⟨k, rfl⟩ : ∃ q, k = q + 1 := ⟨k - 1, by omega⟩
    rw [laws_markGlyphS.l0, if_neg (by simp)]
    simp [markGl, rowsN]
  | cons a r ih =>
    intro k p m hr hk h0 h1
    have hN := rowsN_nonneg r
    simp only [List.length_cons, rowsN] at hk h1
    obtain ⟨k, rfl⟩ : ∃ q, k = q + 1 := ⟨k - 1, by omega⟩
    have ha := hr a (List.mem_cons_self ..)
    have e1 : wrap64 (m + 1) = m + 1 := wrap_id (by omega) (by omega)
    have e2 : wrap64 (m + 1 + 1) = m + 2 := (wrap_id (by omega) (by omega)).trans (by omega)
    have := ih k (p ++ [⟨m, m + 1, markL a.f2.length (m + 2)⟩]) (m + 2 + a.f2.length) (fun q hq => hr q (List.mem_cons_of_mem _ hq)) (by omega) (by omega) (by omega)
    have eg : (p ++ a :: r).getD p.length z32 = a := by simp
    rw [laws_markGlyphS.l0, if_pos (by simp), eg, e1, e2, markIntS_eq a.f2 (m + 2) k (by omega) (by omega) (by omega) (by omega)]
    simp only [Option.bind_some, set_at]
    simp only [List.append_assoc, List.cons_append, List.nil_append, List.length_append, List.length_cons, List.length_nil, Nat.zero_add] at this
    rw [List.length_cons, show p.length + (r.length + 1) = p.length + 1 + r.length by omega, this]
    simp only [markGl, rowsN]
    congr 2; omega
theorem markGlyphS_eq (x : List S32) (m : Int) (k : Nat) (hr : ∀ q ∈ x, q.f2.length ≤ 1048576) (hk : x.length + 1048577 < k) (h0 : 0 ≤ m) (h1 : m + 2 * x.length + rowsN x ≤ 100000000) : laws_markGlyphS.l0 k x m x.length 0 = some (m + 2 * x.length + rowsN x, markGl x m) := by
  have := markGlyphS_l0 x k [] m hr hk h0 h1
  simpa using this
theorem heldGlyphS_l0 (r : List S32) : ∀ (k : Nat) (p : List S32) (m : Int), (∀ q ∈ r, q.f2.length ≤ 1048576) → p.length + r.length ≤ 8388608 → r.length + 1048577 < k → 0 ≤ m → m + 2 * r.length + rowsN r ≤ 100000000 → laws_heldGlyphS.l0 k (p ++ markGl r m) m p.length = some (m + 2 * r.length + rowsN r) := by
  induction r with
  | nil =>
    intro k p m hr hp hk h0 h1
    obtain ⟨k, rfl⟩ : ∃ q, k = q + 1 := ⟨k - 1, by omega⟩
    rw [laws_heldGlyphS.l0, if_neg (by simp [markGl])]
    simp [rowsN]
  | cons a r ih =>
    intro k p m hr hp hk h0 h1
    have hN := rowsN_nonneg r
    simp only [List.length_cons, rowsN] at hp hk h1
    obtain ⟨k, rfl⟩ : ∃ q, k = q + 1 := ⟨k - 1, by omega⟩
    have ha := hr a (List.mem_cons_self ..)
    have e1 : wrap64 (m + 1) = m + 1 := wrap_id (by omega) (by omega)
    have e2 : wrap64 (m + 1 + 1) = m + 2 := (wrap_id (by omega) (by omega)).trans (by omega)
    have := ih k (p ++ [⟨m, m + 1, markL a.f2.length (m + 2)⟩]) (m + 2 + a.f2.length) (fun q hq => hr q (List.mem_cons_of_mem _ hq)) (by simp; omega) (by omega) (by omega) (by omega)
    simp only [markGl]
    have e : rd_T32 (p ++ (⟨m, m + 1, markL a.f2.length (m + 2)⟩ : S32) :: markGl r (m + 2 + a.f2.length)) (p.length : Int) = ⟨m, m + 1, markL a.f2.length (m + 2)⟩ := by simp [rd_T32]
    rw [laws_heldGlyphS.l0, if_pos (by simp; omega), if_pos (by omega), e]
    simp only [e1, e2, if_true]
    rw [heldIntS_eq a.f2.length (m + 2) k (by omega) (by omega) (by omega) (by omega)]
    simp only [Option.bind_some]
    rw [if_neg (by omega), wrap_cast p.length (by omega)]
    simp only [List.append_assoc, List.cons_append, List.nil_append, List.length_append, List.length_cons, List.length_nil, Nat.zero_add] at this
    rw [this]
    simp only [rowsN, List.length_cons]
    congr 1; omega
theorem heldCache_eq (x : List S32) (b c m : Int) (k : Nat) (hr : ∀ q ∈ x, q.f2.length ≤ 1048576) (hx : x.length ≤ 8388608) (hk : x.length + 1048577 < k) (h0 : 0 ≤ m) (h1 : m + 2 * x.length + rowsN x ≤ 100000000) : laws_heldCache.f k (markGl x m) b c m = some (m + 2 * x.length + rowsN x) := by
  have := heldGlyphS_l0 x k [] m hr (by simpa using hx) hk h0 h1
  have hN := rowsN_nonneg x
  have e : laws_heldGlyphS.f k (markGl x m) m = some (m + 2 * x.length + rowsN x) := by simpa [laws_heldGlyphS.f] using this
  rw [laws_heldCache.f, e]
  simp only [Option.bind_some]
  rw [if_neg (by omega)]
theorem eqCache_self (x : List S32) (b c : Int) (hx : x.length ≤ 1048576) (hr : ∀ g ∈ x, g.f2.length ≤ 1048576) (k : Nat) (hk : x.length + 1048577 < k) : laws_eqCache.f k x b c x b c = some true := by
  rw [laws_eqCache.f, eqGlyphS_eq x hx hr k hk]
  simp
theorem rowsN_map (x : List S69) : rowsN (x.map toGlyph) = tot x := by
  induction x with
  | nil => rfl
  | cons g r ih => simp only [List.map_cons, rowsN, tot, ih]; rfl
theorem findG_le (p : S32 → Bool) (x : List S32) : ∀ i : Int, 0 ≤ i → findG p x i < 0 ∨ (i ≤ findG p x i ∧ findG p x i < i + x.length) := by
  induction x with
  | nil => intro i hi; left; show (-1 : Int) < 0; omega
  | cons g r ih =>
    intro i hi
    rw [findG]
    by_cases h : p g = true
    · rw [if_pos h, List.length_cons]; right; omega
    · rw [if_neg h, List.length_cons]
      rcases ih (i + 1) (by omega) with h1 | h1
      · exact .inl h1
      · right; omega
theorem findG_same (p q : S32 → Bool) (x : List S32) (h : ∀ g ∈ x, p g = q g) : ∀ i : Int, findG p x i = findG q x i := by
  induction x with
  | nil => intro i; rfl
  | cons g r ih =>
    intro i
    rw [findG, findG, h g (List.mem_cons_self ..), ih (fun g hg => h g (List.mem_cons_of_mem _ hg))]
theorem cacheL_all (x : List S32) (d : Nat) : ∀ i : Nat, i + d = x.length → cacheL x d i = true → ∀ g ∈ x.drop i, gB g = true := by
  induction d with
  | zero => intro i hi _ g hg; rw [List.drop_of_length_le (by omega)] at hg; simp at hg
  | succ d ih =>
    intro i hi h g hg
    rw [cacheL, Bool.and_eq_true, Bool.and_eq_true] at h
    rw [getD_drop x z32 i (by omega)] at hg
    rcases List.mem_cons.1 hg with rfl | hg
    · exact h.1
    · exact ih (i + 1) (by omega) h.2.2 g hg
theorem szGlyphS_eq (x : List S69) (a : Int) (h0 : 0 ≤ a) (h1 : a ≤ 1048576) (hx : x.length ≤ maxLen) (hr : ∀ g ∈ x, g.f2.length ≤ maxLen) (k : Nat) (hk : x.length < k) : laws_szGlyphS.f k x a = some (if a - x.length - tot x < 0 then -1 else a - x.length - tot x) := by
  unfold maxLen at hx
  have ht := tot_nonneg x
  unfold laws_szGlyphS.f
  rw [wrap_id (by omega) (by omega)]
  by_cases h : a - (x.length : Int) < 0
  · rw [if_pos h, if_pos (by omega)]
  · have e := szGlyphS_l0 x (by omega) hr x.length k 0 (a - x.length) (by omega) hk (by omega) (by omega)
    rw [List.drop_zero] at e
    rw [if_neg h]
    exact e
theorem rowsN_mem (x : List S32) (g : S32) (h : g ∈ x) : (g.f2.length : Int) ≤ rowsN x := by
  induction x with
  | nil => simp at h
  | cons g' r ih =>
    have := rowsN_nonneg r
    simp only [rowsN]
    rcases List.mem_cons.1 h with rfl | h
    · omega
    · have := ih h; omega
theorem rowsN_erase (x : List S32) : ∀ n : Nat, n < x.length → rowsN (x.getD n z32 :: x.eraseIdx n) = rowsN x := by
  induction x with
  | nil => intro n h; simp at h
  | cons g r ih =>
    intro n h
    cases n with
    | zero => rfl
    | succ n =>
      have := ih n (by simpa using h)
      simp only [rowsN, List.getD_cons_succ, List.eraseIdx_cons_succ] at this ⊢
      omega
/-- The last glyphs go until the rows have room. -/
def trimR : Nat → List S32 → List S32
  | 0, x => x
  | d + 1, x => if rowsN x > 20 then trimR d (x.take (x.length - 1)) else x
theorem trimR_sub (d : Nat) : ∀ x : List S32, (trimR d x).Sublist x := by
  induction d with
  | zero => intro x; exact List.Sublist.refl _
  | succ d ih =>
    intro x
    rw [trimR]
    split
    · exact (ih _).trans (List.take_sublist _ _)
    · exact List.Sublist.refl _
theorem implTrim (g : S32) (hg : g.f2.length ≤ 1048576) (h m : Int) (d : Nat) : ∀ (k : Nat) (x : List S32), x.length = d → d ≤ 1048576 → rowsN x ≤ 1048576 → 2 * d + 2 < k → impl_FetchGlyph.l0 k x h m g.f0 g.f1 g.f2 = some (trimR d x, h, m, g.f0, g.f1, g.f2, true) := by
  induction d with
  | zero =>
    intro k x hx _ hn hk
    obtain ⟨k, rfl⟩ : ∃ q, k = q + 1 := ⟨k - 1, by omega⟩
    have : rowsN x = 0 := by rw [List.length_eq_zero_iff.1 hx]; rfl
    rw [impl_FetchGlyph.l0, implSize_eq x h m (by omega) hn k (by omega)]
    simp only [Option.bind_some]
    rw [if_neg (by omega), implCopyGlyph_eq g hg]
    rfl
  | succ d ih =>
    intro k x hx hd hn hk
    obtain ⟨k, rfl⟩ : ∃ q, k = q + 1 := ⟨k - 1, by omega⟩
    rw [impl_FetchGlyph.l0, implSize_eq x h m (by omega) hn k (by omega), trimR]
    simp only [Option.bind_some]
    by_cases c : rowsN x > 20
    · have e : wrap64 ((x.length : Int) - 1) = (d : Int) := (wrap_id (by omega) (by omega)).trans (by omega)
      rw [if_pos c, if_pos c, e, if_pos (by omega), if_pos (by omega), Int.toNat_natCast, show x.length - 1 = d by omega]
      exact ih k (x.take d) (by rw [List.length_take]; omega) (by omega) (Int.le_trans (rowsN_sub (List.take_sublist _ _)) hn) (by omega)
    · rw [if_neg c, if_neg c, implCopyGlyph_eq g hg]
      rfl
theorem specTrim (y : List S32) (t : Int) (h0 : 0 ≤ t) (h1 : t < y.length) (g : S32) (e0 : rd_T32 y t = g) (hg : g.f2.length ≤ 1048576) (h m : Int) (d : Nat) : ∀ (k : Nat) (x : List S32), x.length = d → d ≤ 1048576 → rowsN x ≤ 1048576 → 2 * d + 2 < k → spec_FetchGlyph.l0 k y t x h m = some (trimR d x, h, m, g.f0, g.f1, g.f2, true) := by
  induction d with
  | zero =>
    intro k x hx _ hn hk
    obtain ⟨k, rfl⟩ : ∃ q, k = q + 1 := ⟨k - 1, by omega⟩
    have : rowsN x = 0 := by rw [List.length_eq_zero_iff.1 hx]; rfl
    rw [spec_FetchGlyph.l0, specSize_eq x h m (by omega) hn k (by omega)]
    simp only [Option.bind_some]
    rw [if_neg (by omega), if_pos h0, if_pos h1, e0, specCopyGlyph_eq g hg]
    rfl
  | succ d ih =>
    intro k x hx hd hn hk
    obtain ⟨k, rfl⟩ : ∃ q, k = q + 1 := ⟨k - 1, by omega⟩
    rw [spec_FetchGlyph.l0, specSize_eq x h m (by omega) hn k (by omega), trimR]
    simp only [Option.bind_some]
    by_cases c : rowsN x > 20
    · have e : wrap64 ((x.length : Int) - 1) = (d : Int) := (wrap_id (by omega) (by omega)).trans (by omega)
      rw [if_pos c, if_pos c, e, if_pos (by omega), if_pos (by omega), Int.toNat_natCast, show x.length - 1 = d by omega]
      exact ih k (x.take d) (by rw [List.length_take]; omega) (by omega) (Int.le_trans (rowsN_sub (List.take_sublist _ _)) hn) (by omega)
    · rw [if_neg c, if_neg c, if_pos h0, if_pos h1, e0, specCopyGlyph_eq g hg]
      rfl
theorem rd_row (y : List S32) (t : Int) (h0 : 0 ≤ t) (h1 : t < y.length) : rd_T32 y t ∈ y := by
  obtain ⟨n, rfl⟩ : ∃ n : Nat, t = n := ⟨t.toNat, by omega⟩
  have e : rd_T32 y n = y.getD n z32 := by simp [rd_T32]
  rw [e]
  exact getD_mem y z32 n (by omega)
def okR (r : Option ((List (S32)) × Int × Int × Int × Int × List Int × Bool)) (s : Option ((List (S32)) × Int × Int × Int × Int × List Int × Bool)) : Prop :=
  ∃ (z : List S32) (b c : Int) (g : S32) (fl : Bool), r = some (z, b, c, g.f0, g.f1, g.f2, fl) ∧ s = some (z, b, c, g.f0, g.f1, g.f2, fl) ∧ z.length ≤ 1048576 ∧ rowsN z ≤ 1048576 ∧ g.f2.length ≤ 1048576
theorem hit_spec (x y : List S32) (b c id : Int) (t : Int) (hx : x.length ≤ 1048576) (hr : ∀ g ∈ x, g.f2.length ≤ 1048576) (k : Nat) (hk : x.length + 12 < k) (ht : findG (isOk id) x 0 = t) (h0 : 0 ≤ t) (h1 : t < x.length) : spec_FetchGlyph.j0 (k + 1) id y false x b c x b c = some (rd_T32 x t :: x.eraseIdx t.toNat, wrap64 (b + 1), c, (rd_T32 x t).f0, (rd_T32 x t).f1, (rd_T32 x t).f2, true) := by
  have hg := hr _ (rd_row x t h0 h1)
  have hq1 : wrap64 (t + 1) = t + 1 := wrap_id (by omega) (by omega)
  have e1 : (t + 1).toNat = t.toNat + 1 := by omega
  rw [spec_FetchGlyph.j0, if_neg (by decide), specFind_eq x hx id k hk, ht]
  simp only [Option.bind_some, List.nil_append, List.length_nil, hq1, e1]
  rw [if_pos (show t ≥ 0 from h0), if_pos h0, if_pos h1, if_pos (by omega), if_pos (by rw [List.length_take]; omega), if_pos (by omega), if_pos (by omega), if_pos (by rw [List.length_take, List.length_drop]; omega), if_pos (by simp only [List.length_cons, List.length_nil, List.length_append, List.length_take, List.length_drop]; omega), specCopyGlyph_eq _ hg, List.eraseIdx_eq_take_drop_succ]
  rfl
theorem hit_impl (x y : List S32) (b c : Int) (t u : Int) (hx : x.length ≤ 1048576) (hn : rowsN x ≤ 20) (k : Nat) (hk : 2 * x.length + 2 < k) (h0 : 0 ≤ t) (h1 : t < x.length) : impl_FetchGlyph.j0 (k + 1) y t u false x b c = some (rd_T32 x t :: x.eraseIdx t.toNat, wrap64 (b + 1), c, (rd_T32 x t).f0, (rd_T32 x t).f1, (rd_T32 x t).f2, true) := by
  obtain ⟨n, rfl⟩ : ∃ n : Nat, t = n := ⟨t.toNat, by omega⟩
  have e : rd_T32 x n = x.getD n z32 := by simp [rd_T32]
  have hm := rowsN_mem x _ (rd_row x n h0 h1)
  have he := rowsN_erase x n (by omega)
  have hl : (rd_T32 x n :: x.eraseIdx n).length = x.length := by rw [List.length_cons, List.length_eraseIdx_of_lt (by omega)]; omega
  have hq1 : wrap64 ((n : Int) + 1) = n + 1 := wrap_id (by omega) (by omega)
  rw [← e] at he
  have ht := implTrim (rd_T32 x n) (by omega) (wrap64 (b + 1)) c x.length k (rd_T32 x n :: x.eraseIdx n) hl hx (by omega) hk
  have hz : trimR x.length (rd_T32 x n :: x.eraseIdx n) = rd_T32 x n :: x.eraseIdx n := by
    obtain ⟨d, hd⟩ : ∃ d, x.length = d + 1 := ⟨x.length - 1, by omega⟩
    rw [hd, trimR, if_neg (by omega)]
  rw [hz] at ht
  rw [impl_FetchGlyph.j0, if_neg (by decide), if_pos (show (n : Int) ≥ 0 from h0), if_pos h0, if_pos h1, if_pos (by omega), hq1, if_pos (by omega), if_pos (by omega), Int.toNat_natCast]
  simp only [Option.bind_some, eta_T, List.cons_append, List.nil_append]
  rw [if_pos (by simp only [List.length_cons, List.length_nil]; rw [List.length_eraseIdx_of_lt (by omega)]; omega)]
  exact ht
theorem miss (x y : List S32) (b c id : Int) (t u : Int) (hx : x.length + y.length ≤ 1048576) (hn : rowsN x + rowsN y ≤ 1048576) (k : Nat) (hk : 2 * x.length + 4 < k) (hk2 : x.length + y.length + 12 < k) (h0 : t < 0) (ht : findG (isOk id) x 0 = t) (hu : findG (isOk id) y 0 = u) (h1 : 0 ≤ u) (h2 : u < y.length) : okR (spec_FetchGlyph.j0 (k + 1) id y false x b c x b c) (impl_FetchGlyph.j0 (k + 1) y t u false x b c) := by
  have hm := rowsN_mem y _ (rd_row y u h1 h2)
  have hx0 := rowsN_nonneg x
  have hg : (rd_T32 y u).f2.length ≤ 1048576 := by omega
  have hR : rowsN (rd_T32 y u :: x) ≤ 1048576 := by rw [rowsN]; omega
  have hs := trimR_sub (x.length + 1) (rd_T32 y u :: x)
  refine ⟨trimR (x.length + 1) (rd_T32 y u :: x), b, wrap64 (c + 1), rd_T32 y u, true, ?_, ?_, ?_, Int.le_trans (rowsN_sub hs) hR, hg⟩
  · rw [spec_FetchGlyph.j0, if_neg (by decide), specFind_eq x (by omega) id k (by omega), ht]
    simp only [Option.bind_some]
    rw [if_neg (show ¬ t ≥ 0 by omega), specFind_eq y (by omega) id k (by omega), hu]
    simp only [Option.bind_some]
    rw [if_neg (by omega), if_pos h1, if_pos h2, specCopyGlyph_eq _ hg]
    simp only [Option.bind_some, eta_T, List.cons_append, List.nil_append]
    rw [if_pos (by simp only [List.length_cons, List.length_nil]; omega)]
    exact specTrim y u h1 h2 _ rfl hg b _ (x.length + 1) k _ (by rw [List.length_cons]) (by omega) hR (by omega)
  · rw [impl_FetchGlyph.j0, if_neg (by decide), if_neg (show ¬ t ≥ 0 by omega), if_pos h1, if_pos h2, implCopyGlyph_eq _ hg]
    simp only [Option.bind_some, eta_T, List.cons_append, List.nil_append]
    rw [if_pos (by simp only [List.length_cons, List.length_nil]; omega)]
    exact implTrim _ hg b _ (x.length + 1) k _ (by rw [List.length_cons]) (by omega) hR (by omega)
  · have := hs.length_le
    rw [List.length_cons] at this
    omega
theorem refuse_spec (x y : List S32) (b c id : Int) (k : Nat) : spec_FetchGlyph.j0 (k + 1) id y true x b c x b c = some (x, b, c, 0, 0, [], false) := by
  rw [spec_FetchGlyph.j0, if_pos rfl]
theorem refuse_impl (x y : List S32) (b c t u : Int) (k : Nat) : impl_FetchGlyph.j0 (k + 1) y t u true x b c = some (x, b, c, 0, 0, [], false) := by
  rw [impl_FetchGlyph.j0, if_pos rfl]
theorem fetch_eq (x y : List S32) (b c id : Int) (hx : x.length + y.length ≤ 1048576) (hn : rowsN x + rowsN y ≤ 1048576) (hr : ∀ g ∈ x, g.f2.length ≤ 1048576) (k : Nat) (hk : (x.length + 1) * (x.length + 15) + 2 * x.length + y.length + 20 < k) : okR (spec_FetchGlyph.f k x b c id y) (impl_FetchGlyph.f k x b c id y) := by
  have hK : x.length + 15 ≤ (x.length + 1) * (x.length + 15) := Nat.le_mul_of_pos_left _ (by omega)
  have hy0 := rowsN_nonneg y
  have hR : okR (some (x, b, c, 0, 0, [], false)) (some (x, b, c, 0, 0, [], false)) := ⟨x, b, c, ⟨0, 0, []⟩, false, rfl, rfl, by omega, by omega, by show (0 : Nat) ≤ 1048576; omega⟩
  obtain ⟨k, rfl⟩ : ∃ q, k = q + 1 := ⟨k - 1, by omega⟩
  rw [spec_FetchGlyph.f, impl_FetchGlyph.f, specCopy_eq x b c (by omega) hr _ (by omega), implCopy_eq x b c (by omega) hr _ (by omega), specCache_eq x b c (by omega) (by omega) _ (by omega), implCache_eq x b c (by omega) (by omega) _ (by omega), implAt_eq x (by omega) id false _ (by omega), implAt_eq y (by omega) id true _ (by omega)]
  simp only [Option.bind_some, Bool.false_eq_true, if_false, if_true]
  by_cases hc : cacheB x b c = true
  · rw [if_pos hc, if_pos hc]
    have hc1 : cacheL x x.length 0 = true ∧ rowsN x ≤ 20 := by
      unfold cacheB cacheT at hc
      rw [Bool.and_eq_true, Bool.and_eq_true] at hc
      exact ⟨hc.1, of_decide_eq_true hc.2.1⟩
    have hall := cacheL_all x x.length 0 (by omega) hc1.1
    rw [List.drop_zero] at hall
    have e : findG (isOk id) x 0 = findG (isId id) x 0 := findG_same _ _ x (fun g hg => by unfold isOk isId; rw [hall g hg, Bool.and_true]) 0
    have hb := findG_le (isId id) x 0 (by omega)
    have hu := findG_le (isOk id) y 0 (by omega)
    generalize ht : findG (isId id) x 0 = t at hb e
    generalize hu' : findG (isOk id) y 0 = u at hu
    by_cases h1 : b = 100000
    · rw [if_pos h1, if_pos h1, refuse_spec, refuse_impl]
      split
      · split <;> exact hR
      · exact hR
    · rw [if_neg h1, if_neg h1]
      by_cases h2 : c = 100000
      · have h2' : (c == 100000) = true := by rw [h2]; rfl
        rw [h2', refuse_spec, refuse_impl]
        split
        · split <;> exact hR
        · exact hR
      · have h2' : (c == 100000) = false := by simpa using h2
        rw [h2']
        by_cases h3 : t < 0
        · rw [if_pos h3]
          by_cases h4 : u < 0
          · rw [if_pos h4, refuse_impl]
            have : spec_FetchGlyph.j0 (k + 1) id y false x b c x b c = some (x, b, c, 0, 0, [], false) := by
              rw [spec_FetchGlyph.j0, if_neg (by decide), specFind_eq x (by omega) id k (by omega), e]
              simp only [Option.bind_some]
              rw [if_neg (show ¬ t ≥ 0 by omega), specFind_eq y (by omega) id k (by omega), hu']
              simp only [Option.bind_some]
              rw [if_pos h4]
            rw [this]
            exact hR
          · rw [if_neg h4]
            exact miss x y b c id t u hx hn k (by omega) (by omega) h3 e hu' (by omega) (by omega)
        · rw [if_neg h3, hit_spec x y b c id t (by omega) hr k (by omega) e (by omega) (by omega), hit_impl x y b c t u (by omega) hc1.2 k (by omega) (by omega) (by omega)]
          have hm := rowsN_mem x _ (rd_row x t (by omega) (by omega))
          have he := rowsN_erase x t.toNat (by omega)
          have e2 : rd_T32 x t = x.getD t.toNat z32 := by simp [rd_T32]
          rw [← e2] at he
          exact ⟨_, _, _, rd_T32 x t, _, rfl, rfl, by rw [List.length_cons, List.length_eraseIdx_of_lt (by omega)]; omega, by omega, by omega⟩
  · rw [if_neg hc, if_neg hc, refuse_spec]
    exact hR
theorem pure : laws_FnExactFetchGlyph.Stm := by
  intro x b c id y hx _ _ _ hy1 hy2
  have hr : ∀ g ∈ x, g.f2.length ≤ maxLen := fun g hg => (hx.2 g hg).2.2.1
  have hs : ∀ g ∈ y, g.f2.length ≤ maxLen := fun g hg => (hy2 g hg).2.2.1
  have hK : x.length + 15 ≤ (x.length + 1) * (x.length + 15) := Nat.le_mul_of_pos_left _ (by omega)
  obtain ⟨K, hKK⟩ : ∃ K, K = (x.length + 1) * (x.length + 15) + 2 * x.length + y.length + 3000000 := ⟨_, rfl⟩
  refine ⟨K, ?_⟩
  rw [laws_FnExactFetchGlyph.f, szCache_eq x b c hx.1 hr _ (by omega)]
  simp only [Option.bind_some]
  by_cases h : szB x = true
  · obtain ⟨h1, h2⟩ := szB_rows x h
    have ht := of_decide_eq_true (show decide ((x.length : Int) + tot x ≤ 1048576) = true from h)
    have htx := tot_nonneg x
    have hty := tot_nonneg y
    rw [if_pos h, if_neg (by omega), szGlyphS_eq y _ (by omega) (by omega) hy1 hs _ (by omega)]
    simp only [Option.bind_some]
    by_cases hq : 1048576 - (x.length : Int) - tot x - y.length - tot y < 0
    · rw [if_pos hq, if_pos (by omega)]
    · rw [if_neg hq, if_neg hq]
      have h4 : ∀ g ∈ y, g.f2.length ≤ 1048576 := fun g hg => by have := tot_mem y g hg; omega
      have hm : (x.map toGlyph).length = x.length := by simp
      have hn := rowsN_map x
      have hR := map_rows x h2
      have hm' : (y.map toGlyph).length = y.length := by simp
      have hn' := rowsN_map y
      have hR' := map_rows y h4
      rw [laws_toCache.f, toGlyphS_eq x h1 h2 _ (by omega), toGlyphS_eq y (by omega) h4 _ (by omega)]
      simp only [Option.bind_some]
      generalize x.map toGlyph = u at hm hn hR
      generalize y.map toGlyph = v at hm' hn' hR'
      obtain ⟨z, b', c', g, fl, e1, e2, hz1, hz2, hz3⟩ := fetch_eq u v b c id (by omega) (by omega) hR K (by rw [hm, hm']; omega)
      have hz4 : ∀ q ∈ z, q.f2.length ≤ 1048576 := fun q hq => by have := rowsN_mem z q hq; omega
      have hu0 := rowsN_nonneg u
      have hv0 := rowsN_nonneg v
      have hz0 := rowsN_nonneg z
      have hmg : ∀ (m : Int) (k : Nat), g.f2.length < k → 0 ≤ m → m + g.f2.length ≤ 100000000 → laws_markGlyph.f k g.f0 g.f1 g.f2 m = some (m + g.f2.length, markL g.f2.length m) := fun m k hk h0 h1 => by rw [laws_markGlyph.f, markIntS_eq g.f2 m k hk (by omega) h0 h1]; rfl
      have hhg : ∀ (m : Int) (k : Nat), g.f2.length < k → 0 ≤ m → m + g.f2.length ≤ 100000000 → laws_heldGlyph.f k g.f0 g.f1 (markL g.f2.length m) m = some (m + g.f2.length) := fun m k hk h0 h1 => by
        rw [laws_heldGlyph.f, heldIntS_eq g.f2.length m k hk (by omega) h0 h1]
        simp only [Option.bind_some]
        rw [if_neg (by omega)]
      rw [e1]
      simp only [Option.bind_some]
      rw [e2]
      simp only [Option.bind_some]
      rw [eqCache_self z b' c' hz1 hz4 _ (by omega), eqGlyph_eq g hz3 _ (by omega), eqCache_self u b c (by omega) hR _ (by omega), eqGlyphS_eq v (by omega) hR' _ (by omega), markGlyphS_eq u 1 _ hR (by omega) (by omega) (by omega)]
      simp only [Option.bind_some]
      rw [markGlyphS_eq v _ _ hR' (by omega) (by omega) (by omega), markGlyphS_eq z 1 _ hz4 (by omega) (by omega) (by omega)]
      simp only [Option.bind_some]
      rw [hmg _ _ (by omega) (by omega) (by omega)]
      simp only [Option.bind_some]
      rw [heldCache_eq z b' c' 1 _ hz4 (by omega) (by omega) (by omega) (by omega)]
      simp only [Option.bind_some]
      rw [hhg _ _ (by omega) (by omega) (by omega)]
      simp only [Option.bind_some]
      rw [if_pos ⟨trivial, trivial, trivial, trivial, trivial, by omega, by omega, trivial, by omega⟩]
  · rw [if_neg h, if_pos (by omega)]
end Go.Proofs.Ytphjcllhlecpfaa.PureFnExactFetchGlyph
