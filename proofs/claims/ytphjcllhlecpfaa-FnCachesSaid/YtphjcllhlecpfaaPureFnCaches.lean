/- A glyph that is fetched from a font that has it is the font's, stands in front of a valid cache and is counted as held or not, ten times over, whatever is drawn: no condition. -/
import Derived.Test.YtphjcllhlecpfaaOpsFnCaches
import Derived.Test.YtphjcllhlecpfaaPlain
namespace Go.Proofs.Ytphjcllhlecpfaa.PureFnCaches
open Go.RowKit Go.Proofs.Ytphjcllhlecpfaa.PFnCaches Go.Proofs.Ytphjcllhlecpfaa.Opened Go.Proofs.Ytphjcllhlecpfaa.Plain Go.Proofs.YtphjcllhlecpfaaW.PrintWords Go.Proofs.YtphjcllhlecpfaaW.PrintLast Go.Proofs.YtphjcllhlecpfaaW.PrintMore
set_option linter.unusedVariables false
set_option linter.unusedSimpArgs false
theorem new_l0 (x : List Int) (hx : x.length ≤ 1048576) (d : Nat) : ∀ (k : Nat) (h : Int) (i : Nat), i + d = x.length → d < k → ∃ h', spec_l01New.l0 k x h i = some (x, 0, h') := by
  induction d with
  | zero =>
    intro k h i hi hk
    obtain ⟨k, rfl⟩ : ∃ m, k = m + 1 := ⟨k - 1, by omega⟩
    rw [spec_l01New.l0, if_neg (by omega)]
    exact ⟨_, rfl⟩
  | succ d ih =>
    intro k h i hi hk
    obtain ⟨k, rfl⟩ : ∃ m, k = m + 1 := ⟨k - 1, by omega⟩
    rw [spec_l01New.l0, if_pos (by omega)]
    by_cases h4 : (i : Int) < 4000
    · rw [if_pos h4, if_pos (by omega), wrap_cast i (by omega)]
      exact ih k _ (i + 1) (by omega) (by omega)
    · rw [if_neg h4]
      exact ⟨_, rfl⟩
theorem new_some (x : List Int) (hx : x.length ≤ 1048576) (k : Nat) (hk : x.length < k) : ∃ h, spec_l01New.f k x = some (x, 0, h) := new_l0 x hx x.length k _ 0 (by omega) hk
theorem byte_some (s : List Int) (hs : s.length ≤ 1048576) (i h : Int) (hi : 0 ≤ i) : ∃ v i' h', spec_l01Byte.f s i h = some (v, i', h') ∧ 0 ≤ v ∧ v ≤ 255 ∧ 0 ≤ i' := by
  unfold spec_l01Byte.f
  simp only [i64_and255]
  by_cases h1 : i < (s.length : Int)
  · rw [if_pos h1, if_pos hi]
    exact ⟨_, _, _, rfl, by omega, by omega, by rw [wrap_id (by omega) (by omega)]; omega⟩
  · rw [if_neg h1]
    exact ⟨_, _, _, rfl, by omega, by omega, hi⟩
theorem below_some (s : List Int) (hs : s.length ≤ 1048576) (i h n : Int) (hi : 0 ≤ i) (hn : 0 < n) : ∃ v i' h', spec_l01Below.f s i h n = some (v, i', h') ∧ 0 ≤ v ∧ v < n ∧ 0 ≤ i' := by
  unfold spec_l01Below.f
  rw [if_neg (by omega)]
  obtain ⟨v1, i1, h1, e1, a1, b1, c1⟩ := byte_some s hs i h hi
  by_cases h2 : n ≤ 256
  · rw [if_pos h2, e1]
    simp only [Option.bind_some]
    rw [if_neg (by omega)]
    have := tmod_range a1 hn
    exact ⟨_, _, _, rfl, this.1, this.2, c1⟩
  · rw [if_neg h2, e1]
    simp only [Option.bind_some]
    obtain ⟨v2, i2, h2, e2, a2, b2, c2⟩ := byte_some s hs i1 h1 c1
    rw [e2]
    simp only [Option.bind_some]
    obtain ⟨v3, i3, h3, e3, a3, b3, c3⟩ := byte_some s hs i2 h2 c2
    rw [e3]
    simp only [Option.bind_some]
    obtain ⟨v4, i4, h4, e4, a4, b4, c4⟩ := byte_some s hs i3 h3 c3
    rw [e4]
    simp only [Option.bind_some]
    rw [if_neg (by omega)]
    have w1 : wrap64 (v1 * 16777216) = v1 * 16777216 := wrap_id (by omega) (by omega)
    have w2 : wrap64 (v2 * 65536) = v2 * 65536 := wrap_id (by omega) (by omega)
    have w3 : wrap64 (v3 * 256) = v3 * 256 := wrap_id (by omega) (by omega)
    rw [w1, w2, w3, wrap_id (x := v1 * 16777216 + v2 * 65536) (by omega) (by omega), wrap_id (x := v1 * 16777216 + v2 * 65536 + v3 * 256) (by omega) (by omega), wrap_id (x := v1 * 16777216 + v2 * 65536 + v3 * 256 + v4) (by omega) (by omega)]
    have := tmod_range (a := v1 * 16777216 + v2 * 65536 + v3 * 256 + v4) (by omega) hn
    exact ⟨_, _, _, rfl, this.1, this.2, c4⟩
theorem places_l0 (s : List Int) (hs : s.length ≤ 1048576) (d : Nat) : ∀ (k : Nat) (r : List Int) (i : Nat) (c h : Int), i + d = 12 → d < k → 0 ≤ c → r.length = i → (∀ x ∈ r, 0 ≤ x ∧ x < 10000) →
    ∃ q, spec_DrawPlaces.l0 k r i s c h = some q ∧ q.length = 12 ∧ ∀ x ∈ q, 0 ≤ x ∧ x < 10000 := by
  induction d with
  | zero =>
    intro k r i c h hi hk hc hl hr
    obtain ⟨k, rfl⟩ : ∃ m, k = m + 1 := ⟨k - 1, by omega⟩
    rw [spec_DrawPlaces.l0, if_neg (by omega)]
    exact ⟨r, rfl, by omega, hr⟩
  | succ d ih =>
    intro k r i c h hi hk hc hl hr
    obtain ⟨k, rfl⟩ : ∃ m, k = m + 1 := ⟨k - 1, by omega⟩
    obtain ⟨v, c', h', e, a, b, hc'⟩ := below_some s hs c h 10000 hc (by omega)
    rw [spec_DrawPlaces.l0, if_pos (by omega), e]
    simp only [Option.bind_some]
    rw [if_pos (by omega), wrap_cast i (by omega)]
    refine ih k _ (i + 1) c' h' (by omega) (by omega) hc' (by simp; omega) ?_
    intro x hx
    rcases List.mem_append.1 hx with hx | hx
    · exact hr x hx
    · rw [List.mem_singleton.1 hx]; exact ⟨a, b⟩
theorem places_some (x : List Int) (hx : x.length ≤ 1048576) (k : Nat) (hk : x.length < k) (h12 : 12 < k) : ∃ q, spec_DrawPlaces.f k x = some q ∧ q.length = 12 ∧ ∀ y ∈ q, 0 ≤ y ∧ y < 10000 := by
  obtain ⟨h, e⟩ := new_some x hx k hk
  unfold spec_DrawPlaces.f
  rw [e]
  simp only [Option.bind_some]
  exact places_l0 x hx 12 k [] 0 0 h (by omega) h12 (by omega) rfl (by simp)
theorem rd_range {q : List Int} (hl : q.length = 12) (hq : ∀ y ∈ q, 0 ≤ y ∧ y < 10000) (i : Nat) (hi : i < 12) : 0 ≤ rd q (i : Int) ∧ rd q (i : Int) < 10000 := hq _ (rd_mem q i (by omega))
def inB (a b c : Int) : Bool := if a ≥ b then decide (a ≤ c) else false
theorem in_eq (a b c : Int) : spec_l01In.f a b c = some (inB a b c) := by unfold spec_l01In.f inB; split <;> rfl
theorem within_eq (a b c : Int) : impl_within.f a b c = some (inB a b c) := in_eq a b c
theorem inB_iff (a b c : Int) : inB a b c = true ↔ b ≤ a ∧ a ≤ c := by unfold inB; split <;> simp <;> omega
def rowB (w r : Int) : Bool := inB r 0 (wrap64 (shl .i64 1 w - 1))
def gB (g : S32) : Bool := inB g.f0 0 999 && (inB g.f1 1 8 && (inB g.f2.length 1 8 && g.f2.all (rowB g.f1)))
theorem specGlyph_l0 (a w : Int) (x : List Int) (hx : x.length ≤ 1048576) (hw : 0 ≤ w) (d : Nat) : ∀ (k : Nat) (i : Nat), i + d = x.length → d < k → spec_GlyphOk.l0 k i a w x = some ((x.drop i).all (rowB w)) := by
  induction d with
  | zero =>
    intro k i hi hk
    obtain ⟨k, rfl⟩ : ∃ m, k = m + 1 := ⟨k - 1, by omega⟩
    rw [spec_GlyphOk.l0, if_neg (by omega), List.drop_of_length_le (by omega)]; rfl
  | succ d ih =>
    intro k i hi hk
    obtain ⟨k, rfl⟩ : ∃ m, k = m + 1 := ⟨k - 1, by omega⟩
    rw [spec_GlyphOk.l0, if_pos (by omega), if_pos (by omega), if_pos hw, in_eq, drop_rd x i (by omega)]
    simp only [Option.bind_some, List.all_cons, rowB]
    cases hf : inB (rd x i) 0 (wrap64 (shl .i64 1 w - 1)) with
    | false => simp
    | true => rw [if_pos rfl, wrap_cast i (by omega), ih k (i + 1) (by omega) (by omega)]; simp [rowB]
theorem implGlyph_l0 (a w : Int) (x : List Int) (hx : x.length ≤ 1048576) (hw : 0 ≤ w) (d : Nat) : ∀ (k : Nat) (i : Nat), i + d = x.length → d < k → impl_GlyphOk.l0 k x x.length i a w x = some ((x.drop i).all (rowB w)) := by
  induction d with
  | zero =>
    intro k i hi hk
    obtain ⟨k, rfl⟩ : ∃ m, k = m + 1 := ⟨k - 1, by omega⟩
    rw [impl_GlyphOk.l0, if_neg (by omega), List.drop_of_length_le (by omega)]; rfl
  | succ d ih =>
    intro k i hi hk
    obtain ⟨k, rfl⟩ : ∃ m, k = m + 1 := ⟨k - 1, by omega⟩
    rw [impl_GlyphOk.l0, if_pos (by omega), if_pos (by omega), if_pos (by omega), if_pos hw, within_eq, drop_rd x i (by omega)]
    simp only [Option.bind_some, List.all_cons, rowB]
    cases hf : inB (rd x i) 0 (wrap64 (shl .i64 1 w - 1)) with
    | false => simp
    | true => rw [if_pos rfl, wrap_cast i (by omega), ih k (i + 1) (by omega) (by omega)]; simp [rowB]
theorem specGlyph_eq (g : S32) (k : Nat) (hk : 10 < k) : spec_GlyphOk.f k g.f0 g.f1 g.f2 = some (gB g) := by
  obtain ⟨k, rfl⟩ : ∃ m, k = m + 1 := ⟨k - 1, by omega⟩
  unfold spec_GlyphOk.f gB
  simp only [in_eq, Option.bind_some, spec_GlyphOk.j0]
  cases inB g.f0 0 999 with
  | false => simp
  | true =>
    cases h1 : inB g.f1 1 8 with
    | false => simp
    | true =>
      cases h2 : inB (g.f2.length : Int) 1 8 with
      | false => simp
      | true =>
        rw [inB_iff] at h1 h2
        have := specGlyph_l0 g.f0 g.f1 g.f2 (by omega) (by omega) g.f2.length k 0 (by omega) (by omega)
        simpa using this
theorem implGlyph_eq (g : S32) (k : Nat) (hk : 10 < k) : impl_GlyphOk.f k g.f0 g.f1 g.f2 = some (gB g) := by
  obtain ⟨k, rfl⟩ : ∃ m, k = m + 1 := ⟨k - 1, by omega⟩
  unfold impl_GlyphOk.f gB
  simp only [within_eq, Option.bind_some, impl_GlyphOk.j0]
  cases inB g.f0 0 999 with
  | false => simp
  | true =>
    cases h1 : inB g.f1 1 8 with
    | false => simp
    | true =>
      cases h2 : inB (g.f2.length : Int) 1 8 with
      | false => simp
      | true =>
        rw [inB_iff] at h1 h2
        have := implGlyph_l0 g.f0 g.f1 g.f2 (by omega) (by omega) g.f2.length k 0 (by omega) (by omega)
        simpa using this
def rowsN : List S32 → Int
  | [] => 0
  | g :: r => g.f2.length + rowsN r
theorem rowsN_nonneg (x : List S32) : 0 ≤ rowsN x := by
  induction x with
  | nil => simp [rowsN]
  | cons g r ih => simp only [rowsN]; omega
theorem rowsN_drop (x : List S32) (i : Nat) (h : i < x.length) : rowsN (x.drop i) = (x.getD i z32).f2.length + rowsN (x.drop (i + 1)) := by rw [getD_drop x z32 i h]; rfl
def sameId (x : List S32) (i : Nat) (g : S32) : Bool := decide (g.f0 = (x.getD i z32).f0)
/-- From place i on: every glyph valid, and none with an id that stands before it. -/
def cacheL (x : List S32) : Nat → Nat → Bool
  | 0, _ => true
  | d + 1, i => gB (x.getD i z32) && (!(x.take i).any (sameId x i) && cacheL x d (i + 1))
def cacheT (x : List S32) (b c : Int) : Bool := decide (rowsN x ≤ 20) && (inB b 0 100000 && inB c 0 100000)
def cacheB (x : List S32) (b c : Int) : Bool := cacheL x x.length 0 && cacheT x b c
theorem specSize_l0 (x : List S32) (b c : Int) (hx : x.length ≤ 1048576) (d : Nat) : ∀ (k : Nat) (i : Nat) (a : Int), i + d = x.length → d < k → 0 ≤ a → a + rowsN (x.drop i) ≤ 1048576 → spec_CacheSize.l0 k a i x b c = some (a + rowsN (x.drop i)) := by
  induction d with
  | zero =>
    intro k i a hi hk h0 h1
    obtain ⟨k, rfl⟩ : ∃ m, k = m + 1 := ⟨k - 1, by omega⟩
    rw [spec_CacheSize.l0, if_neg (by omega), List.drop_of_length_le (by omega)]; simp [rowsN]
  | succ d ih =>
    intro k i a hi hk h0 h1
    obtain ⟨k, rfl⟩ : ∃ m, k = m + 1 := ⟨k - 1, by omega⟩
    have e : rd_T32 x i = x.getD i z32 := by simp [rd_T32]
    have hd := rowsN_drop x i (by omega)
    have hn := rowsN_nonneg (x.drop (i + 1))
    rw [spec_CacheSize.l0, if_pos (by omega), if_pos (by omega), e, wrap_id (by omega) (by omega), wrap_cast i (by omega), ih k (i + 1) _ (by omega) (by omega) (by omega) (by omega)]
    congr 1; omega
theorem implSize_l0 (x : List S32) (hx : x.length ≤ 1048576) (d : Nat) : ∀ (k : Nat) (i : Nat) (a : Int), i + d = x.length → d < k → 0 ≤ a → a + rowsN (x.drop i) ≤ 1048576 → impl_CacheSize.l0 k a x x.length i = some (a + rowsN (x.drop i)) := by
  induction d with
  | zero =>
    intro k i a hi hk h0 h1
    obtain ⟨k, rfl⟩ : ∃ m, k = m + 1 := ⟨k - 1, by omega⟩
    rw [impl_CacheSize.l0, if_neg (by omega), List.drop_of_length_le (by omega)]; simp [rowsN]
  | succ d ih =>
    intro k i a hi hk h0 h1
    obtain ⟨k, rfl⟩ : ∃ m, k = m + 1 := ⟨k - 1, by omega⟩
    have e : rd_T32 x i = x.getD i z32 := by simp [rd_T32]
    have hd := rowsN_drop x i (by omega)
    have hn := rowsN_nonneg (x.drop (i + 1))
    rw [impl_CacheSize.l0, if_pos (by omega), if_pos (by omega), if_pos (by omega), e, wrap_id (by omega) (by omega), wrap_cast i (by omega), ih k (i + 1) _ (by omega) (by omega) (by omega) (by omega)]
    congr 1; omega
theorem specSize_eq (x : List S32) (b c : Int) (hx : x.length ≤ 1048576) (hr : rowsN x ≤ 1048576) (k : Nat) (hk : x.length < k) : spec_CacheSize.f k x b c = some (rowsN x) := by
  have := specSize_l0 x b c hx x.length k 0 0 (by omega) hk (by omega) (by simpa using hr)
  simpa [spec_CacheSize.f] using this
theorem implSize_eq (x : List S32) (b c : Int) (hx : x.length ≤ 1048576) (hr : rowsN x ≤ 1048576) (k : Nat) (hk : x.length < k) : impl_CacheSize.f k x b c = some (rowsN x) := by
  have := implSize_l0 x hx x.length k 0 0 (by omega) hk (by omega) (by simpa using hr)
  simpa [impl_CacheSize.f] using this
theorem implHolds_l0 (x : List S32) (hx : x.length ≤ 1048576) (id : Int) (d : Nat) : ∀ (k : Nat) (i : Nat), i + d = x.length → d < k → ∃ r, impl_glyphAt.l0 k id false x x.length i = some r ∧ decide (r ≥ 0) = (x.drop i).any (fun g => decide (g.f0 = id)) := by
  induction d with
  | zero =>
    intro k i hi hk
    obtain ⟨k, rfl⟩ : ∃ m, k = m + 1 := ⟨k - 1, by omega⟩
    rw [impl_glyphAt.l0, if_neg (by omega), List.drop_of_length_le (by omega)]
    exact ⟨-1, rfl, rfl⟩
  | succ d ih =>
    intro k i hi hk
    obtain ⟨k, rfl⟩ : ∃ m, k = m + 1 := ⟨k - 1, by omega⟩
    have e : rd_T32 x i = x.getD i z32 := by simp [rd_T32]
    rw [impl_glyphAt.l0, if_pos (by omega), if_pos (by omega), if_pos (by omega), e, getD_drop x z32 i (by omega)]
    simp only [List.any_cons, Bool.false_eq_true, if_false]
    by_cases h : (x.getD i z32).f0 = id
    · rw [if_pos h]; refine ⟨i, rfl, ?_⟩; rw [decide_eq_true h, Bool.true_or]; exact decide_eq_true (by omega)
    · rw [if_neg h, wrap_cast i (by omega)]
      obtain ⟨r, e1, e2⟩ := ih k (i + 1) (by omega) (by omega)
      refine ⟨r, e1, ?_⟩; rw [decide_eq_false h, Bool.false_or]; exact e2
theorem implHolds_eq (x : List S32) (b c id : Int) (hx : x.length ≤ 1048576) (k : Nat) (hk : x.length < k) : impl_HoldsGlyph.f k x b c id = some (x.any (fun g => decide (g.f0 = id))) := by
  obtain ⟨r, e1, e2⟩ := implHolds_l0 x hx id x.length k 0 (by omega) hk
  have e1' : impl_glyphAt.l0 k id false x x.length 0 = some r := e1
  rw [impl_HoldsGlyph.f, impl_glyphAt.f, e1']
  simp only [Option.bind_some]
  rw [e2]; rfl
theorem specCache_l0 (x : List S32) (b c : Int) (hx : x.length ≤ 1048576) (hr : rowsN x ≤ 1048576) (d : Nat) : ∀ (k : Nat) (i : Nat), i + d = x.length → (d + 1) * (x.length + 15) < k → spec_CacheOk.l0 k i x b c = some (cacheL x d i && cacheT x b c) := by
  induction d with
  | zero =>
    intro k i hi hk
    obtain ⟨k, rfl⟩ : ∃ m, k = m + 1 := ⟨k - 1, by omega⟩
    rw [spec_CacheOk.l0, if_neg (by omega), specSize_eq x b c hx hr k (by omega)]
    simp only [Option.bind_some, in_eq, cacheL, cacheT, Bool.true_and]
    by_cases h : rowsN x ≤ 20
    · rw [if_pos h]; cases inB b 0 100000 <;> simp [h]
    · rw [if_neg h]; simp [h]
  | succ d ih =>
    intro k i hi hk
    obtain ⟨k, rfl⟩ : ∃ m, k = m + 1 := ⟨k - 1, by omega⟩
    have e : rd_T32 x i = x.getD i z32 := by simp [rd_T32]
    have hk' : (d + 1) * (x.length + 15) + (x.length + 15) < k + 1 := by rw [← Nat.succ_mul]; exact hk
    have ih' := fun k i h1 h2 => ih k i h1 h2
    clear ih
    generalize (d + 1) * (x.length + 15) = F at hk' ih'
    clear hk
    have inner : ∀ (q k' j : Nat), j + q = i → q + F + 1 < k' → spec_CacheOk.l1 k' i j x b c = some (!((x.take i).drop j).any (sameId x i) && (cacheL x d (i + 1) && cacheT x b c)) := by
      intro q
      induction q with
      | zero =>
        intro k' j hj hk2
        obtain ⟨k', rfl⟩ : ∃ m, k' = m + 1 := ⟨k' - 1, by omega⟩
        rw [spec_CacheOk.l1, if_neg (by omega), wrap_cast i (by omega), ih' k' (i + 1) (by omega) (by omega), List.drop_of_length_le (by simp; omega)]
        simp
      | succ q ihq =>
        intro k' j hj hk2
        obtain ⟨k', rfl⟩ : ∃ m, k' = m + 1 := ⟨k' - 1, by omega⟩
        have ej : rd_T32 x j = x.getD j z32 := by simp [rd_T32]
        have et : (x.take i).getD j z32 = x.getD j z32 := by rw [List.getD_eq_getElem?_getD, List.getD_eq_getElem?_getD, List.getElem?_take, if_pos (by omega)]
        rw [spec_CacheOk.l1, if_pos (by omega), if_pos (by omega), if_pos (by omega), if_pos (by omega), if_pos (by omega), e, ej, getD_drop (x.take i) z32 j (by simp; omega), et]
        rw [List.any_cons]
        by_cases h : (x.getD j z32).f0 = (x.getD i z32).f0
        · rw [if_pos h, show sameId x i (x.getD j z32) = true from decide_eq_true h]; rfl
        · rw [if_neg h, wrap_cast j (by omega), ihq k' (j + 1) (by omega) (by omega), show sameId x i (x.getD j z32) = false from decide_eq_false h, Bool.false_or]
    rw [spec_CacheOk.l0, if_pos (by omega), if_pos (by omega), e, specGlyph_eq _ k (by omega)]
    simp only [Option.bind_some, cacheL]
    cases gB (x.getD i z32) with
    | false => simp
    | true =>
      have := inner i k 0 (by omega) (by omega)
      simp only [if_true, Bool.true_and]
      rw [show ((0 : Nat) : Int) = 0 from rfl] at this
      rw [this, List.drop_zero, Bool.and_assoc]
theorem specCache_eq (x : List S32) (b c : Int) (hx : x.length ≤ 1048576) (hr : rowsN x ≤ 1048576) (k : Nat) (hk : (x.length + 1) * (x.length + 15) < k) : spec_CacheOk.f k x b c = some (cacheB x b c) := specCache_l0 x b c hx hr x.length k 0 (by omega) hk
theorem implCache_l0 (x : List S32) (b c : Int) (hx : x.length ≤ 1048576) (hr : rowsN x ≤ 1048576) (d : Nat) : ∀ (k : Nat) (i : Nat), i + d = x.length → d + x.length + 15 < k → impl_CacheOk.l0 k x x.length i x b c = some (cacheL x d i && cacheT x b c) := by
  induction d with
  | zero =>
    intro k i hi hk
    obtain ⟨k, rfl⟩ : ∃ m, k = m + 1 := ⟨k - 1, by omega⟩
    rw [impl_CacheOk.l0, if_neg (by omega), implSize_eq x b c hx hr k (by omega)]
    simp only [Option.bind_some, within_eq, cacheL, cacheT, Bool.true_and]
    by_cases h : rowsN x ≤ 20
    · rw [if_pos h]; cases inB b 0 100000 <;> simp [h]
    · rw [if_neg h]; simp [h]
  | succ d ih =>
    intro k i hi hk
    obtain ⟨k, rfl⟩ : ∃ m, k = m + 1 := ⟨k - 1, by omega⟩
    have e : rd_T32 x i = x.getD i z32 := by simp [rd_T32]
    rw [impl_CacheOk.l0, if_pos (by omega), if_pos (by omega), if_pos (by omega), e, implGlyph_eq _ k (by omega)]
    simp only [Option.bind_some, cacheL]
    cases gB (x.getD i z32) with
    | false => simp
    | true =>
      rw [if_pos rfl, if_pos (by omega), Int.toNat_natCast, implHolds_eq _ 0 0 _ (by simp; omega) k (by simp; omega)]
      simp only [Option.bind_some, Bool.true_and]
      have es : (fun g : S32 => decide (g.f0 = (x.getD i z32).f0)) = sameId x i := rfl
      rw [es]
      cases (x.take i).any (sameId x i) with
      | true => simp
      | false =>
        rw [if_neg (by simp), wrap_cast i (by omega), ih k (i + 1) (by omega) (by omega)]
        simp
theorem implCache_eq (x : List S32) (b c : Int) (hx : x.length ≤ 1048576) (hr : rowsN x ≤ 1048576) (k : Nat) (hk : 2 * x.length + 15 < k) : impl_CacheOk.f k x b c = some (cacheB x b c) := implCache_l0 x b c hx hr x.length k 0 (by omega) (by omega)
/-- The place of the first glyph that passes a test, counted from i; -1 if there is none. -/
def findG (p : S32 → Bool) : List S32 → Int → Int
  | [], _ => -1
  | g :: r, i => if p g = true then i else findG p r (i + 1)
def isId (id : Int) (g : S32) : Bool := decide (g.f0 = id)
def isOk (id : Int) (g : S32) : Bool := decide (g.f0 = id) && gB g
theorem eta_T (g : S32) : (⟨g.f0, g.f1, g.f2⟩ : S32) = g := rfl
theorem implAt_l0 (x : List S32) (hx : x.length ≤ 1048576) (id : Int) (v : Bool) (d : Nat) : ∀ (k : Nat) (i : Nat), i + d = x.length → d + 12 < k → impl_glyphAt.l0 k id v x x.length i = some (findG (if v = true then isOk id else isId id) (x.drop i) i) := by
  induction d with
  | zero =>
    intro k i hi hk
    obtain ⟨k, rfl⟩ : ∃ m, k = m + 1 := ⟨k - 1, by omega⟩
    rw [impl_glyphAt.l0, if_neg (by omega), List.drop_of_length_le (by omega)]; rfl
  | succ d ih =>
    intro k i hi hk
    obtain ⟨k, rfl⟩ : ∃ m, k = m + 1 := ⟨k - 1, by omega⟩
    have e : rd_T32 x i = x.getD i z32 := by simp [rd_T32]
    have ih' := ih k (i + 1) (by omega) (by omega)
    have ec : ((i + 1 : Nat) : Int) = (i : Int) + 1 := by omega
    rw [ec] at ih'
    rw [impl_glyphAt.l0, if_pos (by omega), if_pos (by omega), if_pos (by omega), e, getD_drop x z32 i (by omega), findG]
    by_cases h : (x.getD i z32).f0 = id
    · rw [if_pos h]
      cases v with
      | true =>
        rw [if_pos rfl, implGlyph_eq _ k (by omega)]
        simp only [Option.bind_some, if_true]
        have hq : isOk id (x.getD i z32) = gB (x.getD i z32) := by unfold isOk; rw [decide_eq_true h, Bool.true_and]
        rw [hq]
        cases gB (x.getD i z32) with
        | true => simp
        | false => rw [if_neg (by simp), if_neg (by simp), wrap_cast i (by omega), ec]; exact ih'
      | false =>
        have hq : isId id (x.getD i z32) = true := decide_eq_true h
        simp only [Bool.false_eq_true, if_false]
        rw [if_pos hq]
    · rw [if_neg h, wrap_cast i (by omega), ec, ih']
      have h1 : isOk id (x.getD i z32) = false := by unfold isOk; rw [decide_eq_false h, Bool.false_and]
      have h2 : isId id (x.getD i z32) = false := decide_eq_false h
      cases v
      · simp only [Bool.false_eq_true, if_false]; rw [if_neg (by rw [h2]; decide)]
      · simp only [if_true]; rw [if_neg (by rw [h1]; decide)]
theorem implAt_eq (x : List S32) (hx : x.length ≤ 1048576) (id : Int) (v : Bool) (k : Nat) (hk : x.length + 12 < k) : impl_glyphAt.f k x id v = some (findG (if v = true then isOk id else isId id) x 0) := by
  have := implAt_l0 x hx id v x.length k 0 (by omega) hk
  simpa [impl_glyphAt.f] using this
theorem specFind_l0 (x : List S32) (hx : x.length ≤ 1048576) (id : Int) (d : Nat) : ∀ (k : Nat) (i : Nat), i + d = x.length → d + 12 < k → spec_l25Find.l0 k x id i = some (findG (isOk id) (x.drop i) i) := by
  induction d with
  | zero =>
    intro k i hi hk
    obtain ⟨k, rfl⟩ : ∃ m, k = m + 1 := ⟨k - 1, by omega⟩
    rw [spec_l25Find.l0, if_neg (by omega), List.drop_of_length_le (by omega)]; rfl
  | succ d ih =>
    intro k i hi hk
    obtain ⟨k, rfl⟩ : ∃ m, k = m + 1 := ⟨k - 1, by omega⟩
    have e : rd_T32 x i = x.getD i z32 := by simp [rd_T32]
    have ih' := ih k (i + 1) (by omega) (by omega)
    have ec : ((i + 1 : Nat) : Int) = (i : Int) + 1 := by omega
    rw [ec] at ih'
    rw [spec_l25Find.l0, if_pos (by omega), if_pos (by omega), e, getD_drop x z32 i (by omega), findG]
    by_cases h : (x.getD i z32).f0 = id
    · rw [if_pos h, specGlyph_eq _ k (by omega)]
      simp only [Option.bind_some]
      have hq : isOk id (x.getD i z32) = gB (x.getD i z32) := by unfold isOk; rw [decide_eq_true h, Bool.true_and]
      rw [hq]
      cases gB (x.getD i z32) with
      | true => simp
      | false => rw [if_neg (by simp), if_neg (by simp), wrap_cast i (by omega), ec]; exact ih'
    · rw [if_neg h, wrap_cast i (by omega), ec, ih']
      have h1 : isOk id (x.getD i z32) = false := by unfold isOk; rw [decide_eq_false h, Bool.false_and]
      rw [if_neg (by rw [h1]; decide)]
theorem specFind_eq (x : List S32) (hx : x.length ≤ 1048576) (id : Int) (k : Nat) (hk : x.length + 12 < k) : spec_l25Find.f k x id = some (findG (isOk id) x 0) := by
  have := specFind_l0 x hx id x.length k 0 (by omega) hk
  simpa [spec_l25Find.f] using this
theorem implCopyGlyph_eq (g : S32) (h : g.f2.length ≤ 1048576) : impl_copyGlyph.f g.f0 g.f1 g.f2 = some (g.f0, g.f1, g.f2) := by
  simp [impl_copyGlyph.f, slices_Clone_int_int.f, show g.f2.length < 17592186044416 by omega]
theorem specCopyGlyph_eq (g : S32) (h : g.f2.length ≤ 1048576) : spec_l25Glyph.f g.f0 g.f1 g.f2 = some (g.f0, g.f1, g.f2) := by
  simp [spec_l25Glyph.f, spec_l05Copy.f, show g.f2.length < 17592186044416 by omega]
theorem implCopy_l0 (x : List S32) (b c : Int) (hx : x.length ≤ 1048576) (hr : ∀ g ∈ x, g.f2.length ≤ 1048576) (d : Nat) : ∀ (k : Nat) (i : Nat), i + d = x.length → d < k → impl_copyCache.l0 k x x.length i (x.take i) b c = some (x, b, c) := by
  induction d with
  | zero =>
    intro k i hi hk
    obtain ⟨k, rfl⟩ : ∃ m, k = m + 1 := ⟨k - 1, by omega⟩
    rw [impl_copyCache.l0, if_neg (by omega), List.take_of_length_le (by omega)]
  | succ d ih =>
    intro k i hi hk
    obtain ⟨k, rfl⟩ : ∃ m, k = m + 1 := ⟨k - 1, by omega⟩
    have e : rd_T32 x i = x.getD i z32 := by simp [rd_T32]
    have hg : x.getD i z32 ∈ x := by rw [List.getD_eq_getElem?_getD, List.getElem?_eq_getElem (by omega)]; exact List.getElem_mem _
    have ih' := ih k (i + 1) (by omega) (by omega)
    rw [impl_copyCache.l0, if_pos (by omega), if_pos (by omega), if_pos (by omega), e, implCopyGlyph_eq _ (hr _ hg)]
    simp only [Option.bind_some, eta_T]
    rw [if_pos (by rw [List.length_take]; omega), wrap_cast i (by omega)]
    have et : x.take i ++ [x.getD i z32] = x.take (i + 1) := by
      rw [List.take_add_one, List.getD_eq_getElem?_getD, List.getElem?_eq_getElem (by omega)]; rfl
    rw [et]; exact ih'
theorem implCopy_eq (x : List S32) (b c : Int) (hx : x.length ≤ 1048576) (hr : ∀ g ∈ x, g.f2.length ≤ 1048576) (k : Nat) (hk : x.length < k) : impl_copyCache.f k x b c = some (x, b, c) := by
  have := implCopy_l0 x b c hx hr x.length k 0 (by omega) hk
  simpa [impl_copyCache.f] using this
theorem specCopy_l0 (x : List S32) (b c : Int) (hx : x.length ≤ 1048576) (hr : ∀ g ∈ x, g.f2.length ≤ 1048576) (d : Nat) : ∀ (k : Nat) (i : Nat), i + d = x.length → d < k → spec_l25Copy.l0 k i x b c (x.take i) b c = some (x, b, c) := by
  induction d with
  | zero =>
    intro k i hi hk
    obtain ⟨k, rfl⟩ : ∃ m, k = m + 1 := ⟨k - 1, by omega⟩
    rw [spec_l25Copy.l0, if_neg (by omega), List.take_of_length_le (by omega)]
  | succ d ih =>
    intro k i hi hk
    obtain ⟨k, rfl⟩ : ∃ m, k = m + 1 := ⟨k - 1, by omega⟩
    have e : rd_T32 x i = x.getD i z32 := by simp [rd_T32]
    have hg : x.getD i z32 ∈ x := by rw [List.getD_eq_getElem?_getD, List.getElem?_eq_getElem (by omega)]; exact List.getElem_mem _
    have ih' := ih k (i + 1) (by omega) (by omega)
    rw [spec_l25Copy.l0, if_pos (by omega), if_pos (by omega), e, specCopyGlyph_eq _ (hr _ hg)]
    simp only [Option.bind_some, eta_T]
    rw [if_pos (by rw [List.length_take]; omega), wrap_cast i (by omega)]
    have et : x.take i ++ [x.getD i z32] = x.take (i + 1) := by
      rw [List.take_add_one, List.getD_eq_getElem?_getD, List.getElem?_eq_getElem (by omega)]; rfl
    rw [et]; exact ih'
theorem specCopy_eq (x : List S32) (b c : Int) (hx : x.length ≤ 1048576) (hr : ∀ g ∈ x, g.f2.length ≤ 1048576) (k : Nat) (hk : x.length < k) : spec_l25Copy.f k x b c = some (x, b, c) := by
  have := specCopy_l0 x b c hx hr x.length k 0 (by omega) hk
  simpa [spec_l25Copy.f] using this
theorem rowsN_sub {y x : List S32} (h : y.Sublist x) : rowsN y ≤ rowsN x := by
  induction h with
  | slnil => exact Int.le_refl _
  | cons a _ ih => simp only [rowsN]; omega
  | cons_cons a _ ih => simp only [rowsN]; omega
theorem findG_le (p : S32 → Bool) (x : List S32) : ∀ i : Int, 0 ≤ i → findG p x i < 0 ∨ (i ≤ findG p x i ∧ findG p x i < i + x.length) := by
  induction x with
  | nil => intro i hi; left; show (-1 : Int) < 0; omega
  | cons g r ih =>
    intro i hi
    rw [findG]
    by_cases h : p g = true
    · rw [if_pos h, List.length_cons]; right; omega
    · rw [if_neg h, List.length_cons]
      rcases ih (i + 1) (by omega) with h1 | h1
      · exact .inl h1
      · right; omega
theorem findG_same (p q : S32 → Bool) (x : List S32) (h : ∀ g ∈ x, p g = q g) : ∀ i : Int, findG p x i = findG q x i := by
  induction x with
  | nil => intro i; rfl
  | cons g r ih =>
    intro i
    rw [findG, findG, h g (List.mem_cons_self ..), ih (fun g hg => h g (List.mem_cons_of_mem _ hg))]
theorem cacheL_all (x : List S32) (d : Nat) : ∀ i : Nat, i + d = x.length → cacheL x d i = true → ∀ g ∈ x.drop i, gB g = true := by
  induction d with
  | zero => intro i hi _ g hg; rw [List.drop_of_length_le (by omega)] at hg; simp at hg
  | succ d ih =>
    intro i hi h g hg
    rw [cacheL, Bool.and_eq_true, Bool.and_eq_true] at h
    rw [getD_drop x z32 i (by omega)] at hg
    rcases List.mem_cons.1 hg with rfl | hg
    · exact h.1
    · exact ih (i + 1) (by omega) h.2.2 g hg
theorem rowsN_mem (x : List S32) (g : S32) (h : g ∈ x) : (g.f2.length : Int) ≤ rowsN x := by
  induction x with
  | nil => simp at h
  | cons g' r ih =>
    have := rowsN_nonneg r
    simp only [rowsN]
    rcases List.mem_cons.1 h with rfl | h
    · omega
    · have := ih h; omega
theorem rowsN_erase (x : List S32) : ∀ n : Nat, n < x.length → rowsN (x.getD n z32 :: x.eraseIdx n) = rowsN x := by
  induction x with
  | nil => intro n h; simp at h
  | cons g r ih =>
    intro n h
    cases n with
    | zero => rfl
    | succ n =>
      have := ih n (by simpa using h)
      simp only [rowsN, List.getD_cons_succ, List.eraseIdx_cons_succ] at this ⊢
      omega
/-- The last glyphs go until the rows have room. -/
def trimR : Nat → List S32 → List S32
  | 0, x => x
  | d + 1, x => if rowsN x > 20 then trimR d (x.take (x.length - 1)) else x
theorem trimR_sub (d : Nat) : ∀ x : List S32, (trimR d x).Sublist x := by
  induction d with
  | zero => intro x; exact List.Sublist.refl _
  | succ d ih =>
    intro x
    rw [trimR]
    split
    · exact (ih _).trans (List.take_sublist _ _)
    · exact List.Sublist.refl _
theorem implTrim (g : S32) (hg : g.f2.length ≤ 1048576) (h m : Int) (d : Nat) : ∀ (k : Nat) (x : List S32), x.length = d → d ≤ 1048576 → rowsN x ≤ 1048576 → 2 * d + 2 < k → impl_FetchGlyph.l0 k x h m g.f0 g.f1 g.f2 = some (trimR d x, h, m, g.f0, g.f1, g.f2, true) := by
  induction d with
  | zero =>
    intro k x hx _ hn hk
    obtain ⟨k, rfl⟩ : ∃ q, k = q + 1 := ⟨k - 1, by omega⟩
    have : rowsN x = 0 := by rw [List.length_eq_zero_iff.1 hx]; rfl
    rw [impl_FetchGlyph.l0, implSize_eq x h m (by omega) hn k (by omega)]
    simp only [Option.bind_some]
    rw [if_neg (by omega), implCopyGlyph_eq g hg]
    rfl
  | succ d ih =>
    intro k x hx hd hn hk
    obtain ⟨k, rfl⟩ : ∃ q, k = q + 1 := ⟨k - 1, by omega⟩
    rw [impl_FetchGlyph.l0, implSize_eq x h m (by omega) hn k (by omega), trimR]
    simp only [Option.bind_some]
    by_cases c : rowsN x > 20
    · have e : wrap64 ((x.length : Int) - 1) = (d : Int) := (wrap_id (by omega) (by omega)).trans (by omega)
      rw [if_pos c, if_pos c, e, if_pos (by omega), if_pos (by omega), Int.toNat_natCast, show x.length - 1 = d by omega]
      exact ih k (x.take d) (by rw [List.length_take]; omega) (by omega) (Int.le_trans (rowsN_sub (List.take_sublist _ _)) hn) (by omega)
    · rw [if_neg c, if_neg c, implCopyGlyph_eq g hg]
      rfl
theorem specTrim (y : List S32) (t : Int) (h0 : 0 ≤ t) (h1 : t < y.length) (g : S32) (e0 : rd_T32 y t = g) (hg : g.f2.length ≤ 1048576) (h m : Int) (d : Nat) : ∀ (k : Nat) (x : List S32), x.length = d → d ≤ 1048576 → rowsN x ≤ 1048576 → 2 * d + 2 < k → spec_FetchGlyph.l0 k y t x h m = some (trimR d x, h, m, g.f0, g.f1, g.f2, true) := by
  induction d with
  | zero =>
    intro k x hx _ hn hk
    obtain ⟨k, rfl⟩ : ∃ q, k = q + 1 := ⟨k - 1, by omega⟩
    have : rowsN x = 0 := by rw [List.length_eq_zero_iff.1 hx]; rfl
    rw [spec_FetchGlyph.l0, specSize_eq x h m (by omega) hn k (by omega)]
    simp only [Option.bind_some]
    rw [if_neg (by omega), if_pos h0, if_pos h1, e0, specCopyGlyph_eq g hg]
    rfl
  | succ d ih =>
    intro k x hx hd hn hk
    obtain ⟨k, rfl⟩ : ∃ q, k = q + 1 := ⟨k - 1, by omega⟩
    rw [spec_FetchGlyph.l0, specSize_eq x h m (by omega) hn k (by omega), trimR]
    simp only [Option.bind_some]
    by_cases c : rowsN x > 20
    · have e : wrap64 ((x.length : Int) - 1) = (d : Int) := (wrap_id (by omega) (by omega)).trans (by omega)
      rw [if_pos c, if_pos c, e, if_pos (by omega), if_pos (by omega), Int.toNat_natCast, show x.length - 1 = d by omega]
      exact ih k (x.take d) (by rw [List.length_take]; omega) (by omega) (Int.le_trans (rowsN_sub (List.take_sublist _ _)) hn) (by omega)
    · rw [if_neg c, if_neg c, if_pos h0, if_pos h1, e0, specCopyGlyph_eq g hg]
      rfl
theorem rd_row (y : List S32) (t : Int) (h0 : 0 ≤ t) (h1 : t < y.length) : rd_T32 y t ∈ y := by
  obtain ⟨n, rfl⟩ : ∃ n : Nat, t = n := ⟨t.toNat, by omega⟩
  have e : rd_T32 y n = y.getD n z32 := by simp [rd_T32]
  rw [e]
  exact getD_mem y z32 n (by omega)
theorem hit_spec (x y : List S32) (b c id : Int) (t : Int) (hx : x.length ≤ 1048576) (hr : ∀ g ∈ x, g.f2.length ≤ 1048576) (k : Nat) (hk : x.length + 12 < k) (ht : findG (isOk id) x 0 = t) (h0 : 0 ≤ t) (h1 : t < x.length) : spec_FetchGlyph.j0 (k + 1) id y false x b c x b c = some (rd_T32 x t :: x.eraseIdx t.toNat, wrap64 (b + 1), c, (rd_T32 x t).f0, (rd_T32 x t).f1, (rd_T32 x t).f2, true) := by
  have hg := hr _ (rd_row x t h0 h1)
  have hq1 : wrap64 (t + 1) = t + 1 := wrap_id (by omega) (by omega)
  have e1 : (t + 1).toNat = t.toNat + 1 := by omega
  rw [spec_FetchGlyph.j0, if_neg (by decide), specFind_eq x hx id k hk, ht]
  simp only [Option.bind_some, List.nil_append, List.length_nil, hq1, e1]
  rw [if_pos (show t ≥ 0 from h0), if_pos h0, if_pos h1, if_pos (by omega), if_pos (by rw [List.length_take]; omega), if_pos (by omega), if_pos (by omega), if_pos (by rw [List.length_take, List.length_drop]; omega), if_pos (by simp only [List.length_cons, List.length_nil, List.length_append, List.length_take, List.length_drop]; omega), specCopyGlyph_eq _ hg, List.eraseIdx_eq_take_drop_succ]
  rfl
theorem hit_impl (x y : List S32) (b c : Int) (t u : Int) (hx : x.length ≤ 1048576) (hn : rowsN x ≤ 20) (k : Nat) (hk : 2 * x.length + 2 < k) (h0 : 0 ≤ t) (h1 : t < x.length) : impl_FetchGlyph.j0 (k + 1) y t u false x b c = some (rd_T32 x t :: x.eraseIdx t.toNat, wrap64 (b + 1), c, (rd_T32 x t).f0, (rd_T32 x t).f1, (rd_T32 x t).f2, true) := by
  obtain ⟨n, rfl⟩ : ∃ n : Nat, t = n := ⟨t.toNat, by omega⟩
  have e : rd_T32 x n = x.getD n z32 := by simp [rd_T32]
  have hm := rowsN_mem x _ (rd_row x n h0 h1)
  have he := rowsN_erase x n (by omega)
  have hl : (rd_T32 x n :: x.eraseIdx n).length = x.length := by rw [List.length_cons, List.length_eraseIdx_of_lt (by omega)]; omega
  have hq1 : wrap64 ((n : Int) + 1) = n + 1 := wrap_id (by omega) (by omega)
  rw [← e] at he
  have ht := implTrim (rd_T32 x n) (by omega) (wrap64 (b + 1)) c x.length k (rd_T32 x n :: x.eraseIdx n) hl hx (by omega) hk
  have hz : trimR x.length (rd_T32 x n :: x.eraseIdx n) = rd_T32 x n :: x.eraseIdx n := by
    obtain ⟨d, hd⟩ : ∃ d, x.length = d + 1 := ⟨x.length - 1, by omega⟩
    rw [hd, trimR, if_neg (by omega)]
  rw [hz] at ht
  rw [impl_FetchGlyph.j0, if_neg (by decide), if_pos (show (n : Int) ≥ 0 from h0), if_pos h0, if_pos h1, if_pos (by omega), hq1, if_pos (by omega), if_pos (by omega), Int.toNat_natCast]
  simp only [Option.bind_some, eta_T, List.cons_append, List.nil_append]
  rw [if_pos (by simp only [List.length_cons, List.length_nil]; rw [List.length_eraseIdx_of_lt (by omega)]; omega)]
  exact ht
theorem refuse_spec (x y : List S32) (b c id : Int) (k : Nat) : spec_FetchGlyph.j0 (k + 1) id y true x b c x b c = some (x, b, c, 0, 0, [], false) := by
  rw [spec_FetchGlyph.j0, if_pos rfl]
theorem refuse_impl (x y : List S32) (b c t u : Int) (k : Nat) : impl_FetchGlyph.j0 (k + 1) y t u true x b c = some (x, b, c, 0, 0, [], false) := by
  rw [impl_FetchGlyph.j0, if_pos rfl]
theorem miss_spec (x y : List S32) (b c id : Int) (t u : Int) (hx : x.length + y.length ≤ 1048576) (hn : rowsN x + rowsN y ≤ 1048576) (k : Nat) (hk : 2 * x.length + 4 < k) (hk2 : x.length + y.length + 12 < k) (h0 : t < 0) (ht : findG (isOk id) x 0 = t) (hu : findG (isOk id) y 0 = u) (h1 : 0 ≤ u) (h2 : u < y.length) : spec_FetchGlyph.j0 (k + 1) id y false x b c x b c = some (trimR (x.length + 1) (rd_T32 y u :: x), b, wrap64 (c + 1), (rd_T32 y u).f0, (rd_T32 y u).f1, (rd_T32 y u).f2, true) := by
  have hm := rowsN_mem y _ (rd_row y u h1 h2)
  have hx0 := rowsN_nonneg x
  have hg : (rd_T32 y u).f2.length ≤ 1048576 := by omega
  have hR : rowsN (rd_T32 y u :: x) ≤ 1048576 := by rw [rowsN]; omega
  rw [spec_FetchGlyph.j0, if_neg (by decide), specFind_eq x (by omega) id k (by omega), ht]
  simp only [Option.bind_some]
  rw [if_neg (show ¬ t ≥ 0 by omega), specFind_eq y (by omega) id k (by omega), hu]
  simp only [Option.bind_some]
  rw [if_neg (by omega), if_pos h1, if_pos h2, specCopyGlyph_eq _ hg]
  simp only [Option.bind_some, eta_T, List.cons_append, List.nil_append]
  rw [if_pos (by simp only [List.length_cons, List.length_nil]; omega)]
  exact specTrim y u h1 h2 _ rfl hg b _ (x.length + 1) k _ (by rw [List.length_cons]) (by omega) hR (by omega)
theorem miss_impl (x y : List S32) (b c : Int) (t u : Int) (hx : x.length + y.length ≤ 1048576) (hn : rowsN x + rowsN y ≤ 1048576) (k : Nat) (hk : 2 * x.length + 4 < k) (h0 : t < 0) (h1 : 0 ≤ u) (h2 : u < y.length) : impl_FetchGlyph.j0 (k + 1) y t u false x b c = some (trimR (x.length + 1) (rd_T32 y u :: x), b, wrap64 (c + 1), (rd_T32 y u).f0, (rd_T32 y u).f1, (rd_T32 y u).f2, true) := by
  have hm := rowsN_mem y _ (rd_row y u h1 h2)
  have hx0 := rowsN_nonneg x
  have hg : (rd_T32 y u).f2.length ≤ 1048576 := by omega
  have hR : rowsN (rd_T32 y u :: x) ≤ 1048576 := by rw [rowsN]; omega
  rw [impl_FetchGlyph.j0, if_neg (by decide), if_neg (show ¬ t ≥ 0 by omega), if_pos h1, if_pos h2, implCopyGlyph_eq _ hg]
  simp only [Option.bind_some, eta_T, List.cons_append, List.nil_append]
  rw [if_pos (by simp only [List.length_cons, List.length_nil]; omega)]
  exact implTrim _ hg b _ (x.length + 1) k _ (by rw [List.length_cons]) (by omega) hR (by omega)
/-- A valid cache: every glyph valid, no id twice, room kept, counters in range. -/
def goodC (x : List S32) (b c : Int) : Prop := (∀ g ∈ x, gB g = true) ∧ x.Pairwise (fun g h => g.f0 ≠ h.f0) ∧ rowsN x ≤ 20 ∧ (0 ≤ b ∧ b ≤ 100000) ∧ 0 ≤ c ∧ c ≤ 100000
theorem cacheL_good (x : List S32) (h1 : ∀ g ∈ x, gB g = true) (h2 : x.Pairwise (fun g h => g.f0 ≠ h.f0)) (d : Nat) : ∀ i : Nat, i + d = x.length → cacheL x d i = true := by
  induction d with
  | zero => intro i hi; rfl
  | succ d ih =>
    intro i hi
    rw [cacheL, Bool.and_eq_true, Bool.and_eq_true]
    refine ⟨h1 _ (getD_mem x z32 i (by omega)), ?_, ih (i + 1) (by omega)⟩
    rw [Bool.not_eq_true', List.any_eq_false]
    intro g hg
    obtain ⟨j, hj, rfl⟩ := List.mem_iff_getElem.1 hg
    rw [List.length_take] at hj
    rw [List.getElem_take]
    have := List.pairwise_iff_getElem.1 h2 j i (by omega) (by omega) (by omega)
    have e : x.getD i z32 = x[i]'(by omega) := by rw [List.getD_eq_getElem?_getD, List.getElem?_eq_getElem (by omega)]; rfl
    unfold sameId
    rw [e, decide_eq_true_eq]
    exact this
theorem cacheB_good (x : List S32) (b c : Int) (h : goodC x b c) : cacheB x b c = true := by
  unfold cacheB cacheT
  rw [Bool.and_eq_true, Bool.and_eq_true, Bool.and_eq_true]
  exact ⟨cacheL_good x h.1 h.2.1 x.length 0 (by omega), decide_eq_true h.2.2.1, (inB_iff _ _ _).2 h.2.2.2.1, (inB_iff _ _ _).2 h.2.2.2.2⟩
theorem gB_rows (g : S32) (h : gB g = true) : 1 ≤ g.f2.length ∧ g.f2.length ≤ 8 := by
  unfold gB at h
  rw [Bool.and_eq_true, Bool.and_eq_true, Bool.and_eq_true] at h
  have := (inB_iff _ _ _).1 h.2.2.1
  omega
theorem rowsN_len (x : List S32) (h : ∀ g ∈ x, gB g = true) : (x.length : Int) ≤ rowsN x := by
  induction x with
  | nil => exact Int.le_refl _
  | cons g r ih =>
    have h1 := gB_rows g (h g (List.mem_cons_self ..))
    have h2 := ih (fun g hg => h g (List.mem_cons_of_mem _ hg))
    rw [rowsN, List.length_cons]
    omega
theorem findG_cases (p : S32 → Bool) (x : List S32) : ∀ i : Int, (findG p x i = -1 ∧ ∀ g ∈ x, p g = false) ∨ ∃ n : Nat, findG p x i = i + n ∧ n < x.length ∧ p (x.getD n z32) = true := by
  induction x with
  | nil => intro i; exact .inl ⟨rfl, fun g hg => by simp at hg⟩
  | cons g r ih =>
    intro i
    rw [findG]
    by_cases h : p g = true
    · rw [if_pos h]
      exact .inr ⟨0, by omega, by simp, h⟩
    · rw [if_neg h]
      rcases ih (i + 1) with ⟨h1, h2⟩ | ⟨n, h1, h2, h3⟩
      · refine .inl ⟨h1, fun q hq => ?_⟩
        rcases List.mem_cons.1 hq with rfl | hq
        · exact Bool.eq_false_iff.2 h
        · exact h2 q hq
      · exact .inr ⟨n + 1, by omega, by simpa using h2, by simpa using h3⟩
theorem trimR_le (d : Nat) : ∀ x : List S32, x.length = d → rowsN (trimR d x) ≤ 20 := by
  induction d with
  | zero => intro x hx; rw [List.length_eq_zero_iff.1 hx]; show (0 : Int) ≤ 20; omega
  | succ d ih =>
    intro x hx
    rw [trimR]
    by_cases c : rowsN x > 20
    · rw [if_pos c]
      exact ih _ (by rw [List.length_take]; omega)
    · rw [if_neg c]; omega
theorem trimR_head (g : S32) (hg : g.f2.length ≤ 20) (d : Nat) : ∀ r : List S32, r.length = d → ∃ r', trimR (d + 1) (g :: r) = g :: r' := by
  induction d with
  | zero =>
    intro r hr
    rw [List.length_eq_zero_iff.1 hr, trimR, if_neg (by rw [rowsN, rowsN]; omega)]
    exact ⟨[], rfl⟩
  | succ d ih =>
    intro r hr
    rw [trimR]
    by_cases c : rowsN (g :: r) > 20
    · rw [if_pos c, List.length_cons, hr, Nat.add_sub_cancel, List.take_succ_cons]
      exact ih _ (by rw [List.length_take]; omega)
    · rw [if_neg c]
      exact ⟨r, rfl⟩
theorem hit_good (x : List S32) (b c : Int) (n : Nat) (hn : n < x.length) (hb : b < 100000) (h : goodC x b c) : goodC (x.getD n z32 :: x.eraseIdx n) (b + 1) c := by
  have e : x.getD n z32 = x[n] := by rw [List.getD_eq_getElem?_getD, List.getElem?_eq_getElem hn]; rfl
  have hp : (x.getD n z32 :: x.eraseIdx n).Perm x := by
    have q := (List.perm_middle (a := x[n]) (l₁ := x.take n) (l₂ := x.drop (n + 1))).symm
    rw [← List.drop_eq_getElem_cons hn, List.take_append_drop] at q
    rw [e, List.eraseIdx_eq_take_drop_succ]
    exact q
  refine ⟨fun g hg => h.1 g (hp.mem_iff.1 hg), (hp.pairwise_iff (fun h => Ne.symm h)).2 h.2.1, ?_, ⟨by have := h.2.2.2.1; omega, by omega⟩, h.2.2.2.2⟩
  rw [rowsN_erase x n hn]
  exact h.2.2.1
theorem miss_good (x : List S32) (b c id : Int) (g : S32) (hg : gB g = true) (hid : g.f0 = id) (hx : ∀ q ∈ x, isId id q = false) (hc : c < 100000) (h : goodC x b c) : goodC (trimR (x.length + 1) (g :: x)) b (c + 1) := by
  have hs := trimR_sub (x.length + 1) (g :: x)
  refine ⟨fun q hq => ?_, List.Pairwise.sublist hs (List.pairwise_cons.2 ⟨fun q hq => ?_, h.2.1⟩), trimR_le _ _ (by rw [List.length_cons]), h.2.2.2.1, by have := h.2.2.2.2; omega, by omega⟩
  · rcases List.mem_cons.1 (hs.subset hq) with rfl | hq
    · exact hg
    · exact h.1 q hq
  · have := hx q hq
    unfold isId at this
    have := of_decide_eq_false this
    omega
/-- What FetchGlyph, the reference's and the program's, answers for a valid cache below its counters' ends: what is held comes to the front; what is in the font alone comes from there; else nothing. -/
def fetchR (x y : List S32) (b c id : Int) : Option ((List (S32)) × Int × Int × Int × Int × List Int × Bool) :=
  if findG (isId id) x 0 < 0 then (if findG (isOk id) y 0 < 0 then some (x, b, c, 0, 0, [], false) else some (trimR (x.length + 1) (rd_T32 y (findG (isOk id) y 0) :: x), b, c + 1, (rd_T32 y (findG (isOk id) y 0)).f0, (rd_T32 y (findG (isOk id) y 0)).f1, (rd_T32 y (findG (isOk id) y 0)).f2, true))
  else some (rd_T32 x (findG (isId id) x 0) :: x.eraseIdx (findG (isId id) x 0).toNat, b + 1, c, (rd_T32 x (findG (isId id) x 0)).f0, (rd_T32 x (findG (isId id) x 0)).f1, (rd_T32 x (findG (isId id) x 0)).f2, true)
theorem fetch_good (x y : List S32) (b c id : Int) (hg : goodC x b c) (hb : b < 100000) (hc : c < 100000) (hy : y.length ≤ 100) (hyg : ∀ g ∈ y, gB g = true) (k : Nat) (hk : 2000 < k) : spec_FetchGlyph.f k x b c id y = fetchR x y b c id ∧ impl_FetchGlyph.f k x b c id y = fetchR x y b c id := by
  have hl := rowsN_len x hg.1
  have hx : x.length ≤ 20 := by have := hg.2.2.1; omega
  have hr : ∀ g ∈ x, g.f2.length ≤ 1048576 := fun g h => by have := gB_rows g (hg.1 g h); omega
  have hny : rowsN y ≤ 800 := by
    have : ∀ z : List S32, (∀ g ∈ z, gB g = true) → rowsN z ≤ 8 * z.length := by
      intro z
      induction z with
      | nil => intro _; exact Int.le_refl _
      | cons g r ih =>
        intro h
        have h1 := gB_rows g (h g (List.mem_cons_self ..))
        have h2 := ih (fun g hg => h g (List.mem_cons_of_mem _ hg))
        rw [rowsN, List.length_cons]
        omega
    have := this y hyg
    omega
  have hn := hg.2.2.1
  have hcb := cacheB_good x b c hg
  have hK : (x.length + 1) * (x.length + 15) ≤ 21 * 35 := Nat.mul_le_mul (by omega) (by omega)
  have e : findG (isOk id) x 0 = findG (isId id) x 0 := findG_same _ _ x (fun g h => by unfold isOk isId; rw [hg.1 g h, Bool.and_true]) 0
  have hb1 := findG_le (isId id) x 0 (by omega)
  have hu1 := findG_le (isOk id) y 0 (by omega)
  have w1 : wrap64 (b + 1) = b + 1 := wrap_id (by have := hg.2.2.2.1; omega) (by omega)
  have w2 : wrap64 (c + 1) = c + 1 := wrap_id (by have := hg.2.2.2.2; omega) (by omega)
  obtain ⟨k, rfl⟩ : ∃ q, k = q + 1 := ⟨k - 1, by omega⟩
  rw [spec_FetchGlyph.f, impl_FetchGlyph.f, specCopy_eq x b c (by omega) hr _ (by omega), implCopy_eq x b c (by omega) hr _ (by omega), specCache_eq x b c (by omega) (by omega) _ (by omega), implCache_eq x b c (by omega) (by omega) _ (by omega), implAt_eq x (by omega) id false _ (by omega), implAt_eq y (by omega) id true _ (by omega)]
  simp only [Option.bind_some, Bool.false_eq_true, if_false, if_true]
  have h2 : (c == 100000) = false := by simp; omega
  rw [if_pos hcb, if_pos hcb, if_neg (show ¬ b = 100000 by omega), if_neg (show ¬ b = 100000 by omega), h2]
  unfold fetchR
  generalize ht : findG (isId id) x 0 = t at hb1 e
  generalize hu : findG (isOk id) y 0 = u at hu1
  by_cases h3 : t < 0
  · rw [if_pos h3, if_pos h3]
    by_cases h4 : u < 0
    · rw [if_pos h4, if_pos h4, refuse_impl]
      refine ⟨?_, rfl⟩
      rw [spec_FetchGlyph.j0, if_neg (by decide), specFind_eq x (by omega) id k (by omega), e]
      simp only [Option.bind_some]
      rw [if_neg (show ¬ t ≥ 0 by omega), specFind_eq y (by omega) id k (by omega), hu]
      simp only [Option.bind_some]
      rw [if_pos h4]
    · rw [if_neg h4, if_neg h4, miss_spec x y b c id t u (by omega) (by omega) k (by omega) (by omega) h3 e hu (by omega) (by omega), miss_impl x y b c t u (by omega) (by omega) k (by omega) h3 (by omega) (by omega), w2]
      exact ⟨rfl, rfl⟩
  · rw [if_neg h3, if_neg h3, hit_spec x y b c id t (by omega) hr k (by omega) e (by omega) (by omega), hit_impl x y b c t u (by omega) hn k (by omega) (by omega) (by omega), w1]
    exact ⟨rfl, rfl⟩
theorem shl_w (w : Int) (h : 1 ≤ w ∧ w ≤ 6) : 0 < shl .i64 1 w ∧ wrap64 (shl .i64 1 w - 1) = shl .i64 1 w - 1 := by
  rcases (show w = 1 ∨ w = 2 ∨ w = 3 ∨ w = 4 ∨ w = 5 ∨ w = 6 by omega) with rfl | rfl | rfl | rfl | rfl | rfl <;> decide +kernel
theorem glyph_l0 (s : List Int) (hs : s.length ≤ 1048576) (a w : Int) (hw : 1 ≤ w ∧ w ≤ 6) (n : Nat) (hn : n ≤ 6) (d : Nat) : ∀ (k : Nat) (r : List Int) (j : Nat) (i h : Int), j + d = n → d < k → 0 ≤ i → r.length = j → (∀ v ∈ r, rowB w v = true) → ∃ r' i' h', spec_l24Glyph.l0 k n j s i h a w r = some (a, w, r', i', h') ∧ r'.length = n ∧ (∀ v ∈ r', rowB w v = true) ∧ 0 ≤ i' := by
  induction d with
  | zero =>
    intro k r j i h hj hk hi hl hr
    obtain ⟨k, rfl⟩ : ∃ m, k = m + 1 := ⟨k - 1, by omega⟩
    rw [spec_l24Glyph.l0, if_neg (by omega)]
    exact ⟨r, i, h, rfl, by omega, hr, hi⟩
  | succ d ih =>
    intro k r j i h hj hk hi hl hr
    obtain ⟨k, rfl⟩ : ∃ m, k = m + 1 := ⟨k - 1, by omega⟩
    have hsw := shl_w w hw
    obtain ⟨v, i1, h1, e1, v0, v1, hi1⟩ := below_some s hs i h (shl .i64 1 w) hi hsw.1
    rw [spec_l24Glyph.l0, if_pos (by omega), if_pos (by omega), e1]
    simp only [Option.bind_some]
    rw [if_pos (by omega), wrap_cast j (by omega)]
    refine ih k (r ++ [v]) (j + 1) i1 h1 (by omega) (by omega) hi1 (by simp [hl]) (fun q hq => ?_)
    rcases List.mem_append.1 hq with hq | hq
    · exact hr q hq
    · rw [List.mem_singleton.1 hq]
      unfold rowB
      rw [hsw.2]
      exact (inB_iff _ _ _).2 ⟨v0, by omega⟩
theorem glyph_some (s : List Int) (hs : s.length ≤ 1048576) (i h : Int) (hi : 0 ≤ i) (k : Nat) (hk : 8 < k) : ∃ a w r i' h', spec_l24Glyph.f k s i h = some (a, w, r, i', h') ∧ (1 ≤ w ∧ w ≤ 6) ∧ (1 ≤ r.length ∧ r.length ≤ 6) ∧ (∀ v ∈ r, rowB w v = true) ∧ 0 ≤ i' := by
  obtain ⟨a, i1, h1, e1, a0, a1, hi1⟩ := below_some s hs i h 6 hi (by omega)
  obtain ⟨w, i2, h2, e2, w0, w1, hi2⟩ := below_some s hs i1 h1 6 hi1 (by omega)
  obtain ⟨m, i3, h3, e3, m0, m1, hi3⟩ := below_some s hs i2 h2 6 hi2 (by omega)
  obtain ⟨n, hn⟩ : ∃ n : Nat, 1 + m = (n : Int) := ⟨(1 + m).toNat, by omega⟩
  obtain ⟨r, i4, h4, e4, hl, hr, hi4⟩ := glyph_l0 s hs a (1 + w) (by omega) n (by omega) n k [] 0 i3 h3 (by omega) (by omega) hi3 rfl (by simp)
  unfold spec_l24Glyph.f
  rw [e1]
  simp only [Option.bind_some]
  rw [e2]
  simp only [Option.bind_some]
  rw [e3]
  simp only [Option.bind_some]
  rw [wrap_id (x := 1 + m) (by omega) (by omega), wrap_id (x := 1 + w) (by omega) (by omega), hn]
  exact ⟨a, 1 + w, r, i4, h4, e4, by omega, by omega, hr, hi4⟩
theorem font_l0 (s : List Int) (hs : s.length ≤ 1048576) (d : Nat) : ∀ (k : Nat) (y : List S32) (j : Nat) (i h : Int), j + d = 8 → d + 8 < k → 0 ≤ i → y.length = j → (∀ n, n < j → (y.getD n z32).f0 = n) → (∀ g ∈ y, gB g = true) → ∃ y' i' h', spec_l25Font.l0 k y j s i h = some (y', i', h') ∧ y'.length = 8 ∧ (∀ n, n < 8 → (y'.getD n z32).f0 = (n : Int)) ∧ (∀ g ∈ y', gB g = true) ∧ 0 ≤ i' := by
  induction d with
  | zero =>
    intro k y j i h hj hk hi hl hid hg
    obtain ⟨k, rfl⟩ : ∃ m, k = m + 1 := ⟨k - 1, by omega⟩
    rw [spec_l25Font.l0, if_neg (by omega)]
    exact ⟨y, i, h, rfl, by omega, fun n hn => hid n (by omega), hg, hi⟩
  | succ d ih =>
    intro k y j i h hj hk hi hl hid hg
    obtain ⟨k, rfl⟩ : ∃ m, k = m + 1 := ⟨k - 1, by omega⟩
    obtain ⟨a, w, r, i1, h1, e1, hw, hrl, hr, hi1⟩ := glyph_some s hs i h hi k (by omega)
    rw [spec_l25Font.l0, if_pos (by omega), e1]
    simp only [Option.bind_some]
    rw [if_pos (by omega), wrap_cast j (by omega)]
    refine ih k (y ++ [⟨j, w, r⟩]) (j + 1) i1 h1 (by omega) (by omega) hi1 (by simp [hl]) (fun n hn => ?_) (fun g hq => ?_)
    · by_cases hnj : n < j
      · rw [← hid n hnj, List.getD_eq_getElem?_getD, List.getElem?_append_left (by omega), ← List.getD_eq_getElem?_getD]
      · have : n = y.length := by omega
        subst this
        simp [hl]
    · rcases List.mem_append.1 hq with hq | hq
      · exact hg g hq
      · rw [List.mem_singleton.1 hq]
        unfold gB
        rw [Bool.and_eq_true, Bool.and_eq_true, Bool.and_eq_true]
        exact ⟨(inB_iff _ _ _).2 (by show (0 : Int) ≤ (j : Int) ∧ (j : Int) ≤ 999; omega), (inB_iff _ _ _).2 (by show (1 : Int) ≤ w ∧ w ≤ 8; omega), (inB_iff _ _ _).2 (by show (1 : Int) ≤ (r.length : Int) ∧ (r.length : Int) ≤ 8; omega), List.all_eq_true.2 hr⟩
theorem fetchR_good (x y : List S32) (b c id : Int) (hg : goodC x b c) (hb : b < 100000) (hc : c < 100000) (hyg : ∀ g ∈ y, gB g = true) : ∃ z b' c' g0 g1 g2 fl, fetchR x y b c id = some (z, b', c', g0, g1, g2, fl) ∧ goodC z b' c' ∧ b' + c' ≤ b + c + 1 := by
  unfold fetchR
  rcases findG_cases (isId id) x 0 with ⟨h1, h2⟩ | ⟨n, h1, h2, h3⟩
  · rw [h1, if_pos (by omega)]
    rcases findG_cases (isOk id) y 0 with ⟨h4, h5⟩ | ⟨m, h4, h5, h6⟩
    · rw [h4, if_pos (by omega)]
      exact ⟨_, _, _, _, _, _, _, rfl, hg, by omega⟩
    · have e : rd_T32 y (0 + (m : Int)) = y.getD m z32 := by simp [rd_T32]
      have hid : (y.getD m z32).f0 = id := by
        unfold isOk at h6
        rw [Bool.and_eq_true] at h6
        exact of_decide_eq_true h6.1
      rw [h4, if_neg (by omega), e]
      exact ⟨_, _, _, _, _, _, _, rfl, miss_good x b c id _ (hyg _ (getD_mem y z32 m h5)) hid h2 hc hg, by omega⟩
  · have e : rd_T32 x (0 + (n : Int)) = x.getD n z32 := by simp [rd_T32]
    have e2 : (0 + (n : Int)).toNat = n := by omega
    rw [h1, if_neg (by omega), e, e2]
    exact ⟨_, _, _, _, _, _, _, rfl, hit_good x b c n h2 hb hg, by omega⟩
theorem cache_l0 (s : List Int) (hs : s.length ≤ 1048576) (y : List S32) (hy : y.length = 8) (hyg : ∀ g ∈ y, gB g = true) (n : Nat) (hn : n ≤ 12) (d : Nat) : ∀ (k : Nat) (x : List S32) (b c : Int) (j : Nat) (i h : Int), j + d = n → d + 2000 < k → 0 ≤ i → goodC x b c → b + c ≤ j → ∃ x' b' c' i' h', spec_l25Cache.l0 k y n j s i h x b c = some (x', b', c', i', h') ∧ goodC x' b' c' ∧ b' + c' ≤ 12 := by
  induction d with
  | zero =>
    intro k x b c j i h hj hk hi hg hbc
    obtain ⟨k, rfl⟩ : ∃ m, k = m + 1 := ⟨k - 1, by omega⟩
    rw [spec_l25Cache.l0, if_neg (by omega)]
    exact ⟨x, b, c, i, h, rfl, hg, by omega⟩
  | succ d ih =>
    intro k x b c j i h hj hk hi hg hbc
    obtain ⟨k, rfl⟩ : ∃ m, k = m + 1 := ⟨k - 1, by omega⟩
    obtain ⟨v, i1, h1, e1, v0, v1, hi1⟩ := below_some s hs i h 9 hi (by omega)
    have hb0 := hg.2.2.2.1
    have hc0 := hg.2.2.2.2
    obtain ⟨z, b', c', g0, g1, g2, fl, e2, hz, hbc'⟩ := fetchR_good x y b c v hg (by omega) (by omega) hyg
    rw [spec_l25Cache.l0, if_pos (by omega), e1]
    simp only [Option.bind_some]
    rw [(fetch_good x y b c v hg (by omega) (by omega) (by omega) hyg k (by omega)).1, e2]
    simp only [Option.bind_some]
    rw [wrap_cast j (by omega)]
    exact ih k z b' c' (j + 1) i1 h1 (by omega) (by omega) hi1 hz (by omega)
theorem drawFont_some (x : List Int) (hx : x.length ≤ 1048576) (k : Nat) (hk : x.length < k) (hk2 : 3000 < k) : ∃ y z b c, spec_DrawFont.f k x = some (y, z, b, c) ∧ y.length = 8 ∧ (∀ n, n < 8 → (y.getD n z32).f0 = (n : Int)) ∧ (∀ g ∈ y, gB g = true) ∧ goodC z b c ∧ b + c ≤ 12 := by
  obtain ⟨h, e0⟩ := new_some x hx k hk
  obtain ⟨y, i1, h1, e1, hy, hid, hyg, hi1⟩ := font_l0 x hx 8 k [] 0 0 h (by omega) (by omega) (by omega) rfl (fun n hn => by omega) (by simp)
  obtain ⟨v, i2, h2, e2, v0, v1, hi2⟩ := below_some x hx i1 h1 12 hi1 (by omega)
  obtain ⟨n, rfl⟩ : ∃ n : Nat, v = n := ⟨v.toNat, by omega⟩
  obtain ⟨z, b, c, i3, h3, e3, hz, hbc⟩ := cache_l0 x hx y hy hyg n (by omega) n k [] 0 0 0 i2 h2 (by omega) (by omega) hi2 ⟨by simp, List.Pairwise.nil, by show (0 : Int) ≤ 20; omega, by omega, by omega⟩ (by omega)
  have e1' : spec_l25Font.f k x 0 h = some (y, i1, h1) := e1
  have e3' : spec_l25Cache.f k x i1 h1 y = some (z, b, c, i3, h3) := by
    rw [spec_l25Cache.f, e2]
    exact e3
  rw [spec_DrawFont.f, e0]
  simp only [Option.bind_some]
  rw [e1']
  simp only [Option.bind_some]
  rw [e3']
  exact ⟨y, z, b, c, rfl, hy, hid, hyg, hz, hbc⟩
theorem same_l0 (x : List Int) (hx : x.length ≤ 1048576) (d : Nat) : ∀ (k : Nat) (i : Nat), i + d = x.length → d < k → laws_sameInts.l0 k x x i = some true := by
  induction d with
  | zero =>
    intro k i hi hk
    obtain ⟨k, rfl⟩ : ∃ m, k = m + 1 := ⟨k - 1, by omega⟩
    rw [laws_sameInts.l0, if_neg (by omega)]
  | succ d ih =>
    intro k i hi hk
    obtain ⟨k, rfl⟩ : ∃ m, k = m + 1 := ⟨k - 1, by omega⟩
    rw [laws_sameInts.l0, if_pos (by omega), if_pos (by omega), if_pos (by omega), if_pos rfl, wrap_cast i (by omega)]
    exact ih k (i + 1) (by omega) (by omega)
theorem same_eq (x : List Int) (hx : x.length ≤ 1048576) (k : Nat) (hk : x.length < k) : laws_sameInts.f k x x = some true := by
  rw [laws_sameInts.f, if_pos rfl]
  exact same_l0 x hx x.length k 0 (by omega) hk
/-- The caches that are met: valid, and what they hold is the font's. -/
def inF (x y : List S32) : Prop := ∀ g ∈ x, ∃ n, n < y.length ∧ g = y.getD n z32
theorem any_find (id : Int) (x : List S32) : x.any (fun g => decide (g.f0 = id)) = decide (0 ≤ findG (isId id) x 0) := by
  rcases findG_cases (isId id) x 0 with ⟨h1, h2⟩ | ⟨n, h1, h2, h3⟩
  · rw [h1, decide_eq_false (by omega)]
    exact List.any_eq_false.2 (fun q hq => by have := h2 q hq; unfold isId at this; rw [this]; decide)
  · rw [h1, decide_eq_true (by omega)]
    exact List.any_eq_true.2 ⟨_, getD_mem x z32 n h2, h3⟩
/-- One fetch of what the font has: the glyph is the font's, it stands in front, the counters tell whether it was held. -/
theorem fetch_one (x y : List S32) (b c : Int) (n : Nat) (hg : goodC x b c) (hb : b < 100000) (hc : c < 100000) (hyg : ∀ g ∈ y, gB g = true) (hy : y.length = 8) (hid : ∀ m, m < 8 → (y.getD m z32).f0 = (m : Int)) (hF : inF x y) (hn : n < 8) :
    ∃ r b' c', fetchR x y b c n = some (y.getD n z32 :: r, b', c', (y.getD n z32).f0, (y.getD n z32).f1, (y.getD n z32).f2, true) ∧ goodC (y.getD n z32 :: r) b' c' ∧ inF (y.getD n z32 :: r) y ∧
      b' = b + (if (0 ≤ findG (isId n) x 0) then 1 else 0) ∧ c' = c + (if (0 ≤ findG (isId n) x 0) then 0 else 1) := by
  have hfont : ∀ g : S32, (∃ m, m < y.length ∧ g = y.getD m z32) → g.f0 = (n : Int) → g = y.getD n z32 := by
    rintro g ⟨m, hm, rfl⟩ h
    have := hid m (by omega)
    have e : m = n := by omega
    rw [e]
  unfold fetchR
  rcases findG_cases (isId n) x 0 with ⟨h1, h2⟩ | ⟨m, h1, h2, h3⟩
  · rw [h1, if_pos (by omega)]
    rcases findG_cases (isOk n) y 0 with ⟨h4, h5⟩ | ⟨m, h4, h5, h6⟩
    · have := h5 _ (getD_mem y z32 n (by omega))
      unfold isOk at this
      rw [decide_eq_true (hid n hn), hyg _ (getD_mem y z32 n (by omega))] at this
      exact absurd this (by decide)
    · have e : rd_T32 y (0 + (m : Int)) = y.getD m z32 := by simp [rd_T32]
      have hid2 : (y.getD m z32).f0 = (n : Int) := by
        unfold isOk at h6
        rw [Bool.and_eq_true] at h6
        exact of_decide_eq_true h6.1
      have em := hfont _ ⟨m, h5, rfl⟩ hid2
      have hgb := hyg _ (getD_mem y z32 m h5)
      have hz := miss_good x b c n _ hgb hid2 h2 hc hg
      have hs := trimR_sub (x.length + 1) (y.getD m z32 :: x)
      obtain ⟨r', er⟩ := trimR_head (y.getD m z32) (by have := gB_rows _ hgb; omega) x.length x rfl
      rw [er] at hz hs
      rw [h4, if_neg (by omega), e, er]
      rw [em] at hz hs ⊢
      refine ⟨r', b, c + 1, rfl, hz, fun g hq => ?_, by rw [if_neg (by omega)]; omega, by rw [if_neg (by omega)]⟩
      rcases List.mem_cons.1 (hs.subset hq) with rfl | hq
      · exact ⟨n, by omega, rfl⟩
      · exact hF g hq
  · have e : rd_T32 x (0 + (m : Int)) = x.getD m z32 := by simp [rd_T32]
    have e2 : (0 + (m : Int)).toNat = m := by omega
    have hid2 : (x.getD m z32).f0 = (n : Int) := of_decide_eq_true h3
    have em := hfont _ (hF _ (getD_mem x z32 m h2)) hid2
    have hz := hit_good x b c m h2 hb hg
    rw [h1, if_neg (by omega), e, e2]
    rw [em] at hz ⊢
    refine ⟨x.eraseIdx m, b + 1, c, rfl, hz, fun g hq => ?_, by rw [if_pos (by omega)], by rw [if_pos (by omega)]; omega⟩
    rcases List.mem_cons.1 hq with rfl | hq
    · exact ⟨n, by omega, rfl⟩
    · exact hF g ((List.eraseIdx_sublist x m).subset hq)
theorem fetchR_inF (x y : List S32) (b c id : Int) (hF : inF x y) {z : List S32} {b' c' g0 g1 : Int} {g2 : List Int} {fl : Bool} (h : fetchR x y b c id = some (z, b', c', g0, g1, g2, fl)) : inF z y := by
  unfold fetchR at h
  rcases findG_cases (isId id) x 0 with ⟨h1, h2⟩ | ⟨n, h1, h2, h3⟩
  · rw [h1, if_pos (by omega)] at h
    rcases findG_cases (isOk id) y 0 with ⟨h4, h5⟩ | ⟨m, h4, h5, h6⟩
    · rw [h4, if_pos (by omega)] at h
      simp only [Option.some.injEq, Prod.mk.injEq] at h
      rw [← h.1]
      exact hF
    · have e : rd_T32 y (0 + (m : Int)) = y.getD m z32 := by simp [rd_T32]
      rw [h4, if_neg (by omega), e] at h
      simp only [Option.some.injEq, Prod.mk.injEq] at h
      rw [← h.1]
      intro g hq
      rcases List.mem_cons.1 ((trimR_sub (x.length + 1) (y.getD m z32 :: x)).subset hq) with rfl | hq
      · exact ⟨m, h5, rfl⟩
      · exact hF g hq
  · have e : rd_T32 x (0 + (n : Int)) = x.getD n z32 := by simp [rd_T32]
    rw [h1, if_neg (by omega), e] at h
    simp only [Option.some.injEq, Prod.mk.injEq] at h
    rw [← h.1]
    intro g hq
    rcases List.mem_cons.1 hq with rfl | hq
    · exact hF _ (getD_mem x z32 n h2)
    · exact hF g ((List.eraseIdx_sublist x _).subset hq)
theorem cacheF_l0 (s : List Int) (hs : s.length ≤ 1048576) (y : List S32) (hy : y.length = 8) (hyg : ∀ g ∈ y, gB g = true) (n : Nat) (hn : n ≤ 12) (d : Nat) : ∀ (k : Nat) (x : List S32) (b c : Int) (j : Nat) (i h : Int), j + d = n → d + 2000 < k → 0 ≤ i → goodC x b c → inF x y → b + c ≤ j → ∃ x' b' c' i' h', spec_l25Cache.l0 k y n j s i h x b c = some (x', b', c', i', h') ∧ goodC x' b' c' ∧ inF x' y ∧ b' + c' ≤ 12 := by
  induction d with
  | zero =>
    intro k x b c j i h hj hk hi hg hF hbc
    obtain ⟨k, rfl⟩ : ∃ m, k = m + 1 := ⟨k - 1, by omega⟩
    rw [spec_l25Cache.l0, if_neg (by omega)]
    exact ⟨x, b, c, i, h, rfl, hg, hF, by omega⟩
  | succ d ih =>
    intro k x b c j i h hj hk hi hg hF hbc
    obtain ⟨k, rfl⟩ : ∃ m, k = m + 1 := ⟨k - 1, by omega⟩
    obtain ⟨v, i1, h1, e1, v0, v1, hi1⟩ := below_some s hs i h 9 hi (by omega)
    have hb0 := hg.2.2.2.1
    have hc0 := hg.2.2.2.2
    obtain ⟨z, b', c', g0, g1, g2, fl, e2, hz, hbc'⟩ := fetchR_good x y b c v hg (by omega) (by omega) hyg
    rw [spec_l25Cache.l0, if_pos (by omega), e1]
    simp only [Option.bind_some]
    rw [(fetch_good x y b c v hg (by omega) (by omega) (by omega) hyg k (by omega)).1, e2]
    simp only [Option.bind_some]
    rw [wrap_cast j (by omega)]
    exact ih k z b' c' (j + 1) i1 h1 (by omega) (by omega) hi1 hz (fetchR_inF x y b c v hF e2) (by omega)
theorem drawFontF_some (x : List Int) (hx : x.length ≤ 1048576) (k : Nat) (hk : x.length < k) (hk2 : 3000 < k) : ∃ y z b c, spec_DrawFont.f k x = some (y, z, b, c) ∧ y.length = 8 ∧ (∀ n, n < 8 → (y.getD n z32).f0 = (n : Int)) ∧ (∀ g ∈ y, gB g = true) ∧ goodC z b c ∧ inF z y ∧ b + c ≤ 12 := by
  obtain ⟨h, e0⟩ := new_some x hx k hk
  obtain ⟨y, i1, h1, e1, hy, hid, hyg, hi1⟩ := font_l0 x hx 8 k [] 0 0 h (by omega) (by omega) (by omega) rfl (fun n hn => by omega) (by simp)
  obtain ⟨v, i2, h2, e2, v0, v1, hi2⟩ := below_some x hx i1 h1 12 hi1 (by omega)
  obtain ⟨n, rfl⟩ : ∃ n : Nat, v = n := ⟨v.toNat, by omega⟩
  obtain ⟨z, b, c, i3, h3, e3, hz, hF, hbc⟩ := cacheF_l0 x hx y hy hyg n (by omega) n k [] 0 0 0 i2 h2 (by omega) (by omega) hi2 ⟨by simp, List.Pairwise.nil, by show (0 : Int) ≤ 20; omega, by omega, by omega⟩ (fun g hg => by simp at hg) (by omega)
  have e1' : spec_l25Font.f k x 0 h = some (y, i1, h1) := e1
  have e3' : spec_l25Cache.f k x i1 h1 y = some (z, b, c, i3, h3) := by
    rw [spec_l25Cache.f, e2]
    exact e3
  rw [spec_DrawFont.f, e0]
  simp only [Option.bind_some]
  rw [e1']
  simp only [Option.bind_some]
  rw [e3']
  exact ⟨y, z, b, c, rfl, hy, hid, hyg, hz, hF, hbc⟩
theorem law_l0 (y : List S32) (p : List Int) (hy : y.length = 8) (hid : ∀ m, m < 8 → (y.getD m z32).f0 = (m : Int)) (hyg : ∀ g ∈ y, gB g = true) (hp : p.length = 12) (hpr : ∀ v ∈ p, 0 ≤ v ∧ v < 10000) (d : Nat) : ∀ (k : Nat) (j : Nat) (x : List S32) (b c : Int), j + d = 10 → d + 2100 < k → goodC x b c → inF x y → b + c ≤ 12 + j → laws_FnCaches.l0 k y p j x b c = some true := by
  induction d with
  | zero =>
    intro k j x b c hj hk hg hF hbc
    obtain ⟨k, rfl⟩ : ∃ m, k = m + 1 := ⟨k - 1, by omega⟩
    rw [laws_FnCaches.l0, if_neg (by omega)]
  | succ d ih =>
    intro k j x b c hj hk hg hF hbc
    obtain ⟨k, rfl⟩ : ∃ m, k = m + 1 := ⟨k - 1, by omega⟩
    have hr0 := rd_range hp hpr j (by omega)
    have hm0 : 0 ≤ Int.tmod (rd p j) 8 ∧ Int.tmod (rd p j) 8 < 8 := tmod_range (a := rd p j) hr0.1 (by omega)
    rw [laws_FnCaches.l0, if_pos (by omega), if_pos (by omega), if_pos (by omega)]
    generalize Int.tmod (rd p j) 8 = id at hm0
    obtain ⟨n, rfl⟩ : ∃ n : Nat, id = n := ⟨id.toNat, by omega⟩
    have hb0 := hg.2.2.2.1
    have hc0 := hg.2.2.2.2
    have hl := rowsN_len x hg.1
    have hn0 := hg.2.2.1
    obtain ⟨r, b', c', f1, hz, hF2, eb, ec⟩ := fetch_one x y b c n hg (by omega) (by omega) hyg hy hid hF (by omega)
    have e : rd_T32 y (n : Int) = y.getD n z32 := by simp [rd_T32]
    have hgr := gB_rows _ (hyg _ (getD_mem y z32 n (by omega)))
    have hl2 := rowsN_len _ hz.1
    have hn2 := hz.2.2.1
    have hb1 := hz.2.2.2.1
    have hc1 := hz.2.2.2.2
    rw [implHolds_eq x b c n (by omega) k (by omega), any_find]
    simp only [Option.bind_some]
    rw [(fetch_good x y b c n hg (by omega) (by omega) (by omega) hyg k (by omega)).2, f1]
    simp only [Option.bind_some, if_true]
    rw [if_pos (hid n (by omega)), if_pos (by omega), if_pos (by omega), e, same_eq _ (by omega) k (by omega)]
    simp only [Option.bind_some, if_true]
    have hlen : (y.getD n z32 :: r).length ≤ 20 := by omega
    have hK : ((y.getD n z32 :: r).length) + 15 ≤ 35 := by omega
    rw [implCache_eq _ b' c' (by omega) (by omega) k (by omega), cacheB_good _ b' c' hz]
    simp only [Option.bind_some, if_true]
    have hpos : 0 < ((y.getD n z32 :: r).length : Int) := by rw [List.length_cons]; omega
    have e0 : rd_T32 (y.getD n z32 :: r) 0 = y.getD n z32 := by simp [rd_T32]
    rw [if_neg (by omega), if_pos hpos, e0, if_pos (hid n (by omega))]
    have hfin : laws_FnCaches.l0 k y p (wrap64 ((j : Int) + 1)) (y.getD n z32 :: r) b' c' = some true := by
      rw [wrap_cast j (by omega)]
      exact ih k (j + 1) _ b' c' (by omega) (by omega) hz hF2 (by split at eb <;> split at ec <;> omega)
    have hsz := implSize_eq (y.getD n z32 :: r) b' c' (by omega) (by omega) k (by omega)
    by_cases hh : 0 ≤ findG (isId n) x 0
    · rw [if_pos hh] at eb ec
      have eb2 : wrap64 (b + 1) = b' := (wrap_id (by omega) (by omega)).trans (by omega)
      have ec2 : wrap64 (c + 0) = c' := (wrap_id (by omega) (by omega)).trans (by omega)
      simp only [laws_btoi.f, decide_eq_true hh, Bool.not_true, Bool.false_eq_true, if_true, if_false, Option.bind_some, eb2, ec2]
      rw [hsz]
      simp only [Option.bind_some]
      rw [if_neg (by omega)]
      exact hfin
    · rw [if_neg hh] at eb ec
      have eb2 : wrap64 (b + 0) = b' := (wrap_id (by omega) (by omega)).trans (by omega)
      have ec2 : wrap64 (c + 1) = c' := (wrap_id (by omega) (by omega)).trans (by omega)
      simp only [laws_btoi.f, decide_eq_false hh, Bool.not_false, Bool.false_eq_true, if_true, if_false, Option.bind_some, eb2, ec2]
      rw [hsz]
      simp only [Option.bind_some]
      rw [if_neg (by omega)]
      exact hfin
theorem pure : laws_FnCaches.Stm := by
  intro x _ _
  obtain ⟨K, hK⟩ : ∃ K, K = x.length + 4000 := ⟨_, rfl⟩
  refine ⟨K, ?_⟩
  unfold laws_FnCaches.f laws_big.f
  simp only [Option.bind_some]
  by_cases h : (x.length : Int) > 1048576
  · simp [h]
  · rw [if_neg (by simpa using h)]
    obtain ⟨y, z, b, c, e1, hy, hid, hyg, hz, hF, hbc⟩ := drawFontF_some x (by omega) K (by omega) (by omega)
    obtain ⟨p, e2, hp, hpr⟩ := places_some x (by omega) K (by omega) (by omega)
    have hl := rowsN_len z hz.1
    have hn := hz.2.2.1
    rw [e1]
    simp only [Option.bind_some]
    rw [e2]
    simp only [Option.bind_some]
    rw [implCache_eq z b c (by omega) (by omega) K (by omega), cacheB_good z b c hz]
    simp only [Option.bind_some, if_true, impl_NewCache.f]
    have h0 : goodC ([] : List S32) 0 0 := ⟨by simp, List.Pairwise.nil, by show (0 : Int) ≤ 20; omega, by omega, by omega⟩
    rw [implCache_eq ([] : List S32) 0 0 (by simp) (by show (0 : Int) ≤ 1048576; omega) K (by simp; omega), cacheB_good [] 0 0 h0]
    simp only [Option.bind_some, Bool.not_true]
    obtain ⟨k, hk⟩ : ∃ k, K = k + 1 := ⟨K - 1, by omega⟩
    rw [hk, laws_FnCaches.j0, if_neg (by decide)]
    exact law_l0 y p hy hid hyg hp hpr 10 k 0 z b c (by omega) (by omega) hz hF (by omega)
end Go.Proofs.Ytphjcllhlecpfaa.PureFnCaches
