/- Of drawn words in lines: at each of the three ways to align, the words of a line stand one after the other inside the width, whatever is drawn: no condition. -/
import Derived.Test.YtanllimeiofaaaaOpsFnAligned
import Derived.Test.YtanllimeiofaaaaPlain
namespace Go.Proofs.Ytanllimeiofaaaa.PureFnAligned
open Go.RowKit Go.Proofs.Ytanllimeiofaaaa.PFnAligned Go.Proofs.Ytanllimeiofaaaa.Opened Go.Proofs.Ytanllimeiofaaaa.Plain Go.Proofs.YtanllimeiofaaaaW.PrintWords Go.Proofs.YtanllimeiofaaaaW.PrintLast Go.Proofs.YtanllimeiofaaaaW.PrintMore
set_option linter.unusedVariables false
set_option linter.unusedSimpArgs false
theorem new_l0 (x : List Int) (hx : x.length ≤ 1048576) (d : Nat) : ∀ (k : Nat) (h : Int) (i : Nat), i + d = x.length → d < k → ∃ h', spec_l01New.l0 k x h i = some (x, 0, h') := by
  induction d with
  | zero =>
    intro k h i hi hk
    obtain ⟨k, rfl⟩ : ∃ m, k = m + 1 := ⟨k - 1, by omega⟩
    rw [spec_l01New.l0, if_neg (by omega)]
    exact ⟨_, rfl⟩
  | succ d ih =>
    intro k h i hi hk
    obtain ⟨k, rfl⟩ : ∃ m, k = m + 1 := ⟨k - 1, by omega⟩
    rw [spec_l01New.l0, if_pos (by omega)]
    by_cases h4 : (i : Int) < 4000
    · rw [if_pos h4, if_pos (by omega), wrap_cast i (by omega)]
      exact ih k _ (i + 1) (by omega) (by omega)
    · rw [if_neg h4]
      exact ⟨_, rfl⟩
theorem new_some (x : List Int) (hx : x.length ≤ 1048576) (k : Nat) (hk : x.length < k) : ∃ h, spec_l01New.f k x = some (x, 0, h) := new_l0 x hx x.length k _ 0 (by omega) hk
theorem byte_some (s : List Int) (hs : s.length ≤ 1048576) (i h : Int) (hi : 0 ≤ i) : ∃ v i' h', spec_l01Byte.f s i h = some (v, i', h') ∧ 0 ≤ v ∧ v ≤ 255 ∧ 0 ≤ i' := by
  unfold spec_l01Byte.f
  simp only [i64_and255]
  by_cases h1 : i < (s.length : Int)
  · rw [if_pos h1, if_pos hi]
    exact ⟨_, _, _, rfl, by omega, by omega, by rw [wrap_id (by omega) (by omega)]; omega⟩
  · rw [if_neg h1]
    exact ⟨_, _, _, rfl, by omega, by omega, hi⟩
theorem below_some (s : List Int) (hs : s.length ≤ 1048576) (i h n : Int) (hi : 0 ≤ i) (hn : 0 < n) : ∃ v i' h', spec_l01Below.f s i h n = some (v, i', h') ∧ 0 ≤ v ∧ v < n ∧ 0 ≤ i' := by
  unfold spec_l01Below.f
  rw [if_neg (by omega)]
  obtain ⟨v1, i1, h1, e1, a1, b1, c1⟩ := byte_some s hs i h hi
  by_cases h2 : n ≤ 256
  · rw [if_pos h2, e1]
    simp only [Option.bind_some]
    rw [if_neg (by omega)]
    have := tmod_range a1 hn
    exact ⟨_, _, _, rfl, this.1, this.2, c1⟩
  · rw [if_neg h2, e1]
    simp only [Option.bind_some]
    obtain ⟨v2, i2, h2, e2, a2, b2, c2⟩ := byte_some s hs i1 h1 c1
    rw [e2]
    simp only [Option.bind_some]
    obtain ⟨v3, i3, h3, e3, a3, b3, c3⟩ := byte_some s hs i2 h2 c2
    rw [e3]
    simp only [Option.bind_some]
    obtain ⟨v4, i4, h4, e4, a4, b4, c4⟩ := byte_some s hs i3 h3 c3
    rw [e4]
    simp only [Option.bind_some]
    rw [if_neg (by omega)]
    have w1 : wrap64 (v1 * 16777216) = v1 * 16777216 := wrap_id (by omega) (by omega)
    have w2 : wrap64 (v2 * 65536) = v2 * 65536 := wrap_id (by omega) (by omega)
    have w3 : wrap64 (v3 * 256) = v3 * 256 := wrap_id (by omega) (by omega)
    rw [w1, w2, w3, wrap_id (x := v1 * 16777216 + v2 * 65536) (by omega) (by omega), wrap_id (x := v1 * 16777216 + v2 * 65536 + v3 * 256) (by omega) (by omega), wrap_id (x := v1 * 16777216 + v2 * 65536 + v3 * 256 + v4) (by omega) (by omega)]
    have := tmod_range (a := v1 * 16777216 + v2 * 65536 + v3 * 256 + v4) (by omega) hn
    exact ⟨_, _, _, rfl, this.1, this.2, c4⟩
def inB (a b c : Int) : Bool := if a ≥ b then decide (a ≤ c) else false
theorem in_eq (a b c : Int) : spec_l01In.f a b c = some (inB a b c) := by unfold spec_l01In.f inB; split <;> rfl
theorem within_eq (a b c : Int) : impl_within.f a b c = some (inB a b c) := in_eq a b c
theorem inB_iff (a b c : Int) : inB a b c = true ↔ b ≤ a ∧ a ≤ c := by unfold inB; split <;> simp <;> omega
def fits (w : Int) (y : Int) : Bool := inB y 1 w
def widthsB (x : List Int) (w : Int) : Bool := x.all (fits w) && (decide (x.length ≤ 30) && inB w 1 32)
theorem widthsB_iff (x : List Int) (w : Int) : widthsB x w = true ↔ (∀ y ∈ x, 1 ≤ y ∧ y ≤ w) ∧ x.length ≤ 30 ∧ 1 ≤ w ∧ w ≤ 32 := by
  simp [widthsB, fits, inB_iff]
theorem specWidths_l0 (x : List Int) (w : Int) (hx : x.length ≤ 1048576) (d : Nat) : ∀ (k : Nat) (i : Nat), i + d = x.length → d < k → spec_WidthsOk.l0 k x w i = some ((x.drop i).all (fits w) && (decide (x.length ≤ 30) && inB w 1 32)) := by
  induction d with
  | zero =>
    intro k i hi hk
    obtain ⟨k, rfl⟩ : ∃ m, k = m + 1 := ⟨k - 1, by omega⟩
    rw [spec_WidthsOk.l0, if_neg (by omega), List.drop_of_length_le (by omega), in_eq]
    by_cases h : x.length ≤ 30
    · rw [if_pos (by omega)]; simp [h]
    · rw [if_neg (by omega)]; simp [h]
  | succ d ih =>
    intro k i hi hk
    obtain ⟨k, rfl⟩ : ∃ m, k = m + 1 := ⟨k - 1, by omega⟩
    rw [spec_WidthsOk.l0, if_pos (by omega), if_pos (by omega), in_eq, drop_rd x i (by omega)]
    simp only [Option.bind_some, List.all_cons, fits]
    cases hf : inB (rd x i) 1 w with
    | false => simp
    | true => rw [if_pos rfl, wrap_cast i (by omega), ih k (i + 1) (by omega) (by omega)]; simp [fits]
theorem specWidths_eq (x : List Int) (w : Int) (hx : x.length ≤ 1048576) (k : Nat) (hk : x.length < k) : spec_WidthsOk.f k x w = some (widthsB x w) := by
  have := specWidths_l0 x w hx x.length k 0 (by omega) hk
  simpa [spec_WidthsOk.f, widthsB] using this
def setLast (o : List (List Int)) (i : Int) : List (List Int) := o.set (o.length - 1) (o.getD (o.length - 1) [] ++ [i])
/-- The lines, word after word. -/
def brk (x : List Int) (n : Int) : Nat → Nat → Int → List (List Int) → List (List Int)
  | 0, _, _, o => o
  | d + 1, i, u, o => if i = 0 ∨ u + 1 + rd x i > n then brk x n d (i + 1) (rd x i) (o ++ [[(i : Int)]]) else brk x n d (i + 1) (u + 1 + rd x i) (setLast o i)
def brkI (i : Nat) (o : List (List Int)) : Prop := o.length ≤ i ∧ (0 < i → 0 < o.length) ∧ ∀ r ∈ o, r.length ≤ i
theorem brkI_new {i : Nat} {o : List (List Int)} (h : brkI i o) : brkI (i + 1) (o ++ [[(i : Int)]]) := by
  refine ⟨by simp; exact h.1, by simp, fun r hr => ?_⟩
  rcases List.mem_append.1 hr with hr | hr
  · have := h.2.2 r hr; omega
  · rw [List.mem_singleton.1 hr]; simp
theorem last_mem {o : List (List Int)} (h : 0 < o.length) : o.getD (o.length - 1) [] ∈ o := getD_mem o [] (o.length - 1) (by omega)
theorem brkI_set {i : Nat} {o : List (List Int)} (h : brkI i o) (hi : 0 < i) : brkI (i + 1) (setLast o i) := by
  refine ⟨by simp [setLast]; have := h.1; omega, by simp [setLast]; have := h.2.1 hi; omega, fun r hr => ?_⟩
  rcases List.mem_or_eq_of_mem_set hr with hr | rfl
  · have := h.2.2 r hr; omega
  · have := h.2.2 _ (last_mem (h.2.1 hi)); rw [List.length_append]; simp only [List.length_cons, List.length_nil]; omega
theorem specBreak_l0 (x : List Int) (n : Int) (hb : widthsB x n = true) (d : Nat) : ∀ (k : Nat) (i : Nat) (u : Int) (o : List (List Int)), i + d = x.length → d < k → brkI i o → (i = 0 → u = n) → 0 ≤ u ∧ u ≤ n →
    spec_BreakLines.l0 k x n o u i = some (brk x n d i u o) := by
  obtain ⟨hw, hl, hn⟩ := (widthsB_iff x n).1 hb
  induction d with
  | zero =>
    intro k i u o hi hk ho hu hr
    obtain ⟨k, rfl⟩ : ∃ m, k = m + 1 := ⟨k - 1, by omega⟩
    rw [spec_BreakLines.l0, if_neg (by omega)]; rfl
  | succ d ih =>
    intro k i u o hi hk ho hu hr
    obtain ⟨k, rfl⟩ : ∃ m, k = m + 1 := ⟨k - 1, by omega⟩
    have hm := hw _ (rd_mem x i (by omega))
    have ho1 := ho.1
    rw [spec_BreakLines.l0, if_pos (by omega), if_pos (by omega), wrap_id (x := u + 1) (by omega) (by omega), wrap_id (x := u + 1 + rd x i) (by omega) (by omega), wrap_cast i (by omega)]
    unfold brk
    by_cases h : u + 1 + rd x i > n
    · rw [if_pos h, if_pos (by omega), if_pos (.inr h)]
      exact ih k (i + 1) _ _ (by omega) (by omega) (brkI_new ho) (by omega) (by omega)
    · have hi0 : i ≠ 0 := fun e => h (by have := hu e; omega)
      have hl0 := ho.2.1 (by omega)
      have e : wrap64 ((o.length : Int) - 1) = ((o.length - 1 : Nat) : Int) := by rw [wrap_id (by omega) (by omega)]; omega
      have er : rd_L2 o ((o.length - 1 : Nat) : Int) = o.getD (o.length - 1) [] := by simp [rd_L2]
      have hlr := ho.2.2 _ (last_mem hl0)
      rw [if_neg h, e, if_pos (by omega), if_pos (by omega), er, if_pos (by omega), Int.toNat_natCast, if_neg (by omega)]
      exact ih k (i + 1) _ _ (by omega) (by omega) (brkI_set ho (by omega)) (by omega) (by omega)
theorem specBreak_eq (x : List Int) (n : Int) (hx : x.length ≤ 1048576) (k : Nat) (hk : x.length < k) : spec_BreakLines.f k x n = some (if widthsB x n = true then brk x n x.length 0 0 [] else []) := by
  unfold spec_BreakLines.f
  rw [specWidths_eq x n hx k hk]
  simp only [Option.bind_some]
  cases hb : widthsB x n with
  | false => simp
  | true =>
    have hn := ((widthsB_iff x n).1 hb).2.2
    have := specBreak_l0 x n hb x.length k 0 n [] (by omega) hk ⟨by simp, by omega, by simp⟩ (fun _ => rfl) (by omega)
    simp only [if_true]
    rw [show ((0 : Nat) : Int) = 0 from rfl] at this
    rw [this]
    cases x with
    | nil => rfl
    | cons a r => simp [brk]
/-- The numbers s, s+1, .. (m of them). -/
def upTo (s m : Nat) : List Int := (List.range m).map (fun j => ((s + j : Nat) : Int))
theorem upTo_length (s m : Nat) : (upTo s m).length = m := by simp [upTo]
theorem upTo_succ (s m : Nat) : upTo s (m + 1) = upTo s m ++ [((s + m : Nat) : Int)] := by simp [upTo, List.range_succ]
theorem upTo_one (s : Nat) : upTo s 1 = [(s : Int)] := by simp [upTo]
theorem upTo_get (s m j : Nat) (h : j < m) : rd (upTo s m) j = ((s + j : Nat) : Int) := by
  rw [rd_nat, List.getD_eq_getElem?_getD, upTo, List.getElem?_map, List.getElem?_range h]; rfl
def sumR (x r : List Int) : Int := (r.map (rd x)).sum
theorem sumR_snoc (x r : List Int) (v : Int) : sumR x (r ++ [v]) = sumR x r + rd x v := by simp [sumR]
/-- The width of a line: its words and one between each two. -/
def wid (x r : List Int) : Int := sumR x r + r.length - 1
theorem wid_snoc (x r : List Int) (v : Int) : wid x (r ++ [v]) = wid x r + 1 + rd x v := by
  unfold wid; rw [sumR_snoc, List.length_append]; simp only [List.length_cons, List.length_nil]; omega
/-- The closed lines, from word c to word s: each fits, and would not with one more word. -/
def closedL (x : List Int) (n : Int) : Nat → List (List Int) → Nat → Prop
  | c, [], s => c = s
  | c, r :: p, s => 0 < r.length ∧ r = upTo c r.length ∧ wid x r ≤ n ∧ n < wid x (r ++ [((c + r.length : Nat) : Int)]) ∧ closedL x n (c + r.length) p s
theorem closedL_snoc (x : List Int) (n : Int) (p : List (List Int)) : ∀ (c s m : Nat), closedL x n c p s → 0 < m → wid x (upTo s m) ≤ n → n < wid x (upTo s m ++ [((s + m : Nat) : Int)]) → closedL x n c (p ++ [upTo s m]) (s + m) := by
  induction p with
  | nil =>
    intro c s m h hm h1 h2
    simp only [closedL] at h
    subst h
    simp only [List.nil_append, closedL, upTo_length]
    exact ⟨hm, trivial, h1, h2, trivial⟩
  | cons r p ih =>
    intro c s m h hm h1 h2
    simp only [closedL] at h
    simp only [List.cons_append, closedL]
    exact ⟨h.1, h.2.1, h.2.2.1, h.2.2.2.1, ih _ s m h.2.2.2.2 hm h1 h2⟩
/-- All lines, from word c on. -/
def lawL (x : List Int) (n : Int) : Nat → List (List Int) → Prop
  | c, [] => c = x.length
  | c, r :: o => 0 < r.length ∧ r = upTo c r.length ∧ wid x r ≤ n ∧ c + r.length ≤ x.length ∧ (c + r.length < x.length → n < wid x (r ++ [((c + r.length : Nat) : Int)])) ∧ lawL x n (c + r.length) o
theorem closedL_le (x : List Int) (n : Int) (p : List (List Int)) : ∀ (c s : Nat), closedL x n c p s → c ≤ s := by
  induction p with
  | nil => intro c s h; simp only [closedL] at h; omega
  | cons r p ih => intro c s h; simp only [closedL] at h; have := ih _ _ h.2.2.2.2; omega
theorem closedL_law (x : List Int) (n : Int) (p : List (List Int)) : ∀ (c s m : Nat), closedL x n c p s → 0 < m → s + m = x.length → wid x (upTo s m) ≤ n → lawL x n c (p ++ [upTo s m]) := by
  induction p with
  | nil =>
    intro c s m h hm hs h1
    simp only [closedL] at h
    subst h
    simp only [List.nil_append, lawL, upTo_length]
    exact ⟨hm, trivial, h1, by omega, fun hlt => by omega, hs⟩
  | cons r p ih =>
    intro c s m h hm hs h1
    have hle := closedL_le x n (r :: p) c s h
    simp only [closedL] at h
    have hle2 := closedL_le x n p _ _ h.2.2.2.2
    simp only [List.cons_append, lawL]
    exact ⟨h.1, h.2.1, h.2.2.1, by omega, fun _ => h.2.2.2.1, ih _ s m h.2.2.2.2 hm hs h1⟩
theorem setLast_snoc (p : List (List Int)) (r : List Int) (i : Int) : setLast (p ++ [r]) i = p ++ [r ++ [i]] := by
  unfold setLast
  have e : (p ++ [r]).length - 1 = p.length := by simp
  rw [e, List.set_append_right _ _ (Nat.le_refl _)]
  simp [List.getD_eq_getElem?_getD]
theorem brk_law (x : List Int) (n : Int) (hw : ∀ y ∈ x, 1 ≤ y ∧ y ≤ n) (d : Nat) : ∀ (i : Nat) (u : Int) (p : List (List Int)) (s m : Nat), i + d = x.length → s + m = i → 0 < m → closedL x n 0 p s → wid x (upTo s m) = u → u ≤ n → lawL x n 0 (brk x n d i u (p ++ [upTo s m])) := by
  induction d with
  | zero =>
    intro i u p s m hi hs hm hc hu hn
    exact closedL_law x n p 0 s m hc hm (by omega) (by omega)
  | succ d ih =>
    intro i u p s m hi hs hm hc hu hn
    have hr := hw _ (rd_mem x i (by omega))
    have hwid : wid x (upTo s m ++ [((s + m : Nat) : Int)]) = u + 1 + rd x i := by rw [wid_snoc, hu, hs]
    unfold brk
    by_cases h : u + 1 + rd x i > n
    · rw [if_pos (.inr h)]
      have e : (p ++ [upTo s m]) ++ [[(i : Int)]] = (p ++ [upTo s m]) ++ [upTo i 1] := by rw [upTo_one]
      rw [e]
      have hc' := closedL_snoc x n p 0 s m hc hm (by omega) (by omega)
      rw [hs] at hc'
      refine ih (i + 1) _ _ i 1 (by omega) rfl (by omega) hc' ?_ (by omega)
      rw [upTo_one]; simp [wid, sumR]
    · rw [if_neg (by omega), setLast_snoc, ← hs, ← upTo_succ]
      rw [hs]
      refine ih (i + 1) _ p s (m + 1) (by omega) (by omega) (by omega) hc ?_ (by omega)
      rw [upTo_succ, hwid]
theorem brk_law0 (x : List Int) (n : Int) (hw : ∀ y ∈ x, 1 ≤ y ∧ y ≤ n) : lawL x n 0 (brk x n x.length 0 0 []) := by
  cases hx : x.length with
  | zero => simp [brk, lawL, hx]
  | succ d =>
    have hr := hw _ (rd_mem x 0 (by omega))
    unfold brk
    rw [if_pos (.inl rfl)]
    have := brk_law x n hw d 1 (rd x (0 : Nat)) [] 0 1 (by omega) rfl (by omega) rfl (by rw [upTo_one]; simp [wid, sumR]) (by omega)
    rw [upTo_one] at this
    exact this
theorem sumR_range (x : List Int) (n : Int) (hw : ∀ y ∈ x, 1 ≤ y ∧ y ≤ n) (r : List Int) (hr : ∀ v ∈ r, 0 ≤ v ∧ v < x.length) : 0 ≤ sumR x r ∧ sumR x r ≤ n * r.length := by
  induction r with
  | nil => simp [sumR]
  | cons v r ih =>
    have h1 := ih (fun w hw' => hr w (List.mem_cons_of_mem _ hw'))
    have h2 := hr v (List.mem_cons_self ..)
    have h3 := hw _ (rd_mem x v.toNat (by omega))
    rw [show ((v.toNat : Nat) : Int) = v by omega] at h3
    have e : sumR x (v :: r) = rd x v + sumR x r := by simp [sumR]
    rw [e, List.length_cons]
    have : n * ((r.length + 1 : Nat) : Int) = n * r.length + n := by rw [Int.natCast_add, Int.mul_add]; omega
    omega
theorem width_l0 (x : List Int) (n : Int) (hx : x.length ≤ 30) (hn : 1 ≤ n ∧ n ≤ 32) (hw : ∀ y ∈ x, 1 ≤ y ∧ y ≤ n) (y : List Int) (hy : y.length ≤ 31) (hr : ∀ v ∈ y, 0 ≤ v ∧ v < x.length) (d : Nat) : ∀ (k : Nat) (i : Nat) (a : Int), i + d = y.length → d < k → 0 ≤ a → a + 32 * d ≤ 100000 → impl_LineWidth.l0 k x a y y.length i = some (a + sumR x (y.drop i)) := by
  induction d with
  | zero =>
    intro k i a hi hk h0 h1
    obtain ⟨k, rfl⟩ : ∃ m, k = m + 1 := ⟨k - 1, by omega⟩
    rw [impl_LineWidth.l0, if_neg (by omega), List.drop_of_length_le (by omega)]
    have : mx 0 a = a := by unfold mx; split <;> omega
    rw [this]; simp [sumR]
  | succ d ih =>
    intro k i a hi hk h0 h1
    obtain ⟨k, rfl⟩ : ∃ m, k = m + 1 := ⟨k - 1, by omega⟩
    have hv := hr _ (rd_mem y i (by omega))
    have hm := hw _ (rd_mem x (rd y i).toNat (by omega))
    rw [show (((rd y i).toNat : Nat) : Int) = rd y i by omega] at hm
    have hb : inB (rd y i) 0 (wrap64 ((x.length : Int) - 1)) = true := by rw [inB_iff, wrap_id (by omega) (by omega)]; omega
    have e : sumR x (y.drop i) = rd x (rd y i) + sumR x (y.drop (i + 1)) := by rw [drop_rd y i (by omega)]; simp [sumR]
    rw [impl_LineWidth.l0, if_pos (by omega), if_pos (by omega), if_pos (by omega), within_eq, hb]
    simp only [Option.bind_some, if_true]
    rw [if_pos (by omega), if_pos (by omega), wrap_cast i (by omega), wrap_id (x := a + rd x (rd y i)) (by omega) (by omega), ih k (i + 1) _ (by omega) (by omega) (by omega) (by omega), e]
    congr 1; omega
theorem width_eq (x : List Int) (n : Int) (hx : x.length ≤ 30) (hn : 1 ≤ n ∧ n ≤ 32) (hw : ∀ y ∈ x, 1 ≤ y ∧ y ≤ n) (y : List Int) (h0 : 0 < y.length) (hy : y.length ≤ 31) (hr : ∀ v ∈ y, 0 ≤ v ∧ v < x.length) (k : Nat) (hk : y.length < k) : impl_LineWidth.f k x y = some (wid x y) := by
  have h := width_l0 x n hx hn hw y hy hr y.length k 0 ((y.length : Int) - 1) (by omega) hk (by omega) (by omega)
  rw [impl_LineWidth.f, if_neg (by omega), wrap_id (by omega) (by omega), show (0 : Int) = ((0 : Nat) : Int) from rfl, h, List.drop_zero]
  unfold wid; congr 1; omega
theorem words_l0 (s : List Int) (hs : s.length ≤ 1048576) (w : Int) (hw : 1 ≤ w ∧ w ≤ 32) (n : Nat) (hn : n ≤ 12) (d : Nat) : ∀ (k : Nat) (t : List Int) (i : Nat) (c h : Int), i + d = n → d < k → 0 ≤ c → t.length = i → (∀ y ∈ t, 1 ≤ y ∧ y ≤ w) →
    ∃ t' c' h', spec_l26Words.l0 k w t n i s c h = some (t', c', h') ∧ t'.length = n ∧ ∀ y ∈ t', 1 ≤ y ∧ y ≤ w := by
  induction d with
  | zero =>
    intro k t i c h hi hk hc hl ht
    obtain ⟨k, rfl⟩ : ∃ m, k = m + 1 := ⟨k - 1, by omega⟩
    rw [spec_l26Words.l0, if_neg (by omega)]
    exact ⟨t, c, h, rfl, by omega, ht⟩
  | succ d ih =>
    intro k t i c h hi hk hc hl ht
    obtain ⟨k, rfl⟩ : ∃ m, k = m + 1 := ⟨k - 1, by omega⟩
    obtain ⟨v, c1, h1, e1, a1, b1, hc1⟩ := below_some s hs c h w hc (by omega)
    rw [spec_l26Words.l0, if_pos (by omega), e1]
    simp only [Option.bind_some]
    rw [if_pos (by omega), wrap_cast i (by omega), wrap_id (x := 1 + v) (by omega) (by omega)]
    refine ih k _ (i + 1) c1 h1 (by omega) (by omega) hc1 (by simp; omega) (fun y hy => ?_)
    rcases List.mem_append.1 hy with hy | hy
    · exact ht y hy
    · rw [List.mem_singleton.1 hy]; omega
theorem drawWords_some (x : List Int) (hx : x.length ≤ 1048576) (k : Nat) (hk : x.length + 20 < k) : ∃ t w, spec_DrawWords.f k x = some (t, w) ∧ t.length ≤ 12 ∧ (1 ≤ w ∧ w ≤ 32) ∧ ∀ y ∈ t, 1 ≤ y ∧ y ≤ w := by
  obtain ⟨h, e⟩ := new_some x hx k (by omega)
  obtain ⟨v, c1, h1, e1, a1, b1, hc1⟩ := below_some x hx 0 h 29 (by omega) (by omega)
  obtain ⟨v2, c2, h2, e2, a2, b2, hc2⟩ := below_some x hx c1 h1 12 hc1 (by omega)
  obtain ⟨t, c3, h3, e3, hl, ht⟩ := words_l0 x hx (4 + v) (by omega) v2.toNat (by omega) v2.toNat k [] 0 c2 h2 (by omega) (by omega) hc2 rfl (by simp)
  refine ⟨t, 4 + v, ?_, by omega, by omega, ht⟩
  rw [show ((v2.toNat : Nat) : Int) = v2 by omega] at e3
  unfold spec_DrawWords.f spec_l26Words.f
  rw [e]
  simp only [Option.bind_some]
  rw [e1]
  simp only [Option.bind_some]
  rw [wrap_id (x := 4 + v) (by omega) (by omega), e2]
  simp only [Option.bind_some]
  have e3' : spec_l26Words.l0 k (4 + v) [] v2 0 x c2 h2 = some (t, c3, h3) := e3
  rw [e3']
  rfl
theorem rowIn (c : Nat) (r : List Int) (x : List Int) (h : r = upTo c r.length) (hl : c + r.length ≤ x.length) : ∀ v ∈ r, 0 ≤ v ∧ v < x.length := by
  intro v hv
  rw [h, upTo] at hv
  obtain ⟨j, hj, rfl⟩ := List.mem_map.1 hv
  rw [List.mem_range] at hj
  omega
theorem brk_len (x : List Int) (n : Int) (d : Nat) : ∀ (i : Nat) (u : Int) (o : List (List Int)), (brk x n d i u o).length ≤ o.length + d := by
  induction d with
  | zero => intro i u o; simp [brk]
  | succ d ih =>
    intro i u o
    unfold brk
    split
    · have := ih (i + 1) (rd x i) (o ++ [[(i : Int)]])
      simp only [List.length_append, List.length_cons, List.length_nil] at this
      omega
    · have := ih (i + 1) (u + 1 + rd x i) (setLast o i)
      have e : (setLast o i).length = o.length := by simp [setLast]
      omega
def starts (x : List Int) (a : Int) : List Int → List Int
  | [] => []
  | v :: r => a :: starts x (a + (rd x v + 1)) r
theorem starts_length (x r : List Int) : ∀ a, (starts x a r).length = r.length := by
  induction r with
  | nil => intro a; rfl
  | cons v r ih => intro a; simp [starts, ih]
/-- Where word i of the line stands, from the line's start on. -/
def pos (x r : List Int) (i : Nat) : Int := sumR x (r.take i) + i
theorem starts_get (x r : List Int) : ∀ (a : Int) (i : Nat), i < r.length → rd (starts x a r) i = a + pos x r i := by
  induction r with
  | nil => intro a i h; simp at h
  | cons v r ih =>
    intro a i h
    cases i with
    | zero => rw [rd_nat]; simp [starts, pos, sumR]
    | succ i =>
      have := ih (a + (rd x v + 1)) i (by simpa using h)
      rw [rd_nat] at this ⊢
      simp only [starts, List.getD_cons_succ, pos, List.take_succ_cons, sumR, List.map_cons, List.sum_cons] at this ⊢
      rw [this]; omega
theorem pos_succ (x r : List Int) (i : Nat) (h : i < r.length) : pos x r (i + 1) = pos x r i + rd x (rd r i) + 1 := by
  unfold pos
  have e : r.take (i + 1) = r.take i ++ [rd r i] := by
    rw [List.take_add_one, rd_nat, List.getD_eq_getElem?_getD, List.getElem?_eq_getElem h]; rfl
  rw [e, sumR_snoc]; omega
theorem pos_len (x r : List Int) : pos x r r.length = wid x r + 1 := by
  unfold pos wid; rw [List.take_length]; omega
theorem pos_le (x r : List Int) (h : ∀ v ∈ r, 1 ≤ rd x v) (d : Nat) : ∀ i : Nat, i + d = r.length → pos x r i + 2 * d ≤ pos x r r.length := by
  induction d with
  | zero => intro i hi; have : i = r.length := by omega
            rw [this]; omega
  | succ d ih =>
    intro i hi
    have h1 := ih (i + 1) (by omega)
    have h2 := pos_succ x r i (by omega)
    have h3 := h _ (rd_mem r i (by omega))
    omega
theorem pos_zero (x r : List Int) : pos x r 0 = 0 := by simp [pos, sumR]
theorem pos_ge (x r : List Int) (h : ∀ v ∈ r, 1 ≤ rd x v) (i : Nat) : i ≤ r.length → 0 ≤ pos x r i := by
  induction i with
  | zero => intro _; rw [pos_zero]; omega
  | succ i ih =>
    intro hi
    have h1 := ih (by omega)
    have h2 := pos_succ x r i (by omega)
    have h3 := h _ (rd_mem r i (by omega))
    omega
theorem starts_l0 (x : List Int) (n : Int) (hx : x.length ≤ 30) (hn : 1 ≤ n ∧ n ≤ 32) (hw : ∀ y ∈ x, 1 ≤ y ∧ y ≤ n) (y : List Int) (hy : y.length ≤ 31) (hr : ∀ v ∈ y, 0 ≤ v ∧ v < x.length) (d : Nat) : ∀ (k : Nat) (i : Nat) (a : Int) (o : List Int), i + d = y.length → d < k → 0 ≤ a → a + 40 * d ≤ 100000 → o.length = i → impl_StartsOf.l0 k x a o y y.length i = some (o ++ starts x a (y.drop i)) := by
  induction d with
  | zero =>
    intro k i a o hi hk h0 h1 ho
    obtain ⟨k, rfl⟩ : ∃ m, k = m + 1 := ⟨k - 1, by omega⟩
    rw [impl_StartsOf.l0, if_neg (by omega), List.drop_of_length_le (by omega), starts, List.append_nil]
  | succ d ih =>
    intro k i a o hi hk h0 h1 ho
    obtain ⟨k, rfl⟩ : ∃ m, k = m + 1 := ⟨k - 1, by omega⟩
    have hv := hr _ (rd_mem y i (by omega))
    have hm := hw _ (rd_mem x (rd y i).toNat (by omega))
    rw [show (((rd y i).toNat : Nat) : Int) = rd y i by omega] at hm
    rw [impl_StartsOf.l0, if_pos (by omega), if_pos (by omega), if_pos (by omega), if_pos (by omega), if_pos (by omega), if_pos (by omega), wrap_cast i (by omega), wrap_id (x := rd x (rd y i) + 1) (by omega) (by omega), wrap_id (x := a + (rd x (rd y i) + 1)) (by omega) (by omega), drop_rd y i (by omega), starts, ih k (i + 1) _ _ (by omega) (by omega) (by omega) (by omega) (by simp; omega), List.append_assoc]
    rfl
theorem startsOf_eq (x : List Int) (n : Int) (hx : x.length ≤ 30) (hn : 1 ≤ n ∧ n ≤ 32) (hw : ∀ y ∈ x, 1 ≤ y ∧ y ≤ n) (y : List Int) (h0 : 0 < y.length) (hy : y.length ≤ 31) (hr : ∀ v ∈ y, 0 ≤ v ∧ v < x.length) (hp : 1 ≤ wid x y) (hf : wid x y ≤ n) (t : Int) (ht : 0 ≤ t ∧ t ≤ 2) (k : Nat) (hk : y.length + 3 < k) : ∃ a, 0 ≤ a ∧ a + wid x y ≤ n ∧ impl_StartsOf.f k x y n t = some (starts x a y) := by
  obtain ⟨k, rfl⟩ : ∃ m, k = m + 1 := ⟨k - 1, by omega⟩
  obtain ⟨k, rfl⟩ : ∃ m, k = m + 1 := ⟨k - 1, by omega⟩
  have hi : inB t 0 2 = true := (inB_iff _ _ _).2 ht
  have key : ∀ a, 0 ≤ a → a ≤ 32 → impl_StartsOf.j1 (k + 1) x y a = some (starts x a y) := by
    intro a h1 h2
    have := starts_l0 x n hx hn hw y hy hr y.length k 0 a [] (by omega) (by omega) h1 (by omega) rfl
    rw [impl_StartsOf.j1]
    simpa using this
  have ew : impl_LineWidth.f (k + 1 + 1) x y = some (wid x y) := width_eq x n hx hn hw y h0 hy hr _ (by omega)
  have es : wrap64 (n - wid x y) = n - wid x y := wrap_id (by omega) (by omega)
  have e2 : Int.tdiv (n - wid x y) 2 = (n - wid x y) / 2 := Int.tdiv_eq_ediv_of_nonneg (by omega)
  have e3 : wrap64 ((n - wid x y) / 2) = (n - wid x y) / 2 := wrap_id (by omega) (by omega)
  have hfin : impl_StartsOf.f (k + 1 + 1) x y n t = impl_StartsOf.j0 (k + 1 + 1) x y n t (wid x y) false := by
    rw [impl_StartsOf.f, ew]
    simp only [Option.bind_some]
    rw [if_neg (by omega), if_neg (by omega), within_eq, hi]
    rfl
  rw [hfin, impl_StartsOf.j0]
  simp only [Bool.false_eq_true, if_false, es, e2, e3]
  by_cases c1 : t = 1
  · rw [if_pos c1]; exact ⟨n - wid x y, by omega, by omega, key _ (by omega) (by omega)⟩
  · rw [if_neg c1]
    by_cases c2 : t = 2
    · rw [if_pos c2]; exact ⟨(n - wid x y) / 2, by omega, by omega, key _ (by omega) (by omega)⟩
    · rw [if_neg c2]; exact ⟨0, by omega, by omega, key _ (by omega) (by omega)⟩
theorem law_l0 (x : List Int) (n : Int) (hx : x.length ≤ 12) (hn : 1 ≤ n ∧ n ≤ 32) (hw : ∀ y ∈ x, 1 ≤ y ∧ y ≤ n) (o : List (List Int)) (ho : o.length ≤ 12) (d : Nat) :
    ∀ (k : Nat) (j c : Nat), j + d = o.length → 100 * d + 100 < k → lawL x n c (o.drop j) → laws_FnAligned.l0 k x n o j = some true := by
  induction d with
  | zero =>
    intro k j c hj hk hl
    obtain ⟨k, rfl⟩ : ∃ m, k = m + 1 := ⟨k - 1, by omega⟩
    rw [laws_FnAligned.l0, if_neg (by omega)]
  | succ d ih =>
    intro k j c hj hk hl
    obtain ⟨k, rfl⟩ : ∃ m, k = m + 1 := ⟨k - 1, by omega⟩
    have er : rd_L2 o j = o.getD j [] := by simp [rd_L2]
    rw [getD_drop o [] j (by omega)] at hl
    generalize hR : o.getD j [] = r at hl er
    simp only [lawL] at hl
    obtain ⟨h0, h1, h2, h3, h4, h5⟩ := hl
    have hin := rowIn c r x h1 h3
    have hone : ∀ v ∈ r, 1 ≤ rd x v := fun v hv => by
      have hv' := hin v hv
      have := hw _ (rd_mem x v.toNat (by omega))
      rw [show ((v.toNat : Nat) : Int) = v by omega] at this
      exact this.1
    have hpl := pos_len x r
    have hp1 : 1 ≤ wid x r := by
      have := pos_le x r hone r.length 0 (by omega)
      rw [pos_zero] at this; omega
    have outer : ∀ (e k' t : Nat), t + e = 3 → 20 * e + 100 * d + 110 < k' → laws_FnAligned.l1 k' x n o j t = some true := by
      intro e
      induction e with
      | zero =>
        intro k' t ht hk2
        obtain ⟨k', rfl⟩ : ∃ m, k' = m + 1 := ⟨k' - 1, by omega⟩
        rw [laws_FnAligned.l1, if_neg (by omega), wrap_cast j (by omega)]
        exact ih k' (j + 1) _ (by omega) (by omega) h5
      | succ e ihe =>
        intro k' t ht hk2
        obtain ⟨k', rfl⟩ : ∃ m, k' = m + 1 := ⟨k' - 1, by omega⟩
        obtain ⟨a, ha, hb, eq⟩ := startsOf_eq x n (by omega) hn hw r h0 (by omega) hin hp1 h2 t (by omega) k' (by omega)
        have hql := starts_length x r a
        rw [laws_FnAligned.l1, if_pos (by omega), if_pos (by omega), if_pos (by omega), er, eq]
        simp only [Option.bind_some]
        rw [if_pos (by omega)]
        have inner : ∀ (q k2 i : Nat), i + q = r.length → q + 20 * e + 100 * d + 111 < k2 → laws_FnAligned.l2 k2 x n o j t (starts x a r) i = some true := by
          intro q
          induction q with
          | zero =>
            intro k2 i hi hk3
            obtain ⟨k2, rfl⟩ : ∃ m, k2 = m + 1 := ⟨k2 - 1, by omega⟩
            rw [laws_FnAligned.l2, if_neg (by omega), wrap_cast t (by omega)]
            exact ihe k2 (t + 1) (by omega) (by omega)
          | succ q ihq =>
            intro k2 i hi hk3
            obtain ⟨k2, rfl⟩ : ∃ m, k2 = m + 1 := ⟨k2 - 1, by omega⟩
            have g1 := starts_get x r a i (by omega)
            have g2 := pos_ge x r hone i (by omega)
            have g3 := pos_succ x r i (by omega)
            have g4 := pos_le x r hone q (i + 1) (by omega)
            have hv := hin _ (rd_mem r i (by omega))
            have hv1 := hone _ (rd_mem r i (by omega))
            rw [laws_FnAligned.l2, if_pos (by omega), if_pos (by omega), if_neg (by omega), if_pos (by omega), if_pos (by omega), er, if_pos (by omega), if_pos (by omega), if_pos (by omega), wrap_id (x := rd (starts x a r) i + rd x (rd r i)) (by omega) (by omega), if_neg (by omega), wrap_cast i (by omega)]
            by_cases hz : i = 0
            · rw [if_neg (by omega)]
              exact ihq k2 (i + 1) (by omega) (by omega)
            · have g5 := starts_get x r a (i - 1) (by omega)
              have g6 := pos_ge x r hone (i - 1) (by omega)
              have g7 := pos_succ x r (i - 1) (by omega)
              have hu := hin _ (rd_mem r (i - 1) (by omega))
              have hu1 := hone _ (rd_mem r (i - 1) (by omega))
              have ei : wrap64 ((i : Int) - 1) = ((i - 1 : Nat) : Int) := by rw [wrap_id (by omega) (by omega)]; omega
              rw [show i - 1 + 1 = i by omega] at g7
              rw [if_pos (by omega), ei, if_pos (by omega), if_pos (by omega), if_pos (by omega), if_pos (by omega), if_pos (by omega), wrap_id (x := rd (starts x a r) ((i - 1 : Nat) : Int) + rd x (rd r ((i - 1 : Nat) : Int))) (by omega) (by omega), wrap_id (x := rd (starts x a r) ((i - 1 : Nat) : Int) + rd x (rd r ((i - 1 : Nat) : Int)) + 1) (by omega) (by omega), if_pos (by omega)]
              exact ihq k2 (i + 1) (by omega) (by omega)
        exact inner r.length k' 0 (by omega) (by omega)
    rw [laws_FnAligned.l0, if_pos (by omega)]
    exact outer 3 k 0 (by omega) (by omega)
theorem pure : laws_FnAligned.Stm := by
  intro x _ _
  refine ⟨x.length + 3000, ?_⟩
  generalize hK : x.length + 3000 = K
  unfold laws_FnAligned.f laws_big.f
  simp only [Option.bind_some]
  by_cases h : (x.length : Int) > 1048576
  · simp [h]
  · rw [if_neg (by simpa using h)]
    obtain ⟨t, w, e, hl, hn, hw⟩ := drawWords_some x (by omega) K (by omega)
    have hwb : widthsB t w = true := (widthsB_iff t w).2 ⟨hw, by omega, hn⟩
    have e2 : spec_BreakLines.f K t w = some (brk t w t.length 0 0 []) := by
      rw [specBreak_eq t w (by omega) K (by omega), if_pos hwb]
    have hlen := brk_len t w t.length 0 0 []
    simp only [List.length_nil, Nat.zero_add] at hlen
    have e3 := law_l0 t w hl hn hw (brk t w t.length 0 0 []) (by omega) (brk t w t.length 0 0 []).length K 0 0 (by omega) (by omega) (brk_law0 t w hw)
    have e7 : ((0 : Nat) : Int) = 0 := rfl
    rw [e7] at e3
    rw [e, Option.bind_some, e2, Option.bind_some]
    exact e3
end Go.Proofs.Ytanllimeiofaaaa.PureFnAligned
